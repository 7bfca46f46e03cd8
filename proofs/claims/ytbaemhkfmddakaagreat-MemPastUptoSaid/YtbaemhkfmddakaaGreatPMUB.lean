import Derived.Test.YtbaemhkfmddakaaGreatPMUA
import Derived.Test.YtbaemhkfmddakaaGreatSyArr
set_option linter.unusedVariables false
set_option linter.unusedSectionVars false
set_option linter.unusedSimpArgs false
set_option maxRecDepth 100000
namespace Go.Proofs.YtbaemhkfmddakaaGreat.Mo
open Go Go.Proofs.YtbaemhkfmddakaaGreat.Sy
section
variable {lt : Int → Int → Prop} [DecidableRel lt] {d : Int}
theorem par_l3_uint64 (hc : ∀ x y, cmp_Less_uint64 x y = some (decide (lt x y))) {l : List Int} {a j : Nat} (hj : j < l.length) (ha : a < l.length) (hl : l.length ≤ 1152921504606846976) (i : Nat) (hi : i ≤ j + 1) :
    ∃ t, i ≤ t ∧ t ≤ j + 1 ∧ (∀ k, i ≤ k → k < t → lt (A d l k) (A d l a)) ∧ (t ≤ j → ¬ lt (A d l t) (A d l a)) ∧ EvC (fun J k => slices_partitionOrdered_uint64.l3 (a : Int) l (j : Int) J k (i : Int)) (t : Int) := by
  obtain ⟨t, g1, g2, g3, g4, g5⟩ := scan_up (fun k => k ≤ j ∧ lt (A d l k) (A d l a)) (fun J k i => slices_partitionOrdered_uint64.l3 (a : Int) l (j : Int) J k i) i (j + 1) (fun h => by omega) (by
    intro J k q h1 h2
    by_cases hq : q ≤ j
    · by_cases hlt : lt (A d l q) (A d l a)
      · simp only [slices_partitionOrdered_uint64.l3, Jn, dLe hq, if_true, idx_A (d := d) (show q < l.length by omega), idx_A (d := d) ha, Option.bind_some, hc, decide_eq_true hlt, hq, hlt, decide_true, decide_false, Bool.not_true, Bool.not_false, Bool.false_eq_true, if_true, if_false, true_and, and_self, wS (n := q) (by omega)]
      · simp only [slices_partitionOrdered_uint64.l3, Jn, dLe hq, if_true, idx_A (d := d) (show q < l.length by omega), idx_A (d := d) ha, Option.bind_some, hc, decide_eq_false hlt, hq, hlt, decide_true, decide_false, Bool.not_true, Bool.not_false, Bool.false_eq_true, if_true, if_false, and_false, if_false, Bool.false_eq_true]
    · simp only [slices_partitionOrdered_uint64.l3, Jn, dLeF hq, if_false, Bool.false_eq_true, hq, false_and]) _ i (Nat.le_refl _) (Nat.le_refl _) hi
  exact ⟨t, g1, g2, fun k h1 h2 => (g3 k h1 h2).2, fun h k => g4 ⟨h, k⟩, g5⟩
theorem par_l2_uint64 (hc : ∀ x y, cmp_Less_uint64 x y = some (decide (lt x y))) {l : List Int} {a i j : Nat} (hj : j < l.length) (ha : a < l.length) (hl : l.length ≤ 1152921504606846976) (h0 : 0 < i) (hi : i ≤ j + 1) :
    ∃ t, i ≤ t + 1 ∧ t ≤ j ∧ (∀ k, t < k → k ≤ j → ¬ lt (A d l k) (A d l a)) ∧ (i ≤ t → lt (A d l t) (A d l a)) ∧ EvC (fun J k => slices_partitionOrdered_uint64.l2 (a : Int) l (i : Int) J k (j : Int)) (t : Int) := by
  obtain ⟨t, g1, g2, g3, g4, g5⟩ := scan_down (fun k => i ≤ k ∧ ¬ lt (A d l k) (A d l a)) (fun J k j => slices_partitionOrdered_uint64.l2 (a : Int) l (i : Int) J k j) (i - 1) j (fun h => by omega) (by
    intro J k q h1 h2
    by_cases hq : i ≤ q
    · by_cases hlt : lt (A d l q) (A d l a)
      · simp only [slices_partitionOrdered_uint64.l2, Jn, dLe hq, if_true, idx_A (d := d) (show q < l.length by omega), idx_A (d := d) ha, Option.bind_some, hc, decide_eq_true hlt, hq, hlt, decide_true, decide_false, Bool.not_true, Bool.not_false, Bool.false_eq_true, if_true, if_false, Bool.not_true, not_true, and_false, if_false, Bool.false_eq_true]
      · simp only [slices_partitionOrdered_uint64.l2, Jn, dLe hq, if_true, idx_A (d := d) (show q < l.length by omega), idx_A (d := d) ha, Option.bind_some, hc, decide_eq_false hlt, hq, hlt, decide_true, decide_false, Bool.not_true, Bool.not_false, Bool.false_eq_true, if_true, if_false, Bool.not_false, not_false_iff, and_self, wP (n := q) (by omega) (by omega)]
    · simp only [slices_partitionOrdered_uint64.l2, Jn, dLeF hq, if_false, Bool.false_eq_true, hq, false_and]) _ j (Nat.le_refl _) (by omega) (Nat.le_refl _)
  exact ⟨t, by omega, g2, fun k h1 h2 => (g3 k h1 h2).2, fun h => Classical.byContradiction fun k => g4 ⟨h, k⟩, g5⟩
theorem par_l4_uint64 (hc : ∀ x y, cmp_Less_uint64 x y = some (decide (lt x y))) {l : List Int} {a i j : Nat} (hj : j < l.length) (ha : a < l.length) (hl : l.length ≤ 1152921504606846976) (h0 : 0 < i) (hi : i ≤ j + 1) :
    ∃ t, i ≤ t + 1 ∧ t ≤ j ∧ (∀ k, t < k → k ≤ j → ¬ lt (A d l k) (A d l a)) ∧ (i ≤ t → lt (A d l t) (A d l a)) ∧ EvC (fun J k => slices_partitionOrdered_uint64.l4 (a : Int) l (i : Int) J k (j : Int)) (t : Int) := by
  obtain ⟨t, g1, g2, g3, g4, g5⟩ := scan_down (fun k => i ≤ k ∧ ¬ lt (A d l k) (A d l a)) (fun J k j => slices_partitionOrdered_uint64.l4 (a : Int) l (i : Int) J k j) (i - 1) j (fun h => by omega) (by
    intro J k q h1 h2
    by_cases hq : i ≤ q
    · by_cases hlt : lt (A d l q) (A d l a)
      · simp only [slices_partitionOrdered_uint64.l4, Jn, dLe hq, if_true, idx_A (d := d) (show q < l.length by omega), idx_A (d := d) ha, Option.bind_some, hc, decide_eq_true hlt, hq, hlt, decide_true, decide_false, Bool.not_true, Bool.not_false, Bool.false_eq_true, if_true, if_false, Bool.not_true, not_true, and_false, if_false, Bool.false_eq_true]
      · simp only [slices_partitionOrdered_uint64.l4, Jn, dLe hq, if_true, idx_A (d := d) (show q < l.length by omega), idx_A (d := d) ha, Option.bind_some, hc, decide_eq_false hlt, hq, hlt, decide_true, decide_false, Bool.not_true, Bool.not_false, Bool.false_eq_true, if_true, if_false, Bool.not_false, not_false_iff, and_self, wP (n := q) (by omega) (by omega)]
    · simp only [slices_partitionOrdered_uint64.l4, Jn, dLeF hq, if_false, Bool.false_eq_true, hq, false_and]) _ j (Nat.le_refl _) (by omega) (Nat.le_refl _)
  exact ⟨t, by omega, g2, fun k h1 h2 => (g3 k h1 h2).2, fun h => Classical.byContradiction fun k => g4 ⟨h, k⟩, g5⟩
theorem par_l1_uint64 (hc : ∀ x y, cmp_Less_uint64 x y = some (decide (lt x y))) {a b : Nat} : ∀ (n : Nat) (l : List Int) (i j : Nat), j + 1 - i ≤ n → a < i → i ≤ j + 1 → j < b → b ≤ l.length → l.length ≤ 1152921504606846976 →
    (∀ k, a < k → k < i → lt (A d l k) (A d l a)) → (∀ k, j < k → k < b → ¬ lt (A d l k) (A d l a)) →
    ∃ l' m, Rng (a + 1) b l l' ∧ a ≤ m ∧ m < b ∧ (∀ k, a < k → k ≤ m → lt (A d l' k) (A d l' a)) ∧ (∀ k, m < k → k < b → ¬ lt (A d l' k) (A d l' a)) ∧
      EvC2 (fun J k => slices_partitionOrdered_uint64.l1 (a : Int) J k l (i : Int) (j : Int)) l' (m : Int) := by
  intro n
  induction n with
  | zero =>
    intro l i j hn hi hij hj hb hl h1 h2
    obtain ⟨t1, a1, a2, a3, a4, n1, a5⟩ := par_l3_uint64 (d := d) hc (l := l) (a := a) (j := j) (by omega) (by omega) hl i hij
    obtain ⟨t2, b1, b2, b3, b4, n2, b5⟩ := par_l2_uint64 (d := d) hc (l := l) (a := a) (i := t1) (j := j) (by omega) (by omega) hl (by omega) a2
    dsimp only at a5 b5
    refine ⟨l, t2, Rng.refl _ _ _, by omega, by omega, fun k k1 k2 => h1 k k1 (by omega), fun k k1 k2 => h2 k (by omega) k2, max n1 n2 + 1, fun k hk J => ?_⟩
    obtain ⟨k, rfl⟩ : ∃ j, k = j + 1 := ⟨k - 1, by omega⟩
    simp only [slices_partitionOrdered_uint64.l1, Jn, a5 k (by omega), b5 k (by omega), dLt (show t2 < t1 by omega), if_true]
  | succ n ih =>
    intro l i j hn hi hij hj hb hl h1 h2
    obtain ⟨t1, a1, a2, a3, a4, n1, a5⟩ := par_l3_uint64 (d := d) hc (l := l) (a := a) (j := j) (by omega) (by omega) hl i hij
    obtain ⟨t2, b1, b2, b3, b4, n2, b5⟩ := par_l2_uint64 (d := d) hc (l := l) (a := a) (i := t1) (j := j) (by omega) (by omega) hl (by omega) a2
    dsimp only at a5 b5
    have h1' : ∀ k, a < k → k < t1 → lt (A d l k) (A d l a) := fun k k1 k2 => by
      by_cases c : k < i
      · exact h1 k k1 c
      · exact a3 k (by omega) k2
    have h2' : ∀ k, t2 < k → k < b → ¬ lt (A d l k) (A d l a) := fun k k1 k2 => by
      by_cases c : j < k
      · exact h2 k c k2
      · exact b3 k k1 (by omega)
    by_cases hd : t2 < t1
    · refine ⟨l, t2, Rng.refl _ _ _, by omega, by omega, fun k k1 k2 => h1' k k1 (by omega), h2', max n1 n2 + 1, fun k hk J => ?_⟩
      obtain ⟨k, rfl⟩ : ∃ j, k = j + 1 := ⟨k - 1, by omega⟩
      simp only [slices_partitionOrdered_uint64.l1, Jn, a5 k (by omega), b5 k (by omega), dLt hd, if_true]
    · have hne : t1 ≠ t2 := fun e => by subst e; exact a4 b2 (b4 (Nat.le_refl _))
      have eA : ∀ k, A d (swp d l t2 t1) k = if k = t2 then A d l t1 else if k = t1 then A d l t2 else A d l k := A_swp (by omega) (by omega)
      have ea : A d (swp d l t2 t1) a = A d l a := by rw [eA, if_neg (by omega), if_neg (by omega)]
      obtain ⟨l', m, g1, g2, g3, g4, g5, n3, g6⟩ := ih (swp d l t2 t1) (t1 + 1) (t2 - 1) (by omega) (by omega) (by omega) (by omega) (by rw [swp_len]; omega) (by rw [swp_len]; omega)
        (fun k k1 k2 => by
          rw [ea, eA, if_neg (by omega)]
          by_cases c : k = t1
          · rw [if_pos c]; exact b4 (by omega)
          · rw [if_neg c]; exact h1' k k1 (by omega))
        (fun k k1 k2 => by
          rw [ea, eA]
          by_cases c : k = t2
          · rw [if_pos c]; exact a4 (by omega)
          · rw [if_neg c, if_neg (by omega)]; exact h2' k (by omega) k2)
      dsimp only at g6
      refine ⟨l', m, (Rng.swp (by omega) (by omega) (by omega) (by omega) hb).trans g1, g2, g3, g4, g5, max n1 (max n2 n3) + 1, fun k hk J => ?_⟩
      obtain ⟨k, rfl⟩ : ∃ j, k = j + 1 := ⟨k - 1, by omega⟩
      simp only [slices_partitionOrdered_uint64.l1, Jn, a5 k (by omega), b5 k (by omega), dLtF hd, if_false, Bool.false_eq_true]
      rw [swp_eq d _ (by omega) (by omega) (by omega) (by omega)]
      simp only [Int.toNat_natCast, wS (n := t1) (by omega), wP (n := t2) (by omega) (by omega)]
      exact g6 k (by omega) J
/-- What the pivot's last exchange gives. -/
theorem par_fin_uint64 {l : List Int} {a b m : Nat} (ha : a ≤ m) (hm : m < b) (hb : b ≤ l.length) (h1 : ∀ k, a < k → k ≤ m → lt (A d l k) (A d l a)) (h2 : ∀ k, m < k → k < b → ¬ lt (A d l k) (A d l a)) :
    (∀ k, a ≤ k → k < m → lt (A d (swp d l a m) k) (A d (swp d l a m) m)) ∧ (∀ k, m < k → k < b → ¬ lt (A d (swp d l a m) k) (A d (swp d l a m) m)) := by
  have eA : ∀ k, A d (swp d l a m) k = if k = a then A d l m else if k = m then A d l a else A d l k := A_swp (by omega) (by omega)
  have em : A d (swp d l a m) m = A d l a := by
    rw [eA]
    by_cases c : m = a
    · rw [if_pos c, c]
    · rw [if_neg c, if_pos rfl]
  refine ⟨fun k k1 k2 => ?_, fun k k1 k2 => ?_⟩
  · rw [em, eA]
    by_cases c : k = a
    · rw [if_pos c]; exact h1 m (by omega) (Nat.le_refl _)
    · rw [if_neg c, if_neg (by omega)]; exact h1 k (by omega) (by omega)
  · rw [em, eA, if_neg (by omega), if_neg (by omega)]
    exact h2 k k1 k2
theorem par_l0_uint64 (hc : ∀ x y, cmp_Less_uint64 x y = some (decide (lt x y))) {l : List Int} {a b j : Nat} (hj : j < b) (hb : b ≤ l.length) (hl : l.length ≤ 1152921504606846976) (h2 : ∀ k, j < k → k < b → ¬ lt (A d l k) (A d l a)) : ∀ (n i : Nat), j + 1 - i ≤ n → a < i → i ≤ j + 1 →
    (∀ k, a < k → k < i → lt (A d l k) (A d l a)) →
    ∃ (l' : List Int) (m : Nat) (f : Bool), Rng a b l l' ∧ a ≤ m ∧ m < b ∧ (∀ k, a ≤ k → k < m → lt (A d l' k) (A d l' m)) ∧ (∀ k, m < k → k < b → ¬ lt (A d l' k) (A d l' m)) ∧
      Ev (fun k => slices_partitionOrdered_uint64.l0 (a : Int) l k (i : Int) (j : Int)) ((m : Int), f, l') := by
  intro n
  induction n with
  | zero =>
    intro i hn hi hij h1
    obtain ⟨t2, b1, b2, b3, b4, n2, b5⟩ := par_l4_uint64 (d := d) hc (l := l) (a := a) (i := i) (j := j) (by omega) (by omega) hl (by omega) hij
    dsimp only at b5
    obtain ⟨q1, q2⟩ := par_fin_uint64 (d := d) (lt := lt) (l := l) (a := a) (b := b) (m := t2) (by omega) (by omega) hb (fun k k1 k2 => h1 k k1 (by omega)) (fun k k1 k2 => h2 k (by omega) k2)
    refine ⟨swp d l a t2, t2, true, Rng.swp (by omega) (by omega) (by omega) (by omega) hb, by omega, by omega, q1, q2, n2 + 1, fun k hk => ?_⟩
    obtain ⟨k, rfl⟩ : ∃ j, k = j + 1 := ⟨k - 1, by omega⟩
    simp only [slices_partitionOrdered_uint64.l0, Jn, dLeF (show ¬ i ≤ j by omega), if_false, Bool.false_eq_true, b5 k (by omega), dLt (show t2 < i by omega), if_true]
    rw [swp_eq d _ (by omega) (by omega) (by omega) (by omega)]
    simp only [Int.toNat_natCast]
  | succ n ih =>
    intro i hn hi hij h1
    by_cases hp : i ≤ j ∧ lt (A d l i) (A d l a)
    · obtain ⟨l', m, f, g1, g2, g3, g4, g5, n1, g6⟩ := ih (i + 1) (by omega) (by omega) (by omega) (fun k k1 k2 => by
        by_cases c : k = i
        · subst c; exact hp.2
        · exact h1 k k1 (by omega))
      dsimp only at g6
      refine ⟨l', m, f, g1, g2, g3, g4, g5, n1 + 1, fun k hk => ?_⟩
      obtain ⟨k, rfl⟩ : ∃ j, k = j + 1 := ⟨k - 1, by omega⟩
      simp only [slices_partitionOrdered_uint64.l0, Jn, dLe hp.1, if_true, idx_A (d := d) (show i < l.length by omega), idx_A (d := d) (show a < l.length by omega), Option.bind_some, hc, decide_eq_true hp.2, wS (n := i) (by omega)]
      exact g6 k (by omega)
    · have stop : ∀ (k : Nat), slices_partitionOrdered_uint64.l0 (a : Int) l (k + 1) (i : Int) (j : Int) = slices_partitionOrdered_uint64.l4 (a : Int) l (i : Int) (fun i_65 => if (decide (i_65 < (i : Int))) = true then ((idx l a).bind fun x175 => (idx l i_65).bind fun x176 => (idx l i_65).bind fun x177 => (upd l i_65 x175).bind fun l179 => (idx l179 a).bind fun x181 => (upd l179 a x176).bind fun l183 => some (i_65, true, l183)) else ((idx l i_65).bind fun x186 => (idx l i).bind fun x187 => (idx l i).bind fun x188 => (upd l i x186).bind fun l190 => (idx l190 i_65).bind fun x192 => (upd l190 i_65 x187).bind fun l194 => slices_partitionOrdered_uint64.l1 (a : Int) (fun (l_412 : (List Int)) (i_413 : Int) => (idx l_412 a).bind fun x1028 => (idx l_412 i_413).bind fun x1029 => (idx l_412 i_413).bind fun x1030 => (upd l_412 i_413 x1028).bind fun l1032 => (idx l1032 a).bind fun x1034 => (upd l1032 a x1029).bind fun l1036 => some (i_413, false, l1036)) k l194 (w64 ((i : Int) + 1)) (w64 (i_65 - 1)))) k (j : Int) := fun k => by
        by_cases hq : i ≤ j
        · have hlt : ¬ lt (A d l i) (A d l a) := fun h => hp ⟨hq, h⟩
          simp only [slices_partitionOrdered_uint64.l0, Jn, dLe hq, if_true, idx_A (d := d) (show i < l.length by omega), idx_A (d := d) (show a < l.length by omega), Option.bind_some, hc, decide_eq_false hlt, if_false, Bool.false_eq_true]
        · simp only [slices_partitionOrdered_uint64.l0, Jn, dLeF hq, if_false, Bool.false_eq_true]
      obtain ⟨t2, b1, b2, b3, b4, n2, b5⟩ := par_l4_uint64 (d := d) hc (l := l) (a := a) (i := i) (j := j) (by omega) (by omega) hl (by omega) hij
      dsimp only at b5
      have h2' : ∀ k, t2 < k → k < b → ¬ lt (A d l k) (A d l a) := fun k k1 k2 => by
        by_cases c : j < k
        · exact h2 k c k2
        · exact b3 k k1 (by omega)
      by_cases hd : t2 < i
      · obtain ⟨q1, q2⟩ := par_fin_uint64 (d := d) (lt := lt) (l := l) (a := a) (b := b) (m := t2) (by omega) (by omega) hb (fun k k1 k2 => h1 k k1 (by omega)) h2'
        refine ⟨swp d l a t2, t2, true, Rng.swp (by omega) (by omega) (by omega) (by omega) hb, by omega, by omega, q1, q2, n2 + 1, fun k hk => ?_⟩
        obtain ⟨k, rfl⟩ : ∃ j, k = j + 1 := ⟨k - 1, by omega⟩
        simp only [stop, b5 k (by omega), dLt hd, if_true]
        rw [swp_eq d _ (by omega) (by omega) (by omega) (by omega)]
        simp only [Int.toNat_natCast]
      · have hne : i ≠ t2 := fun e => by subst e; exact hp ⟨b2, b4 (Nat.le_refl _)⟩
        have eA : ∀ k, A d (swp d l t2 i) k = if k = t2 then A d l i else if k = i then A d l t2 else A d l k := A_swp (by omega) (by omega)
        have ea : A d (swp d l t2 i) a = A d l a := by rw [eA, if_neg (by omega), if_neg (by omega)]
        obtain ⟨l', m, g1, g2, g3, g4, g5, n3, g6⟩ := par_l1_uint64 (d := d) hc (a := a) (b := b) _ (swp d l t2 i) (i + 1) (t2 - 1) (Nat.le_refl _) (by omega) (by omega) (by omega) (by rw [swp_len]; omega) (by rw [swp_len]; omega)
          (fun k k1 k2 => by
            rw [ea, eA, if_neg (by omega)]
            by_cases c : k = i
            · rw [if_pos c]; exact b4 (by omega)
            · rw [if_neg c]; exact h1 k k1 (by omega))
          (fun k k1 k2 => by
            rw [ea, eA]
            by_cases c : k = t2
            · rw [if_pos c]; exact fun h => hp ⟨by omega, h⟩
            · rw [if_neg c, if_neg (by omega)]; exact h2' k (by omega) k2)
        dsimp only at g6
        have hlen : l'.length = l.length := by rw [g1.len, swp_len]
        obtain ⟨q1, q2⟩ := par_fin_uint64 (d := d) (lt := lt) (l := l') (a := a) (b := b) (m := m) g2 g3 (by omega) g4 g5
        refine ⟨swp d l' a m, m, false, ((Rng.swp (by omega) (by omega) (by omega) (by omega) hb).trans (g1.mono (by omega) (Nat.le_refl _))).trans (Rng.swp (by omega) (by omega) (by omega) (by omega) (by omega)), g2, g3, q1, q2, max n2 n3 + 1, fun k hk => ?_⟩
        obtain ⟨k, rfl⟩ : ∃ j, k = j + 1 := ⟨k - 1, by omega⟩
        simp only [stop, b5 k (by omega), dLtF hd, if_false, Bool.false_eq_true]
        rw [swp_eq d _ (by omega) (by omega) (by omega) (by omega)]
        simp only [Int.toNat_natCast, wS (n := i) (by omega), wP (n := t2) (by omega) (by omega)]
        rw [g6 k (by omega)]
        rw [swp_eq d _ (by omega) (by omega) (by omega) (by omega)]
        simp only [Int.toNat_natCast]
theorem par_uint64 (hc : ∀ x y, cmp_Less_uint64 x y = some (decide (lt x y))) {l : List Int} {a b p : Nat} (hp : a ≤ p) (hp' : p < b) (hb : b ≤ l.length) (hl : l.length ≤ 1152921504606846976) :
    ∃ (l' : List Int) (m : Nat) (f : Bool), Rng a b l l' ∧ a ≤ m ∧ m < b ∧ (∀ k, a ≤ k → k < m → lt (A d l' k) (A d l' m)) ∧ (∀ k, m < k → k < b → ¬ lt (A d l' k) (A d l' m)) ∧
      Ev (fun k => slices_partitionOrdered_uint64 k l (a : Int) (b : Int) (p : Int)) ((m : Int), f, l') := by
  obtain ⟨l', m, f, g1, g2, g3, g4, g5, n, g6⟩ := par_l0_uint64 (d := d) hc (l := swp d l p a) (a := a) (b := b) (j := b - 1) (by omega) (by rw [swp_len]; omega) (by rw [swp_len]; omega) (fun k k1 k2 => by omega) _ (a + 1) (Nat.le_refl _) (by omega) (by omega) (fun k k1 k2 => by omega)
  dsimp only at g6
  refine ⟨l', m, f, (Rng.swp (by omega) (by omega) (by omega) (by omega) hb).trans g1, g2, g3, g4, g5, n, fun k hk => ?_⟩
  show slices_partitionOrdered_uint64 k l (a : Int) (b : Int) (p : Int) = _
  simp only [slices_partitionOrdered_uint64]
  rw [swp_eq d _ (by omega) (by omega) (by omega) (by omega)]
  simp only [Int.toNat_natCast, wS (n := a) (by omega), wP (n := b) (by omega) (by omega)]
  exact g6 k hk
end
end Go.Proofs.YtbaemhkfmddakaaGreat.Mo
