import Derived.Test.YtbaemhkfmddakaaGreatMzTw
import Derived.Test.YtbaemhkfmddakaaGreatSySt
set_option linter.unusedVariables false
set_option linter.unusedSectionVars false
set_option linter.unusedSimpArgs false
set_option maxRecDepth 100000
namespace Go.Proofs.YtbaemhkfmddakaaGreat.Mo
open Go Go.Proofs.YtbaemhkfmddakaaGreat.Sy
section
variable {lt : Int → Int → Prop} [DecidableRel lt]
theorem ins_l1_uint64 (hc : ∀ x y, cmp_Less_uint64 x y = some (decide (lt x y))) (hw : Wo lt) : ∀ (n : Nat) (q p s : List Int) (x : Int), q.length = n → Srt lt q → (p ++ q ++ x :: s).length ≤ 1152921504606846976 →
    ∃ q1 q2, q = q1 ++ q2 ∧ (∀ y ∈ q1, ¬ lt x y) ∧ (∀ y ∈ q2, lt x y) ∧ EvC (fun J k => slices_insertionSortOrdered_uint64.l1 (p.length : Int) J k (p ++ q ++ x :: s) ((p ++ q).length : Int)) (p ++ q1 ++ x :: q2 ++ s) := by
  intro n
  induction n with
  | zero =>
    intro q p s x hq hs hb
    obtain rfl : q = [] := List.eq_nil_of_length_eq_zero hq
    refine ⟨[], [], rfl, by simp, by simp, EvC.succ ?_⟩
    have h1 : decide ((p.length : Int) < ((p ++ ([] : List Int)).length : Int)) = false := by simp
    simp only [slices_insertionSortOrdered_uint64.l1, Jn, h1, Bool.false_eq_true, if_false]
    simpa using EvC.ret
  | succ n ih =>
    intro q p s x hq hs hb
    rcases nil_or_snoc q with rfl | ⟨q, y, rfl⟩
    · simp at hq
    have hb' := hb
    simp only [List.length_append, List.length_cons, List.length_nil] at hb' hq
    have h1 : decide ((p.length : Int) < ((p ++ (q ++ [y])).length : Int)) = true := by simp only [List.length_append, List.length_cons, List.length_nil]; exact decide_eq_true (by omega)
    have hi : w64 (((p ++ (q ++ [y])).length : Int) - 1) = ((p ++ q).length : Int) := by
      simp only [List.length_append, List.length_cons, List.length_nil]
      rw [w64_of (by omega) (by omega)]
      omega
    have hx : idx (p ++ (q ++ [y]) ++ x :: s) ((p ++ (q ++ [y])).length : Int) = some x := idx_at _ _ _
    have hy : idx (p ++ (q ++ [y]) ++ x :: s) ((p ++ q).length : Int) = some y := idx_as (p := p ++ q) (s := x :: s) (by simp) rfl
    rw [Srt.app] at hs
    by_cases hlt : lt x y
    · have hu : upd (p ++ (q ++ [y]) ++ x :: s) ((p ++ (q ++ [y])).length : Int) y = some (p ++ (q ++ [y]) ++ y :: s) := upd_at _ _ _ _
      have hy2 : idx (p ++ (q ++ [y]) ++ y :: s) ((p ++ q).length : Int) = some y := idx_as (p := p ++ q) (s := y :: s) (by simp) rfl
      have hu2 : upd (p ++ (q ++ [y]) ++ y :: s) ((p ++ q).length : Int) x = some (p ++ q ++ x :: (y :: s)) := upd_as (p := p ++ q) (x := y) (s := y :: s) x (by simp) rfl
      obtain ⟨q1, q2, rfl, g1, g2, g3⟩ := ih q p (y :: s) x (by omega) hs.1 (by simp only [List.length_append, List.length_cons]; simp only [List.length_append, List.length_cons, List.length_nil] at hb; omega)
      refine ⟨q1, q2 ++ [y], by simp, g1, fun z hz => ?_, EvC.succ ?_⟩
      · rcases List.mem_append.1 hz with h | h
        · exact g2 z h
        · simp at h; subst h; exact hlt
      · simp only [slices_insertionSortOrdered_uint64.l1, Jn, h1, if_true, hi, hx, hy, hc, Option.bind_some, decide_eq_true hlt, hu, hy2, hu2]
        exact g3.to (by simp)
    · refine ⟨q ++ [y], [], by simp, fun z hz => ?_, by simp, EvC.succ ?_⟩
      · rcases List.mem_append.1 hz with h | h
        · have := hs.2.2 z h y (by simp)
          exact hw.neg x y z hlt this
        · simp at h; subst h; exact hlt
      · simp only [slices_insertionSortOrdered_uint64.l1, Jn, h1, if_true, hi, hx, hy, hc, Option.bind_some, decide_eq_false hlt, Bool.false_eq_true, if_false]
        exact EvC.ret.to (by simp)
theorem ins_l0_uint64 (hc : ∀ x y, cmp_Less_uint64 x y = some (decide (lt x y))) (hw : Wo lt) (a b : Nat) : ∀ (m q p s : List Int), Srt lt q → p.length = a → (p ++ q ++ m).length = b → (p ++ q ++ m ++ s).length ≤ 1152921504606846976 →
    ∃ m', Srt lt m' ∧ Sst lt (q ++ m) m' ∧ Ev (fun k => slices_insertionSortOrdered_uint64.l0 (a : Int) (b : Int) k (p ++ q ++ m ++ s) ((p ++ q).length : Int)) (p ++ m' ++ s) := by
  intro m
  induction m with
  | nil =>
    intro q p s hs ha hb hl
    refine ⟨q, hs, by simpa using Sst.refl q, Ev.succ ?_⟩
    subst hb
    have h1 : decide (((p ++ q).length : Int) < ((p ++ q ++ ([] : List Int)).length : Int)) = false := by simp
    simp only [slices_insertionSortOrdered_uint64.l0, h1, Bool.false_eq_true, if_false]
    simpa using Ev.ret
  | cons x m ih =>
    intro q p s hs ha hb hl
    have hl' := hl
    simp only [List.length_append, List.length_cons] at hl' hb
    obtain ⟨q1, q2, rfl, g1, g2, g3⟩ := ins_l1_uint64 hc hw q.length q p (m ++ s) x rfl hs (by simp only [List.length_append, List.length_cons]; omega)
    obtain ⟨m', k1, k2, k3⟩ := ih (q1 ++ x :: q2) p s (ins_srt hw hs g1 g2) ha (by simp only [List.length_append, List.length_cons] at hb ⊢; omega) (by simp only [List.length_append, List.length_cons] at hl ⊢; omega)
    refine ⟨m', k1, Sst.trans ?_ k2, Ev.succ ?_⟩
    · have := (ins_sst (q1 := q1) hw g2).app (Sst.refl (lt := lt) m)
      simpa using this
    · have h1 : decide (((p ++ (q1 ++ q2)).length : Int) < (b : Int)) = true := decide_eq_true (by simp only [List.length_append] at hb ⊢; omega)
      have h2 : w64 (((p ++ (q1 ++ q2)).length : Int) + 1) = ((p ++ (q1 ++ x :: q2)).length : Int) := by
        simp only [List.length_append, List.length_cons] at hl' ⊢
        rw [w64_of (by omega) (by omega)]
        omega
      have e1 : p ++ (q1 ++ q2) ++ x :: m ++ s = p ++ (q1 ++ q2) ++ x :: (m ++ s) := by simp
      subst ha
      simp only [slices_insertionSortOrdered_uint64.l0, h1, if_true, Jn, e1]
      refine g3.ev (J := fun k l => slices_insertionSortOrdered_uint64.l0 (p.length : Int) (b : Int) k l (w64 (((p ++ (q1 ++ q2)).length : Int) + 1))) ?_
      simp only [h2]
      have e2 : p ++ q1 ++ x :: q2 ++ (m ++ s) = p ++ (q1 ++ x :: q2) ++ m ++ s := by simp
      rw [e2]
      exact k3
theorem ins_uint64 (hc : ∀ x y, cmp_Less_uint64 x y = some (decide (lt x y))) (hw : Wo lt) {a b : Nat} (m p s : List Int) (ha : p.length = a) (hb : (p ++ m).length = b) (hl : (p ++ m ++ s).length ≤ 1152921504606846976) :
    ∃ m', Srt lt m' ∧ Sst lt m m' ∧ Ev (fun k => slices_insertionSortOrdered_uint64 k (p ++ m ++ s) (a : Int) (b : Int)) (p ++ m' ++ s) := by
  have ha9 : w64 ((a : Int) + 1) = ((a + 1 : Nat) : Int) := by simp only [List.length_append] at hl; rw [w64_of (by omega) (by omega)]; omega
  cases m with
  | nil =>
    refine ⟨[], Srt.nil, Sst.refl _, ?_⟩
    have h1 : decide (((a + 1 : Nat) : Int) < (b : Int)) = false := decide_eq_false (by simp at hb; omega)
    simp only [slices_insertionSortOrdered_uint64, ha9]
    refine Ev.succ ?_
    simp only [slices_insertionSortOrdered_uint64.l0, h1, Bool.false_eq_true, if_false]
    exact Ev.ret
  | cons x m =>
    obtain ⟨m', k1, k2, k3⟩ := ins_l0_uint64 hc hw a b m [x] p s (Srt.one x) ha (by simpa using hb) (by simpa using hl)
    refine ⟨m', k1, by simpa using k2, ?_⟩
    simp only [slices_insertionSortOrdered_uint64, ha9]
    have e : ((p ++ [x]).length : Int) = ((a + 1 : Nat) : Int) := by simp; omega
    rw [e] at k3
    simpa using k3
theorem ord2_uint64 (hc : ∀ x y, cmp_Less_uint64 x y = some (decide (lt x y))) {l : List Int} {i j : Nat} (s : Int) (hi : i < l.length) (hj : j < l.length) :
    ∃ (i' j' : Nat) (s' : Int), slices_order2Ordered_uint64 l (i : Int) (j : Int) s = some ((i' : Int), (j' : Int), s') ∧ (i' = i ∧ j' = j ∨ i' = j ∧ j' = i) := by
  simp only [slices_order2Ordered_uint64, getD_idx hi, getD_idx hj, Option.bind_some, hc]
  by_cases h : lt l[j] l[i]
  · exact ⟨j, i, w64 (s + 1), by simp only [h, decide_true, if_true], .inr ⟨rfl, rfl⟩⟩
  · exact ⟨i, j, s, by simp only [h, decide_false, Bool.false_eq_true, if_false], .inl ⟨rfl, rfl⟩⟩
theorem med_uint64 (hc : ∀ x y, cmp_Less_uint64 x y = some (decide (lt x y))) {l : List Int} {a b c : Nat} (s : Int) (ha : a < l.length) (hb : b < l.length) (hcc : c < l.length) :
    ∃ (m : Nat) (s' : Int), slices_medianOrdered_uint64 l (a : Int) (b : Int) (c : Int) s = some ((m : Int), s') ∧ (m = a ∨ m = b ∨ m = c) := by
  obtain ⟨a1, b1, s1, e1, h1⟩ := ord2_uint64 hc (l := l) s ha hb
  obtain ⟨b2, c2, s2, e2, h2⟩ := ord2_uint64 hc (l := l) (i := b1) (j := c) s1 (by omega) hcc
  obtain ⟨a3, b3, s3, e3, h3⟩ := ord2_uint64 hc (l := l) (i := a1) (j := b2) s2 (by omega) (by omega)
  refine ⟨b3, s3, ?_, by omega⟩
  simp only [slices_medianOrdered_uint64, e1, Option.bind_some, e2, e3]
theorem adj_uint64 (hc : ∀ x y, cmp_Less_uint64 x y = some (decide (lt x y))) {l : List Int} {a : Nat} (s : Int) (h0 : 0 < a) (ha : a + 1 < l.length) (hl : l.length ≤ 1152921504606846976) :
    ∃ (m : Nat) (s' : Int), slices_medianAdjacentOrdered_uint64 l (a : Int) s = some ((m : Int), s') ∧ a ≤ m + 1 ∧ m ≤ a + 1 := by
  have w1 : w64 ((a : Int) - 1) = ((a - 1 : Nat) : Int) := by rw [w64_of (by omega) (by omega)]; omega
  have w2 : w64 ((a : Int) + 1) = ((a + 1 : Nat) : Int) := by rw [w64_of (by omega) (by omega)]; omega
  obtain ⟨m, s', e, h⟩ := med_uint64 hc (l := l) (a := a - 1) (b := a) (c := a + 1) s (by omega) (by omega) (by omega)
  refine ⟨m, s', ?_, by omega, by omega⟩
  simp only [slices_medianAdjacentOrdered_uint64, w1, w2, e, Option.bind_some]
theorem cho_uint64 (hc : ∀ x y, cmp_Less_uint64 x y = some (decide (lt x y))) {l : List Int} {a b : Nat} (hab : a + 8 ≤ b) (hb : b ≤ l.length) (hl : l.length ≤ 1152921504606846976) :
    ∃ (m : Nat) (h : Int), slices_choosePivotOrdered_uint64 l (a : Int) (b : Int) = some ((m : Int), h) ∧ a ≤ m ∧ m < b := by
  obtain ⟨n, hn⟩ : ∃ n, n = b - a := ⟨_, rfl⟩
  have w0 : w64 ((b : Int) - (a : Int)) = (n : Int) := by rw [w64_of (by omega) (by omega)]; omega
  have d4 : Int.tdiv (n : Int) 4 = ((n / 4 : Nat) : Int) := by rw [Int.tdiv_eq_ediv_of_nonneg (by omega)]; omega
  have w1 : w64 ((n / 4 : Nat) : Int) = ((n / 4 : Nat) : Int) := by rw [w64_of (by omega) (by omega)]
  have m1 : w64 (((n / 4 : Nat) : Int) * 1) = ((n / 4 : Nat) : Int) := by rw [w64_of (by omega) (by omega)]; omega
  have m2 : w64 (((n / 4 : Nat) : Int) * 2) = ((n / 4 * 2 : Nat) : Int) := by rw [w64_of (by omega) (by omega)]; omega
  have m3 : w64 (((n / 4 : Nat) : Int) * 3) = ((n / 4 * 3 : Nat) : Int) := by rw [w64_of (by omega) (by omega)]; omega
  have p1 : w64 ((a : Int) + ((n / 4 : Nat) : Int)) = ((a + n / 4 : Nat) : Int) := by rw [w64_of (by omega) (by omega)]; omega
  have p2 : w64 ((a : Int) + ((n / 4 * 2 : Nat) : Int)) = ((a + n / 4 * 2 : Nat) : Int) := by rw [w64_of (by omega) (by omega)]; omega
  have p3 : w64 ((a : Int) + ((n / 4 * 3 : Nat) : Int)) = ((a + n / 4 * 3 : Nat) : Int) := by rw [w64_of (by omega) (by omega)]; omega
  have g8 : decide ((8 : Int) ≤ (n : Int)) = true := decide_eq_true (by omega)
  have fin : ∀ (q : Int) (m : Nat), a ≤ m → m < b → ∃ (m' : Nat) (h : Int), (if (q == 0) = true then some ((m : Int), (1 : Int)) else if (q == 12) = true then some ((m : Int), 2) else some ((m : Int), 0)) = some ((m' : Int), h) ∧ a ≤ m' ∧ m' < b := by
    intro q m h1 h2
    by_cases c1 : (q == 0) = true
    · exact ⟨m, 1, by rw [if_pos c1], h1, h2⟩
    · by_cases c2 : (q == 12) = true
      · exact ⟨m, 2, by rw [if_neg c1, if_pos c2], h1, h2⟩
      · exact ⟨m, 0, by rw [if_neg c1, if_neg c2], h1, h2⟩
  by_cases h50 : 50 ≤ n
  · have g50 : decide ((50 : Int) ≤ (n : Int)) = true := decide_eq_true (by omega)
    obtain ⟨x1, s1, e1, a1, b1⟩ := adj_uint64 hc (l := l) (a := a + n / 4) 0 (by omega) (by omega) hl
    obtain ⟨x2, s2, e2, a2, b2⟩ := adj_uint64 hc (l := l) (a := a + n / 4 * 2) s1 (by omega) (by omega) hl
    obtain ⟨x3, s3, e3, a3, b3⟩ := adj_uint64 hc (l := l) (a := a + n / 4 * 3) s2 (by omega) (by omega) hl
    obtain ⟨m, s4, e4, h4⟩ := med_uint64 hc (l := l) (a := x1) (b := x2) (c := x3) s3 (by omega) (by omega) (by omega)
    simp only [slices_choosePivotOrdered_uint64, Jn, w0, d4, w1, m1, m2, m3, p1, p2, p3, g8, g50, if_true, e1, e2, e3, e4, Option.bind_some]
    exact fin s4 m (by omega) (by omega)
  · have g50 : decide ((50 : Int) ≤ (n : Int)) = false := decide_eq_false (by omega)
    obtain ⟨m, s4, e4, h4⟩ := med_uint64 hc (l := l) (a := a + n / 4) (b := a + n / 4 * 2) (c := a + n / 4 * 3) 0 (by omega) (by omega) (by omega)
    simp only [slices_choosePivotOrdered_uint64, Jn, w0, d4, w1, m1, m2, m3, p1, p2, p3, g8, g50, if_true, Bool.false_eq_true, if_false, e4, Option.bind_some]
    exact fin s4 m (by omega) (by omega)
theorem rev_l0_uint64 : ∀ (n : Nat) (m p s : List Int), m.length ≤ n → (p ++ m ++ s).length ≤ 1152921504606846976 → Ev (fun k => slices_reverseRangeOrdered_uint64.l0 k (p ++ m ++ s) (p.length : Int) (((p ++ m).length : Int) - 1)) (p ++ m.reverse ++ s) := by
  intro n
  induction n with
  | zero =>
    intro m p s hm hl
    obtain rfl : m = [] := List.eq_nil_of_length_eq_zero (by omega)
    refine Ev.succ ?_
    have h : decide ((p.length : Int) < ((p ++ ([] : List Int)).length : Int) - 1) = false := decide_eq_false (by simp; omega)
    simp only [slices_reverseRangeOrdered_uint64.l0, h, Bool.false_eq_true, if_false]
    simpa using Ev.ret
  | succ n ih =>
    intro m p s hm hl
    cases m with
    | nil =>
      refine Ev.succ ?_
      have h : decide ((p.length : Int) < ((p ++ ([] : List Int)).length : Int) - 1) = false := decide_eq_false (by simp; omega)
      simp only [slices_reverseRangeOrdered_uint64.l0, h, Bool.false_eq_true, if_false]
      simpa using Ev.ret
    | cons x m =>
      rcases nil_or_snoc m with rfl | ⟨m, y, rfl⟩
      · refine Ev.succ ?_
        have h : decide ((p.length : Int) < ((p ++ [x]).length : Int) - 1) = false := decide_eq_false (by simp)
        simp only [slices_reverseRangeOrdered_uint64.l0, h, Bool.false_eq_true, if_false]
        simpa using Ev.ret
      · have hl' := hl
        simp only [List.length_append, List.length_cons, List.length_nil] at hl' hm
        have h : decide ((p.length : Int) < ((p ++ x :: (m ++ [y])).length : Int) - 1) = true := decide_eq_true (by simp; omega)
        have hj : ((p ++ x :: (m ++ [y])).length : Int) - 1 = ((p ++ x :: m).length : Int) := by simp; omega
        rw [hj] at h ⊢
        have e1 : idx (p ++ x :: (m ++ [y]) ++ s) ((p ++ x :: m).length : Int) = some y := idx_as (p := p ++ x :: m) (s := s) (by simp) rfl
        have e2 : idx (p ++ x :: (m ++ [y]) ++ s) (p.length : Int) = some x := idx_as (p := p) (s := m ++ [y] ++ s) (by simp) rfl
        have e3 : upd (p ++ x :: (m ++ [y]) ++ s) (p.length : Int) y = some (p ++ y :: (m ++ [y] ++ s)) := upd_as (p := p) (x := x) (s := m ++ [y] ++ s) y (by simp) rfl
        have e4 : idx (p ++ y :: (m ++ [y] ++ s)) ((p ++ x :: m).length : Int) = some y := idx_as (p := p ++ y :: m) (s := s) (by simp) (by simp)
        have e5 : upd (p ++ y :: (m ++ [y] ++ s)) ((p ++ x :: m).length : Int) x = some (p ++ y :: m ++ x :: s) := upd_as (p := p ++ y :: m) (x := y) (s := s) x (by simp) (by simp)
        have w1 : w64 ((p.length : Int) + 1) = ((p ++ [y]).length : Int) := by simp only [List.length_append, List.length_cons, List.length_nil]; rw [w64_of (by omega) (by omega)]; omega
        have w2 : w64 (((p ++ x :: m).length : Int) - 1) = ((p ++ [y] ++ m).length : Int) - 1 := by simp only [List.length_append, List.length_cons, List.length_nil]; rw [w64_of (by omega) (by omega)]; omega
        have := ih m (p ++ [y]) (x :: s) (by omega) (by simp; omega)
        refine Ev.succ ?_
        simp only [slices_reverseRangeOrdered_uint64.l0, h, if_true, e1, e2, e3, e4, e5, Option.bind_some, w1, w2]
        have e6 : p ++ y :: m ++ x :: s = p ++ [y] ++ m ++ x :: s := by simp
        rw [e6]
        exact this.to (by simp)
theorem rev_uint64 {a b : Nat} (m p s : List Int) (ha : p.length = a) (hb : (p ++ m).length = b) (hl : (p ++ m ++ s).length ≤ 1152921504606846976) : Ev (fun k => slices_reverseRangeOrdered_uint64 k (p ++ m ++ s) (a : Int) (b : Int)) (p ++ m.reverse ++ s) := by
  subst ha hb
  have w : w64 (((p ++ m).length : Int) - 1) = ((p ++ m).length : Int) - 1 := by simp only [List.length_append] at hl ⊢; rw [w64_of (by omega) (by omega)]
  simp only [slices_reverseRangeOrdered_uint64, w]
  exact rev_l0_uint64 _ m p s (Nat.le_refl _) hl
end
end Go.Proofs.YtbaemhkfmddakaaGreat.Mo
