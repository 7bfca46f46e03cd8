import Derived.Test.YtbaemhkfmddakaaGreatPMUC
set_option linter.unusedVariables false
set_option linter.unusedSectionVars false
set_option linter.unusedSimpArgs false
set_option maxRecDepth 100000
namespace Go.Proofs.YtbaemhkfmddakaaGreat.Mo
open Go Go.Proofs.YtbaemhkfmddakaaGreat.Sy
section
variable {lt : Int → Int → Prop} [DecidableRel lt] {d : Int}
def sdB_uint64 (hi f : Int) (k : Nat) (l : List Int) (r c : Int) : Option (List Int) :=
  (idx l (w64 (f + r))).bind fun x114 => (idx l (w64 (f + c))).bind fun x115 => (cmp_Less_uint64 x114 x115).bind fun r116 => if (!r116) = true then (some l) else ((idx l (w64 (f + c))).bind fun x120 => (idx l (w64 (f + r))).bind fun x121 => (idx l (w64 (f + r))).bind fun x122 => (upd l (w64 (f + r)) x120).bind fun l124 => (idx l124 (w64 (f + c))).bind fun x126 => (upd l124 (w64 (f + c)) x121).bind fun l128 => slices_siftDownOrdered_uint64.l0 hi f k l128 c)
theorem sd_step_uint64 (hc : ∀ x y, cmp_Less_uint64 x y = some (decide (lt x y))) (hw : Wo lt) {l : List Int} {hi f r : Nat} (hr : 2 * r + 1 < hi) (hf : f + hi ≤ l.length) (hl : l.length ≤ 1152921504606846976) :
    ∃ c, (c = 2 * r + 1 ∨ c = 2 * r + 2) ∧ c < hi ∧ (∀ c', (c' = 2 * r + 1 ∨ c' = 2 * r + 2) → c' < hi → ¬ lt (A d l (f + c)) (A d l (f + c'))) ∧ ∀ k, slices_siftDownOrdered_uint64.l0 (hi : Int) (f : Int) (k + 1) l (r : Int) = sdB_uint64 (hi : Int) (f : Int) k l (r : Int) (c : Int) := by
  have e1 : w64 (2 * (r : Int)) = ((2 * r : Nat) : Int) := w64_nat (by omega) (by omega)
  have e2 : w64 (((2 * r : Nat) : Int) + 1) = ((2 * r + 1 : Nat) : Int) := wS (by omega)
  have e3 : w64 (((2 * r + 1 : Nat) : Int) + 1) = ((2 * r + 2 : Nat) : Int) := wS (by omega)
  have e4 : w64 ((f : Int) + ((2 * r + 1 : Nat) : Int)) = ((f + (2 * r + 1) : Nat) : Int) := wA (by omega)
  have e5 : w64 (((f + (2 * r + 1) : Nat) : Int) + 1) = ((f + (2 * r + 2) : Nat) : Int) := wS (n := f + (2 * r + 1)) (by omega)
  have d1 : decide ((hi : Int) ≤ ((2 * r + 1 : Nat) : Int)) = false := dLeF (by omega)
  by_cases h2 : 2 * r + 2 < hi
  · have d2 : decide (((2 * r + 2 : Nat) : Int) < (hi : Int)) = true := dLt h2
    by_cases hlt : lt (A d l (f + (2 * r + 1))) (A d l (f + (2 * r + 2)))
    · refine ⟨2 * r + 2, .inr rfl, h2, ?_, fun k => ?_⟩
      · rintro c' (rfl | rfl) _
        · exact hw.asymm _ _ hlt
        · exact hw.irr _
      · simp only [slices_siftDownOrdered_uint64.l0, Jn, e1, e2, e3, e4, e5, d1, d2, Bool.false_eq_true, if_false, if_true, idx_A (d := d) (show f + (2 * r + 1) < l.length by omega), idx_A (d := d) (show f + (2 * r + 2) < l.length by omega), Option.bind_some, hc, decide_eq_true hlt, sdB_uint64]
    · refine ⟨2 * r + 1, .inl rfl, hr, ?_, fun k => ?_⟩
      · rintro c' (rfl | rfl) _
        · exact hw.irr _
        · exact hlt
      · simp only [slices_siftDownOrdered_uint64.l0, Jn, e1, e2, e3, e4, e5, d1, d2, Bool.false_eq_true, if_false, if_true, idx_A (d := d) (show f + (2 * r + 1) < l.length by omega), idx_A (d := d) (show f + (2 * r + 2) < l.length by omega), Option.bind_some, hc, decide_eq_false hlt, sdB_uint64]
  · have d2 : decide (((2 * r + 2 : Nat) : Int) < (hi : Int)) = false := dLtF h2
    refine ⟨2 * r + 1, .inl rfl, hr, ?_, fun k => ?_⟩
    · rintro c' (rfl | rfl) h
      · exact hw.irr _
      · omega
    · simp only [slices_siftDownOrdered_uint64.l0, Jn, e1, e2, e3, d1, d2, Bool.false_eq_true, if_false, sdB_uint64]
theorem sd_l0_uint64 (hc : ∀ x y, cmp_Less_uint64 x y = some (decide (lt x y))) (hw : Wo lt) {f lo hi : Nat} : ∀ (n : Nat) (l : List Int) (r : Nat), hi - r ≤ n → lo ≤ r → f + hi ≤ l.length → r < 2305843009213693952 → l.length ≤ 1152921504606846976 →
    (∀ c p, p = (c - 1) / 2 → 0 < c → lo ≤ p → c < hi → p ≠ r → ¬ lt (A d l (f + p)) (A d l (f + c))) →
    (∀ c, (c - 1) / 2 = r → 0 < c → c < hi → 0 < r → lo ≤ (r - 1) / 2 → ¬ lt (A d l (f + (r - 1) / 2)) (A d l (f + c))) →
    ∃ l', Rng (f + lo) (f + hi) l l' ∧ Hp d lt f lo hi l' ∧ Ev (fun k => slices_siftDownOrdered_uint64.l0 (hi : Int) (f : Int) k l (r : Int)) l' := by
  intro n
  induction n with
  | zero =>
    intro l r hn hlo hf hr hl hx hg
    refine ⟨l, Rng.refl _ _ _, fun c p h1 h2 h3 h4 => hx c p h1 h2 h3 h4 (by omega), Ev.succ ?_⟩
    have e1 : w64 (2 * (r : Int)) = ((2 * r : Nat) : Int) := w64_nat (by omega) (by omega)
    have e2 : w64 (((2 * r : Nat) : Int) + 1) = ((2 * r + 1 : Nat) : Int) := by rw [w64_nat (n := 2 * r + 1) (by omega) (by omega)]
    simp only [slices_siftDownOrdered_uint64.l0, e1, e2, dLe (show hi ≤ 2 * r + 1 by omega), if_true]
    exact Ev.ret
  | succ n ih =>
    intro l r hn hlo hf hr hl hx hg
    by_cases h1 : 2 * r + 1 < hi
    · obtain ⟨c, g1, g2, g3, g4⟩ := sd_step_uint64 (d := d) hc hw h1 hf hl
      have ir : w64 ((f : Int) + (r : Int)) = ((f + r : Nat) : Int) := wA (by omega)
      have ic : w64 ((f : Int) + (c : Int)) = ((f + c : Nat) : Int) := wA (by omega)
      by_cases hlt : lt (A d l (f + r)) (A d l (f + c))
      · have eA : ∀ k, A d (swp d l (f + c) (f + r)) k = if k = f + c then A d l (f + r) else if k = f + r then A d l (f + c) else A d l k := A_swp (by omega) (by omega)
        have er : A d (swp d l (f + c) (f + r)) (f + r) = A d l (f + c) := by rw [eA, if_neg (by omega), if_pos rfl]
        have ec : A d (swp d l (f + c) (f + r)) (f + c) = A d l (f + r) := by rw [eA, if_pos rfl]
        have eo : ∀ k, k ≠ c → k ≠ r → A d (swp d l (f + c) (f + r)) (f + k) = A d l (f + k) := fun k h1 h2 => by rw [eA, if_neg (by omega), if_neg (by omega)]
        obtain ⟨l', k1, k2, n1, k3⟩ := ih (swp d l (f + c) (f + r)) c (by omega) (by omega) (by rw [swp_len]; omega) (by omega) (by rw [swp_len]; omega)
          (fun q p hp hq hp2 hq2 hpc => by
            by_cases c1 : p = r
            · subst c1
              rw [er]
              by_cases c2 : q = c
              · subst c2; rw [ec]; exact hw.asymm _ _ hlt
              · rw [eo q c2 (by omega)]; exact g3 q (by omega) hq2
            · by_cases c2 : q = r
              · subst c2
                rw [er, eo p hpc c1, hp]
                exact hg c (by omega) (by omega) g2 hq (by omega)
              · rw [eo p hpc c1, eo q (by omega) c2]
                exact hx q p hp hq hp2 hq2 c1)
          (fun q hq hq0 hqh hc0 hcl => by
            have : (c - 1) / 2 = r := by omega
            rw [this, er, eo q (by omega) (by omega)]
            exact hx q c hq.symm hq0 (by omega) hqh (by omega))
        dsimp only at k3
        refine ⟨l', (Rng.swp (by omega) (by omega) (by omega) (by omega) hf).trans k1, k2, n1 + 1, fun k hk => ?_⟩
        obtain ⟨k, rfl⟩ : ∃ j, k = j + 1 := ⟨k - 1, by omega⟩
        dsimp only
        rw [g4 k]
        simp only [sdB_uint64, ir, ic]
        have e2 : ∀ (K : Int → Option (List Int)), (idx l ((f + r : Nat) : Int)).bind K = K (A d l (f + r)) := fun K => by rw [idx_A (d := d) (show f + r < l.length by omega)]; rfl
        have e3 : ∀ (K : Int → Option (List Int)), (idx l ((f + c : Nat) : Int)).bind K = K (A d l (f + c)) := fun K => by rw [idx_A (d := d) (show f + c < l.length by omega)]; rfl
        rw [e2, e3]
        simp only [hc, Option.bind_some, decide_eq_true hlt, Bool.not_true, Bool.false_eq_true, if_false]
        rw [swp_eq d _ (by omega) (by omega) (by omega) (by omega)]
        simp only [Int.toNat_natCast]
        exact k3 k (by omega)
      · refine ⟨l, Rng.refl _ _ _, fun q p hp hq hp2 hq2 => ?_, Ev.succ ?_⟩
        · by_cases c1 : p = r
          · subst c1; exact hw.neg _ _ _ hlt (g3 q (by omega) hq2)
          · exact hx q p hp hq hp2 hq2 c1
        · simp only [g4, sdB_uint64, ir, ic, idx_A (d := d) (show f + r < l.length by omega), idx_A (d := d) (show f + c < l.length by omega), Option.bind_some, hc, decide_eq_false hlt, Bool.not_false, if_true]
          exact Ev.ret
    · refine ⟨l, Rng.refl _ _ _, fun q p hp hq hp2 hq2 => hx q p hp hq hp2 hq2 (by omega), Ev.succ ?_⟩
      have e1 : w64 (2 * (r : Int)) = ((2 * r : Nat) : Int) := w64_nat (by omega) (by omega)
      have e2 : w64 (((2 * r : Nat) : Int) + 1) = ((2 * r + 1 : Nat) : Int) := by rw [w64_nat (n := 2 * r + 1) (by omega) (by omega)]
      simp only [slices_siftDownOrdered_uint64.l0, e1, e2, dLe (show hi ≤ 2 * r + 1 by omega), if_true]
      exact Ev.ret
theorem hs_l1_uint64 (hc : ∀ x y, cmp_Less_uint64 x y = some (decide (lt x y))) (hw : Wo lt) {f n : Nat} : ∀ (m : Nat) (l : List Int), m ≤ n → f + n ≤ l.length → l.length ≤ 1152921504606846976 → Hp d lt f 0 m l → SrtR d lt (f + m) (f + n) l →
    (∀ i j, i < m → m ≤ j → j < n → ¬ lt (A d l (f + j)) (A d l (f + i))) →
    ∃ l', Rng f (f + n) l l' ∧ SrtR d lt f (f + n) l' ∧ Ev (fun k => slices_heapSortOrdered_uint64.l1 (f : Int) k l ((m : Int) - 1)) l' := by
  intro m
  induction m with
  | zero =>
    intro l hm hf hl hh hs hx
    refine ⟨l, Rng.refl _ _ _, by simpa using hs, Ev.succ ?_⟩
    have : decide ((0 : Int) ≤ ((0 : Nat) : Int) - 1) = false := by decide
    simp only [slices_heapSortOrdered_uint64.l1, this, Bool.false_eq_true, if_false]
    exact Ev.ret
  | succ m ih =>
    intro l hm hf hl hh hs hx
    have hd : decide ((0 : Int) ≤ ((m + 1 : Nat) : Int) - 1) = true := decide_eq_true (by omega)
    have em : ((m + 1 : Nat) : Int) - 1 = (m : Int) := by omega
    have im : w64 ((f : Int) + (m : Int)) = ((f + m : Nat) : Int) := wA (by omega)
    have eA : ∀ k, A d (swp d l (f + m) f) k = if k = f + m then A d l f else if k = f then A d l (f + m) else A d l k := A_swp (by omega) (by omega)
    have htop := hh.top hw
    have hr0 : Rng f (f + (m + 1)) l (swp d l (f + m) f) := Rng.swp (by omega) (by omega) (by omega) (by omega) (by omega)
    obtain ⟨l1, k1, k2, k3⟩ := sd_l0_uint64 (d := d) hc hw (f := f) (lo := 0) (hi := m) _ (swp d l (f + m) f) 0 (Nat.le_refl _) (Nat.le_refl _) (by rw [swp_len]; omega) (by omega) (by rw [swp_len]; omega)
      (fun c p hp h0 _ hcm hp0 => by
        rw [eA, eA, if_neg (by omega), if_neg (by omega), if_neg (by omega), if_neg (by omega)]
        exact hh c p hp h0 (Nat.zero_le _) (by omega))
      (fun c _ _ _ h0 => by omega)
    have hl1 : l1.length = l.length := by rw [k1.len, swp_len]
    have hrr : Rng f (f + (m + 1)) l l1 := hr0.trans (k1.mono (by omega) (by omega))
    -- what lies behind
    have eo : ∀ j, m < j → A d l1 (f + j) = A d l (f + j) := fun j hj => by rw [hrr.A (.inr (by omega))]
    have et : A d l1 (f + m) = A d l f := by rw [k1.A (.inr (by omega)), eA, if_pos rfl]
    have hin : ∀ i, i < m → ∃ q, q ≤ m ∧ A d l1 (f + i) = A d l (f + q) := fun i hi => by
      obtain ⟨q, q1, q2, q3⟩ := (hrr.all (d := d) (P := fun x => ∃ q, f ≤ q ∧ q < f + (m + 1) ∧ x = A d l q) (by omega) (fun k a1 a2 => ⟨k, a1, a2, rfl⟩) (f + i) (by omega) (by omega))
      exact ⟨q - f, by omega, by rw [q3]; congr 1; omega⟩
    obtain ⟨l', g1, g2, n1, g3⟩ := ih l1 (by omega) (by omega) (by omega) k2
      (fun i j h1 h2 h3 => by
        obtain ⟨i', rfl⟩ : ∃ i', i = f + i' := ⟨i - f, by omega⟩
        obtain ⟨j', rfl⟩ : ∃ j', j = f + j' := ⟨j - f, by omega⟩
        rw [eo j' (by omega)]
        by_cases c : i' = m
        · subst c; rw [et]; exact hx 0 j' (by omega) (by omega) (by omega)
        · rw [eo i' (by omega)]; exact hs (f + i') (f + j') (by omega) h2 h3)
      (fun i j h1 h2 h3 => by
        obtain ⟨q, q1, q2⟩ := hin i h1
        rw [q2]
        by_cases c : j = m
        · subst c; rw [et]; exact htop q (by omega)
        · rw [eo j (by omega)]; exact hx q j (by omega) (by omega) h3)
    dsimp only at g3
    obtain ⟨n2, k3⟩ := k3
    dsimp only at k3
    refine ⟨l', (hrr.mono (Nat.le_refl _) (by omega)).trans g1, g2, max n1 n2 + 1, fun k hk => ?_⟩
    obtain ⟨k, rfl⟩ : ∃ j, k = j + 1 := ⟨k - 1, by omega⟩
    simp only [slices_heapSortOrdered_uint64.l1, hd, if_true, em, im]
    rw [swp_eq d _ (by omega) (by omega) (by omega) (by omega)]
    simp only [Int.toNat_natCast, slices_siftDownOrdered_uint64]
    have e0 := k3 k (by omega)
    rw [show ((0 : Nat) : Int) = 0 from rfl] at e0
    rw [e0, Option.bind_some, show w64 ((m : Int) - 1) = (m : Int) - 1 from w64_of (by omega) (by omega)]
    exact g3 k (by omega)
theorem hs_l0_uint64 (hc : ∀ x y, cmp_Less_uint64 x y = some (decide (lt x y))) (hw : Wo lt) {f n : Nat} (hn0 : 0 < n) : ∀ (m : Nat) (l : List Int), m ≤ n → f + n ≤ l.length → l.length ≤ 1152921504606846976 → Hp d lt f m n l →
    ∃ l', Rng f (f + n) l l' ∧ SrtR d lt f (f + n) l' ∧ Ev (fun k => slices_heapSortOrdered_uint64.l0 (f : Int) k l (n : Int) ((m : Int) - 1)) l' := by
  intro m
  induction m with
  | zero =>
    intro l hm hf hl hh
    obtain ⟨l', g1, g2, n1, g3⟩ := hs_l1_uint64 (d := d) hc hw (f := f) (n := n) n l (Nat.le_refl _) hf hl hh (SrtR.one (by omega)) (fun i j _ _ _ => by omega)
    dsimp only at g3
    refine ⟨l', g1, g2, n1 + 1, fun k hk => ?_⟩
    obtain ⟨k, rfl⟩ : ∃ j, k = j + 1 := ⟨k - 1, by omega⟩
    have hd : decide ((0 : Int) ≤ ((0 : Nat) : Int) - 1) = false := by decide
    simp only [slices_heapSortOrdered_uint64.l0, hd, Bool.false_eq_true, if_false]
    rw [show w64 ((n : Int) - 1) = (n : Int) - 1 from w64_of (by omega) (by omega)]
    exact g3 k (by omega)
  | succ m ih =>
    intro l hm hf hl hh
    have hd : decide ((0 : Int) ≤ ((m + 1 : Nat) : Int) - 1) = true := decide_eq_true (by omega)
    have em : ((m + 1 : Nat) : Int) - 1 = (m : Int) := by omega
    obtain ⟨l1, k1, k2, n2, k3⟩ := sd_l0_uint64 (d := d) hc hw (f := f) (lo := m) (hi := n) _ l m (Nat.le_refl _) (Nat.le_refl _) hf (by omega) hl
      (fun c p hp h0 h1 hcm hp0 => hh c p hp h0 (by omega) hcm)
      (fun c _ _ _ h0 h1 => by omega)
    dsimp only at k3
    obtain ⟨l', g1, g2, n1, g3⟩ := ih l1 (by omega) (by rw [k1.len]; omega) (by rw [k1.len]; omega) k2
    dsimp only at g3
    refine ⟨l', (k1.mono (by omega) (Nat.le_refl _)).trans g1, g2, max n1 n2 + 1, fun k hk => ?_⟩
    obtain ⟨k, rfl⟩ : ∃ j, k = j + 1 := ⟨k - 1, by omega⟩
    simp only [slices_heapSortOrdered_uint64.l0, hd, if_true, em, slices_siftDownOrdered_uint64]
    rw [k3 k (by omega), Option.bind_some, show w64 ((m : Int) - 1) = (m : Int) - 1 from w64_of (by omega) (by omega)]
    exact g3 k (by omega)
theorem hs_uint64 (hc : ∀ x y, cmp_Less_uint64 x y = some (decide (lt x y))) (hw : Wo lt) {a b : Nat} (l : List Int) (hab : a < b) (hb : b ≤ l.length) (hl : l.length ≤ 1152921504606846976) :
    ∃ l', Rng a b l l' ∧ SrtR d lt a b l' ∧ Ev (fun k => slices_heapSortOrdered_uint64 k l (a : Int) (b : Int)) l' := by
  obtain ⟨n, rfl⟩ : ∃ n, b = a + n := ⟨b - a, by omega⟩
  have e1 : w64 (((a + n : Nat) : Int) - (a : Int)) = (n : Int) := w64_nat (by omega) (by omega)
  have e2 : w64 ((n : Int) - 1) = ((n - 1 : Nat) : Int) := wP (by omega) (by omega)
  have e3 : Int.tdiv ((n - 1 : Nat) : Int) 2 = (((n - 1) / 2 : Nat) : Int) := by rw [Int.tdiv_eq_ediv_of_nonneg (by omega)]; omega
  have e4 : w64 (((n - 1) / 2 : Nat) : Int) = (((n - 1) / 2 + 1 : Nat) : Int) - 1 := by rw [w64_nat (n := (n - 1) / 2) (by omega) rfl]; omega
  obtain ⟨l', g1, g2, g3⟩ := hs_l0_uint64 (d := d) hc hw (f := a) (n := n) (by omega) ((n - 1) / 2 + 1) l (by omega) hb hl (fun c p hp h0 h1 h2 => by omega)
  refine ⟨l', g1, g2, ?_⟩
  simp only [slices_heapSortOrdered_uint64, e1, e2, e3, e4]
  exact g3
abbrev RC_uint64 := List Int → Int → Int → Int → Option (List Int)
def pdqB3_uint64 (R : RC_uint64) (k : Nat) (a b lim : Int) (wb wp : Bool) (l : List Int) (p : Int) : Option (List Int) :=
  Jn (fun (b_76 : Bool) => if b_76 = true then ((slices_partitionEqualOrdered_uint64 k l a b p).bind fun r227 => slices_pdqsortOrdered_uint64.l0 R k r227.2 r227.1 b lim wb wp) else ((slices_partitionOrdered_uint64 k l a b p).bind fun r230 => if (decide ((w64 (r230.1 - a)) < (w64 (b - r230.1)))) = true then ((R r230.2.2 a r230.1 lim).bind fun r234 => slices_pdqsortOrdered_uint64.l0 R k r234 (w64 (r230.1 + 1)) b lim (decide ((w64 (Int.tdiv (w64 (b - a)) 8)) ≤ (w64 (r230.1 - a)))) r230.2.1) else ((R r230.2.2 (w64 (r230.1 + 1)) b lim).bind fun r237 => slices_pdqsortOrdered_uint64.l0 R k r237 a r230.1 lim (decide ((w64 (Int.tdiv (w64 (b - a)) 8)) ≤ (w64 (b - r230.1)))) r230.2.1))) (fun J_77 => if (decide (0 < a)) = true then ((idx l (w64 (a - 1))).bind fun x240 => (idx l p).bind fun x241 => (cmp_Less_uint64 x240 x241).bind fun r242 => J_77 (!r242)) else (J_77 false))
def pdqB2_uint64 (R : RC_uint64) (k : Nat) (a b lim : Int) (wb wp : Bool) (l : List Int) (p h : Int) : Option (List Int) :=
  if ((wb && wp) && h == 1) = true then ((slices_partialInsertionSortOrdered_uint64 k l a b).bind fun r247 => if r247.1 = true then (some r247.2) else (pdqB3_uint64 R k a b lim wb wp r247.2 p)) else (pdqB3_uint64 R k a b lim wb wp l p)
def pdqB1_uint64 (R : RC_uint64) (k : Nat) (a b : Int) (wb wp : Bool) (l : List Int) (lim : Int) : Option (List Int) :=
  (slices_choosePivotOrdered_uint64 l a b).bind fun r193 => if (r193.2 == 2) = true then ((slices_reverseRangeOrdered_uint64 k l a b).bind fun r252 => pdqB2_uint64 R k a b lim wb wp r252 (w64 ((w64 (b - 1)) - (w64 (r193.1 - a)))) 1) else (pdqB2_uint64 R k a b lim wb wp l r193.1 r193.2)
theorem pdq_step_uint64 (R : RC_uint64) (k : Nat) (l : List Int) (a b lim : Int) (wb wp : Bool) : slices_pdqsortOrdered_uint64.l0 R (k + 1) l a b lim wb wp =
    if (decide ((w64 (b - a)) ≤ 12)) = true then ((slices_insertionSortOrdered_uint64 k l a b).bind fun r178 => some r178) else (if (lim == 0) = true then ((slices_heapSortOrdered_uint64 k l a b).bind fun r186 => some r186) else (if (!wb) = true then ((slices_breakPatternsOrdered_uint64 k l a b).bind fun r256 => pdqB1_uint64 R k a b wb wp r256 (w64 (lim - 1))) else (pdqB1_uint64 R k a b wb wp l lim))) := rfl
def Grd_uint64 (lt : Int → Int → Prop) (d : Int) (a b : Nat) (l : List Int) : Prop := a = 0 ∨ ∀ k, a ≤ k → k < b → ¬ lt (A d l k) (A d l (a - 1))
theorem Grd_uint64.to {a b : Nat} {l l' : List Int} (hr : Rng a b l l') (hb : b ≤ l.length) (hg : Grd_uint64 lt d a b l) : Grd_uint64 lt d a b l' := by
  rcases hg with hg | hg
  · exact .inl hg
  · by_cases ha0 : a = 0
    · exact .inl ha0
    · refine .inr ?_
      rw [hr.A (.inl (by omega))]
      exact hr.all (d := d) (P := fun x => ¬ lt x (A d l (a - 1))) hb hg
theorem pdq_l0_uint64 (hc : ∀ x y, cmp_Less_uint64 x y = some (decide (lt x y))) (hw : Wo lt) : ∀ (n : Nat) (l : List Int) (a b lim : Nat) (wb wp : Bool), b - a ≤ n → a ≤ b → b ≤ l.length → l.length ≤ 1152921504606846976 → lim ≤ 64 → Grd_uint64 lt d a b l →
    ∃ l', Rng a b l l' ∧ SrtR d lt a b l' ∧ Ev2 (fun kr k => slices_pdqsortOrdered_uint64.l0 (fun x0 x1 x2 x3 => slices_pdqsortOrdered_uint64 kr x0 x1 x2 x3) k l (a : Int) (b : Int) (lim : Int) wb wp) l' := by
  intro n
  induction n with
  | zero =>
    intro l a b lim wb wp hn hab hb hl hlim hg
    obtain rfl : a = b := by omega
    obtain ⟨p, m, s, rfl, ha, hm⟩ := cut3 l (Nat.le_refl a) hb
    obtain ⟨m', k1, k2, k3⟩ := ins_uint64 (lt := lt) hc hw m p s ha hm hl
    refine ⟨p ++ m' ++ s, Rng.of p m m' s ha hm k2.1, SrtR.one (by omega), Ev2.succ ?_⟩
    have hd : decide ((w64 ((a : Int) - (a : Int))) ≤ 12) = true := by simp; decide
    simp only [pdq_step_uint64, hd, if_true]
    exact Ev2.bind k3 Ev2.ret
  | succ n ih =>
    intro l a b lim wb wp hn hab hb hl hlim hg
    have hba : w64 ((b : Int) - (a : Int)) = ((b - a : Nat) : Int) := wD hab (by omega)
    by_cases h12 : b - a ≤ 12
    · obtain ⟨p, m, s, rfl, ha, hm⟩ := cut3 l hab hb
      obtain ⟨m', k1, k2, k3⟩ := ins_uint64 (lt := lt) hc hw m p s ha hm hl
      have hd : decide ((((b - a : Nat) : Int)) ≤ 12) = true := decide_eq_true (by omega)
      refine ⟨p ++ m' ++ s, Rng.of p m m' s ha hm k2.1, k1.R ha (by rw [List.length_append, ← k2.1.length_eq, ← List.length_append]; exact hm), Ev2.succ ?_⟩
      simp only [pdq_step_uint64, hba, hd, if_true]
      exact Ev2.bind k3 Ev2.ret
    · have hd : decide ((((b - a : Nat) : Int)) ≤ 12) = false := decide_eq_false (by omega)
      by_cases hlz : lim = 0
      · subst hlz
        obtain ⟨l', g1, g2, g3⟩ := hs_uint64 (d := d) hc hw (a := a) (b := b) l (by omega) hb hl
        refine ⟨l', g1, g2, Ev2.succ ?_⟩
        have h0 : (((0 : Nat) : Int) == 0) = true := by decide
        simp only [pdq_step_uint64, hba, hd, if_false, Bool.false_eq_true, h0, if_true]
        exact Ev2.bind g3 Ev2.ret
      · have h0 : ((lim : Int) == 0) = false := by simp; omega
        have rcc : ∀ (l1 : List Int) (a1 b1 lim1 : Nat), b1 - a1 ≤ n → a1 ≤ b1 → b1 ≤ l1.length → l1.length ≤ 1152921504606846976 → lim1 ≤ 64 → Grd_uint64 lt d a1 b1 l1 →
            ∃ l', Rng a1 b1 l1 l' ∧ SrtR d lt a1 b1 l' ∧ Ev (fun k => slices_pdqsortOrdered_uint64 k l1 (a1 : Int) (b1 : Int) (lim1 : Int)) l' := fun l1 a1 b1 lim1 h1 h2 h3 h4 h5 h6 => by
          obtain ⟨l', g1, g2, g3⟩ := ih l1 a1 b1 lim1 true true h1 h2 h3 h4 h5 h6
          refine ⟨l', g1, g2, Ev.succ ?_⟩
          simp only [slices_pdqsortOrdered_uint64]
          exact g3.ev
        -- behind the last looks
        have b3 : ∀ (l1 : List Int) (p lim1 : Nat), l1.length = l.length → Grd_uint64 lt d a b l1 → a ≤ p → p < b → lim1 ≤ 64 →
            ∃ l', Rng a b l1 l' ∧ SrtR d lt a b l' ∧ Ev2 (fun kr k => pdqB3_uint64 (fun x0 x1 x2 x3 => slices_pdqsortOrdered_uint64 kr x0 x1 x2 x3) k (a : Int) (b : Int) (lim1 : Int) wb wp l1 (p : Int)) l' := by
          intro l1 p lim1 hlen hg1 hp hp' hlim1
          by_cases heq : 0 < a ∧ ¬ lt (A d l1 (a - 1)) (A d l1 p)
          · -- equals
            obtain ⟨l2, m, g1, g2, g3, g4, g5, g6, g7⟩ := pe_uint64 (d := d) hc (l := l1) (a := a) (b := b) (p := p) hp hp' (by omega) (by omega)
            have hl2 := g1.len
            have hmin1 : ∀ k, a ≤ k → k < b → ¬ lt (A d l1 k) (A d l1 p) := fun k k1 k2 => by
              rcases hg1 with h | h
              · omega
              · exact hw.neg _ _ _ (h k k1 k2) heq.2
            have hmin : ∀ k, a ≤ k → k < b → ¬ lt (A d l2 k) (A d l2 a) := by
              rw [g2]; exact g1.all (d := d) (P := fun x => ¬ lt x (A d l1 p)) (by omega) hmin1
            have heqs : ∀ i k, a ≤ i → i < m → a ≤ k → k < b → ¬ lt (A d l2 k) (A d l2 i) := fun i k i1 i2 k1 k2 => by
              by_cases c : i = a
              · subst c; exact hmin k k1 k2
              · exact hw.neg _ _ _ (hmin k k1 k2) (g5 i (by omega) i2)
            obtain ⟨l', q1, q2, q3⟩ := ih l2 m b lim1 wb wp (by omega) g4 (by omega) (by omega) hlim1 (.inr fun k k1 k2 => heqs (m - 1) k (by omega) (by omega) (by omega) k2)
            refine ⟨l', g1.trans (q1.mono (by omega) (Nat.le_refl _)), ?_, ?_⟩
            · refine SrtR.join (m := m) ?_ q2 ?_
              · refine SrtR.congr (l := l2) (fun i j i1 i2 i3 => heqs i j i1 (by omega) (by omega) (by omega)) (fun k k1 k2 => q1.A (.inl k2))
              · intro i j i1 i2 j1 j2
                rw [q1.A (.inl i2)]
                exact q1.all (d := d) (P := fun x => ¬ lt x (A d l2 i)) (by omega) (fun k k1 k2 => heqs i k i1 i2 (by omega) k2) j j1 j2
            · have hd0 : decide ((0 : Int) < (a : Int)) = true := decide_eq_true (by omega)
              simp only [pdqB3_uint64, Jn, hd0, if_true, wP (n := a) (by omega) (by omega), idx_A (d := d) (show a - 1 < l1.length by omega), idx_A (d := d) (show p < l1.length by omega), Option.bind_some, hc, decide_eq_false heq.2, Bool.not_false]
              exact Ev2.bind g7 q3
          · obtain ⟨l2, m, fl, g1, g2, g3, g4, g5, g6⟩ := par_uint64 (d := d) hc (l := l1) (a := a) (b := b) (p := p) hp hp' (by omega) (by omega)
            have hl2 := g1.len
            have hg2 : Grd_uint64 lt d a b l2 := Grd_uint64.to g1 (by omega) hg1
            have gL : Grd_uint64 lt d a m l2 := by
              rcases hg2 with h | h
              · exact .inl h
              · exact .inr fun k k1 k2 => h k k1 (by omega)
            have gR : ∀ l3, Rng a m l2 l3 → Grd_uint64 lt d (m + 1) b l3 := fun l3 h3 => .inr fun k k1 k2 => by
              rw [h3.A (.inr (by omega)), h3.A (k := m + 1 - 1) (.inr (by omega))]
              exact g5 k (by omega) k2
            have stp : ∀ kr k, pdqB3_uint64 (fun x0 x1 x2 x3 => slices_pdqsortOrdered_uint64 kr x0 x1 x2 x3) k (a : Int) (b : Int) (lim1 : Int) wb wp l1 (p : Int) = ((slices_partitionOrdered_uint64 k l1 a b p).bind fun r230 => if (decide ((w64 (r230.1 - (a : Int))) < (w64 ((b : Int) - r230.1)))) = true then ((slices_pdqsortOrdered_uint64 kr r230.2.2 a r230.1 lim1).bind fun r234 => slices_pdqsortOrdered_uint64.l0 (fun x0 x1 x2 x3 => slices_pdqsortOrdered_uint64 kr x0 x1 x2 x3) k r234 (w64 (r230.1 + 1)) b lim1 (decide ((w64 (Int.tdiv (w64 ((b : Int) - (a : Int))) 8)) ≤ (w64 (r230.1 - (a : Int))))) r230.2.1) else ((slices_pdqsortOrdered_uint64 kr r230.2.2 (w64 (r230.1 + 1)) b lim1).bind fun r237 => slices_pdqsortOrdered_uint64.l0 (fun x0 x1 x2 x3 => slices_pdqsortOrdered_uint64 kr x0 x1 x2 x3) k r237 a r230.1 lim1 (decide ((w64 (Int.tdiv (w64 ((b : Int) - (a : Int))) 8)) ≤ (w64 ((b : Int) - r230.1)))) r230.2.1)) := fun kr k => by
              by_cases h0a : 0 < a
              · have hd0 : decide ((0 : Int) < (a : Int)) = true := decide_eq_true (by omega)
                have hlt : lt (A d l1 (a - 1)) (A d l1 p) := Classical.byContradiction fun h => heq ⟨h0a, h⟩
                simp only [pdqB3_uint64, Jn, hd0, if_true, wP (n := a) (by omega) (by omega), idx_A (d := d) (show a - 1 < l1.length by omega), idx_A (d := d) (show p < l1.length by omega), Option.bind_some, hc, decide_eq_true hlt, Bool.not_true, Bool.false_eq_true, if_false]
              · have hd0 : decide ((0 : Int) < (a : Int)) = false := decide_eq_false (by omega)
                simp only [pdqB3_uint64, Jn, hd0, Bool.false_eq_true, if_false]
            have em : w64 ((m : Int) - (a : Int)) = ((m - a : Nat) : Int) := wD g2 (by omega)
            have em2 : w64 ((b : Int) - (m : Int)) = ((b - m : Nat) : Int) := wD (by omega) (by omega)
            have em3 : w64 ((m : Int) + 1) = ((m + 1 : Nat) : Int) := wS (by omega)
            by_cases hside : m - a < b - m
            · obtain ⟨l3, q1, q2, q3⟩ := rcc l2 a m lim1 (by omega) g2 (by omega) (by omega) hlim1 gL
              have hl3 := q1.len
              obtain ⟨l', r1, r2, r3⟩ := ih l3 (m + 1) b lim1 (decide ((w64 (Int.tdiv (((b - a : Nat) : Int)) 8)) ≤ (((m - a : Nat) : Int)))) fl (by omega) (by omega) (by omega) (by omega) hlim1 (gR l3 q1)
              refine ⟨l', g1.trans ((q1.mono (Nat.le_refl _) (by omega)).trans (r1.mono (by omega) (Nat.le_refl _))), ?_, ?_⟩
              · have eL : ∀ k, a ≤ k → k < m → lt (A d l' k) (A d l2 m) := fun k k1 k2 => by
                  rw [r1.A (.inl (by omega))]
                  exact q1.all (d := d) (P := fun x => lt x (A d l2 m)) (by omega) (fun k k1 k2 => g4 k k1 k2) k k1 k2
                have eR : ∀ k, m ≤ k → k < b → ¬ lt (A d l' k) (A d l2 m) := fun k k1 k2 => by
                  by_cases c : k = m
                  · subst c; rw [r1.A (.inl (by omega)), q1.A (.inr (Nat.le_refl _))]; exact hw.irr _
                  · refine r1.all (d := d) (P := fun x => ¬ lt x (A d l2 m)) (by omega) (fun q k1 k2 => ?_) k (by omega) k2
                    rw [q1.A (.inr (by omega))]; exact g5 q (by omega) k2
                have em' : A d l' m = A d l2 m := by rw [r1.A (.inl (by omega)), q1.A (.inr (Nat.le_refl _))]
                refine SrtR.join (m := m) (q2.congr fun k k1 k2 => r1.A (.inl (by omega))) ?_ ?_
                · intro i j i1 i2 j2
                  by_cases c : i = m
                  · subst c; rw [em']; exact eR j (by omega) j2
                  · exact r2 i j (by omega) i2 j2
                · intro i j i1 i2 j1 j2 h
                  exact eR j j1 j2 (hw.lt_le h (hw.asymm _ _ (eL i i1 i2)))
              · simp only [stp]
                refine Ev2.bind g6 ?_
                simp only [em, em2, em3, hba, dLt hside, if_true]
                exact Ev2.bindR q3 r3
            · obtain ⟨l3, q1, q2, q3⟩ := rcc l2 (m + 1) b lim1 (by omega) (by omega) (by omega) (by omega) hlim1 (gR l2 (Rng.refl _ _ _))
              have hl3 := q1.len
              have gL3 : Grd_uint64 lt d a m l3 := by
                rcases gL with h | h
                · exact .inl h
                · by_cases ha0 : a = 0
                  · exact .inl ha0
                  · exact .inr fun k k1 k2 => by rw [q1.A (.inl (by omega)), q1.A (.inl (by omega))]; exact h k k1 k2
              obtain ⟨l', r1, r2, r3⟩ := ih l3 a m lim1 (decide ((w64 (Int.tdiv (((b - a : Nat) : Int)) 8)) ≤ (((b - m : Nat) : Int)))) fl (by omega) (by omega) (by omega) (by omega) hlim1 gL3
              refine ⟨l', g1.trans ((q1.mono (by omega) (Nat.le_refl _)).trans (r1.mono (Nat.le_refl _) (by omega))), ?_, ?_⟩
              · have em' : A d l' m = A d l2 m := by rw [r1.A (.inr (Nat.le_refl _)), q1.A (.inl (by omega))]
                have eL : ∀ k, a ≤ k → k < m → lt (A d l' k) (A d l2 m) := fun k k1 k2 => by
                  refine r1.all (d := d) (P := fun x => lt x (A d l2 m)) (by omega) (fun q k1 k2 => ?_) k k1 k2
                  rw [q1.A (.inl (by omega))]; exact g4 q k1 k2
                have eR : ∀ k, m ≤ k → k < b → ¬ lt (A d l' k) (A d l2 m) := fun k k1 k2 => by
                  rw [r1.A (.inr k1)]
                  by_cases c : k = m
                  · subst c; rw [q1.A (.inl (by omega))]; exact hw.irr _
                  · exact q1.all (d := d) (P := fun x => ¬ lt x (A d l2 m)) (by omega) (fun q k1 k2 => g5 q (by omega) k2) k (by omega) k2
                refine SrtR.join (m := m) r2 ?_ ?_
                · intro i j i1 i2 j2
                  by_cases c : i = m
                  · subst c; rw [em']; exact eR j (by omega) j2
                  · rw [r1.A (.inr (by omega)), r1.A (.inr (by omega))]; exact q2 i j (by omega) i2 j2
                · intro i j i1 i2 j1 j2 h
                  exact eR j j1 j2 (hw.lt_le h (hw.asymm _ _ (eL i i1 i2)))
              · simp only [stp]
                refine Ev2.bind g6 ?_
                simp only [em, em2, em3, hba, dLtF hside, if_false, Bool.false_eq_true]
                exact Ev2.bindR q3 r3
        have b2 : ∀ (l1 : List Int) (p lim1 : Nat) (h : Int), l1.length = l.length → Grd_uint64 lt d a b l1 → a ≤ p → p < b → lim1 ≤ 64 →
            ∃ l', Rng a b l1 l' ∧ SrtR d lt a b l' ∧ Ev2 (fun kr k => pdqB2_uint64 (fun x0 x1 x2 x3 => slices_pdqsortOrdered_uint64 kr x0 x1 x2 x3) k (a : Int) (b : Int) (lim1 : Int) wb wp l1 (p : Int) h) l' := by
          intro l1 p lim1 h hlen hg1 hp hp' hlim1
          by_cases hh : ((wb && wp) && h == 1) = true
          · obtain ⟨f, l2, g1, g2, g3⟩ := pi_uint64 (d := d) hc hw (a := a) (b := b) l1 (by omega) (by omega) (by omega) hg1
            cases f with
            | true =>
              refine ⟨l2, g1, g2 rfl, ?_⟩
              simp only [pdqB2_uint64, hh, if_true]
              refine Ev2.bind g3 ?_
              simp only [if_true]
              exact Ev2.ret
            | false =>
              obtain ⟨l', q1, q2, q3⟩ := b3 l2 p lim1 (by rw [g1.len, hlen]) (Grd_uint64.to g1 (by omega) hg1) hp hp' hlim1
              refine ⟨l', g1.trans q1, q2, ?_⟩
              simp only [pdqB2_uint64, hh, if_true]
              refine Ev2.bind g3 ?_
              simp only [Bool.false_eq_true, if_false]
              exact q3
          · obtain ⟨l', q1, q2, q3⟩ := b3 l1 p lim1 hlen hg1 hp hp' hlim1
            refine ⟨l', q1, q2, ?_⟩
            simp only [pdqB2_uint64, hh, Bool.false_eq_true, if_false]
            exact q3
        have b1 : ∀ (l1 : List Int) (lim1 : Nat), l1.length = l.length → Grd_uint64 lt d a b l1 → lim1 ≤ 64 →
            ∃ l', Rng a b l1 l' ∧ SrtR d lt a b l' ∧ Ev2 (fun kr k => pdqB1_uint64 (fun x0 x1 x2 x3 => slices_pdqsortOrdered_uint64 kr x0 x1 x2 x3) k (a : Int) (b : Int) wb wp l1 (lim1 : Int)) l' := by
          intro l1 lim1 hlen hg1 hlim1
          obtain ⟨p, h, e, hp, hp'⟩ := cho_uint64 hc (l := l1) (a := a) (b := b) (by omega) (by omega) (by omega)
          by_cases hh : (h == 2) = true
          · obtain ⟨u, m, s, e1, ha, hm⟩ := cut3 l1 hab (by omega)
            have k3 := rev_uint64 (a := a) (b := b) m u s ha hm (by rw [← e1]; omega)
            rw [← e1] at k3
            have hr : Rng a b l1 (u ++ m.reverse ++ s) := by
              rw [e1]; exact Rng.of u m m.reverse s ha hm (List.reverse_perm m).symm
            have ep : w64 ((w64 ((b : Int) - 1)) - (w64 ((p : Int) - (a : Int)))) = ((b - 1 - (p - a) : Nat) : Int) := by
              rw [wP (n := b) (by omega) (by omega), wD (m := p) (n := a) (by omega) (by omega), wD (by omega) (by omega)]
            obtain ⟨l', q1, q2, q3⟩ := b2 (u ++ m.reverse ++ s) (b - 1 - (p - a)) lim1 1 (by rw [hr.len, hlen]) (Grd_uint64.to hr (by omega) hg1) (by omega) (by omega) hlim1
            refine ⟨l', hr.trans q1, q2, ?_⟩
            simp only [pdqB1_uint64, e, Option.bind_some, hh, if_true, ep]
            exact Ev2.bind k3 q3
          · obtain ⟨l', q1, q2, q3⟩ := b2 l1 p lim1 h hlen hg1 hp hp' hlim1
            refine ⟨l', q1, q2, ?_⟩
            simp only [pdqB1_uint64, e, Option.bind_some, hh, Bool.false_eq_true, if_false]
            exact q3
        cases wb with
        | true =>
          obtain ⟨l', q1, q2, q3⟩ := b1 l lim rfl hg hlim
          refine ⟨l', q1, q2, Ev2.succ ?_⟩
          simp only [pdq_step_uint64, hba, hd, Bool.false_eq_true, if_false, h0, Bool.not_true]
          exact q3
        | false =>
          obtain ⟨l1, g1, g2⟩ := brk_uint64 d (a := a) (b := b) l (by omega) hb hl
          obtain ⟨l', q1, q2, q3⟩ := b1 l1 (lim - 1) g1.len (Grd_uint64.to g1 hb hg) (by omega)
          refine ⟨l', g1.trans q1, q2, Ev2.succ ?_⟩
          simp only [pdq_step_uint64, hba, hd, Bool.false_eq_true, if_false, h0, Bool.not_false, if_true, wP (n := lim) (by omega) (by omega)]
          exact Ev2.bind g2 q3
/-- slices.Sort: sorted, a turn of what was there. -/
theorem sort_uint64 (d : Int) (hc : ∀ x y, cmp_Less_uint64 x y = some (decide (lt x y))) (hw : Wo lt) (l : List Int) (hl : l.length ≤ 1152921504606846976) :
    ∃ l', Srt lt l' ∧ l.Perm l' ∧ Ev (fun k => slices_Sort_uint64 k l) l' := by
  have hz : ∃ L : Nat, math_bits_Len (wu64 (l.length : Int)) = some (L : Int) ∧ L ≤ 64 := by
    rw [wu64_nat_uint64 (n := l.length) (by omega) rfl]
    by_cases h0 : l.length = 0
    · rw [h0]; exact ⟨0, by decide +kernel, by omega⟩
    · obtain ⟨L, e, g, _⟩ := len64_uint64 (n := l.length) (by omega) (by omega)
      exact ⟨L, e, g⟩
  obtain ⟨L, e, hL⟩ := hz
  obtain ⟨l', g1, g2, g3⟩ := pdq_l0_uint64 (d := d) hc hw l.length l 0 l.length L true true (by omega) (by omega) (Nat.le_refl _) hl hL (.inl rfl)
  have g3' := g3.ev
  refine ⟨l', (show SrtR d lt 0 l'.length l' by rw [g1.len]; exact g2).srt, g1.perm, ?_⟩
  simp only [slices_Sort_uint64, e, Option.bind_some]
  refine Ev.bind (a := l') (Ev.succ ?_) Ev.ret
  simp only [slices_pdqsortOrdered_uint64]
  exact g3'
end
end Go.Proofs.YtbaemhkfmddakaaGreat.Mo
