import Derived.Test.YtfofolmagnaimaaDpA
import Derived.Test.YtfofolmagnaimaaDpP
import Derived.Test.YtfofolmagnaimaaCmDp
set_option linter.unusedVariables false
set_option linter.unusedSectionVars false
set_option linter.unusedSimpArgs false
set_option maxRecDepth 100000
namespace Go.Proofs.Ytfofolmagnaimaa.Mo
open Go Go.Proofs.Ytfofolmagnaimaa.Sy
def uqI (l : List Int) : List Int := uq (fun x y : Int => x < y) l
def strN (l : List Int) (n : Int) : Nat := ((uqI l).filter fun x => decide (x < n)).length
theorem strN_le (l : List Int) (n : Int) : strN l n ≤ (uqI l).length := List.length_filter_le _ _
def scl (n : Int) : List Int → List Int → List Int
  | _, [] => []
  | p, x :: s => (if x < n ∧ x ∉ p then [x] else []) ++ scl n (p ++ [x]) s
theorem sc_len (n : Int) : ∀ (s p : List Int), sc n p s = (scl n p s).length
  | [], _ => rfl
  | x :: s, p => by
    simp only [sc, scl, List.length_append, sc_len n s]
    by_cases h : x < n ∧ x ∉ p
    · simp only [if_pos h, List.length_singleton]
    · simp only [if_neg h, List.length_nil]
theorem scl_mem (n : Int) {y : Int} : ∀ {s p : List Int}, y ∈ scl n p s ↔ y ∈ s ∧ y < n ∧ y ∉ p
  | [], _ => by simp [scl]
  | x :: s, p => by
    rw [scl, List.mem_append, scl_mem n (s := s)]
    by_cases h : x < n ∧ x ∉ p
    · rw [if_pos h]
      simp only [List.mem_singleton, List.mem_cons, List.mem_append, List.not_mem_nil, or_false]
      constructor
      · rintro (rfl | ⟨h1, h2, h3⟩)
        · exact ⟨.inl rfl, h.1, h.2⟩
        · exact ⟨.inr h1, h2, fun k => h3 (.inl k)⟩
      · rintro ⟨rfl | h1, h2, h3⟩
        · exact .inl rfl
        · by_cases e : y = x
          · exact .inl e
          · exact .inr ⟨h1, h2, by rintro (k | k); exact h3 k; exact e k⟩
    · rw [if_neg h]
      simp only [List.mem_singleton, List.mem_cons, List.mem_append, List.not_mem_nil, or_false, false_or]
      constructor
      · rintro ⟨h1, h2, h3⟩
        exact ⟨.inr h1, h2, fun k => h3 (.inl k)⟩
      · rintro ⟨h1, h2, h3⟩
        have e : y ≠ x := fun e => by subst e; exact h ⟨h2, h3⟩
        rcases h1 with h1 | h1
        · exact absurd h1 e
        · exact ⟨h1, h2, by rintro (k | k); exact h3 k; exact e k⟩
theorem scl_nodup (n : Int) : ∀ (s p : List Int), (scl n p s).Nodup
  | [], _ => List.Pairwise.nil
  | x :: s, p => by
    rw [scl]
    refine List.nodup_append.2 ⟨?_, scl_nodup n s _, fun a ha b hb => ?_⟩
    · split
      · exact List.pairwise_singleton _ _
      · exact List.Pairwise.nil
    · have h1 := (scl_mem n).1 hb
      split at ha
      · simp at ha
        subst ha
        intro e
        subst e
        exact h1.2.2 (by simp)
      · simp at ha
theorem sc_eq (l : List Int) (n : Int) : sc n [] l = strN l n := by
  rw [sc_len]
  have hn : ((uqI l).filter fun x => decide (x < n)).Nodup := ((uq_pw so_int l).imp fun {a b} h e => by subst e; exact absurd h (by omega)).filter _
  refine ((List.perm_ext_iff_of_nodup (scl_nodup n l []) hn).2 fun y => ?_).length_eq
  rw [scl_mem, List.mem_filter, uqI, mem_uq so_int]
  simp
theorem rstripe_ev (l : List Int) (n : Int) (hl : l.length ≤ maxLen) : Ev (fun k => r21_Stripe k l n) (strN l n : Int) := by
  refine ⟨l.length + l.length + 1, fun k hk => ?_⟩
  have := ref_l0 l n hl l [] k 0 rfl (by omega) (by simp)
  unfold r21_Stripe
  rw [Nat.zero_add, sc_eq] at this
  exact this
theorem cnt_at {U : List Int} {n : Int} {t : Nat} (h1 : ∀ x ∈ U.take t, x < n) (h2 : ∀ x ∈ U.drop t, ¬ x < n) (ht : t ≤ U.length) : (U.filter fun x => decide (x < n)).length = t := by
  conv => lhs; rw [← List.take_append_drop t U]
  rw [List.filter_append, List.filter_eq_self.2 (fun x hx => decide_eq_true (h1 x hx)), List.filter_eq_nil_iff.2 (fun x hx h => h2 x hx (of_decide_eq_true h)), List.append_nil, List.length_take]
  omega
theorem bin_l0 (U : List Int) (hU : U.Pairwise fun x y => x < y) (hl : U.length ≤ 1152921504606846976) (n : Int) : ∀ (m i j : Nat), j - i ≤ m → i ≤ j → j ≤ U.length → (∀ x ∈ U.take i, x < n) → (∀ x ∈ U.drop j, ¬ x < n) →
    ∃ b, Ev (fun k => slices_BinarySearch_uint64.l0 U n k i j) (((U.filter fun x => decide (x < n)).length : Int), b) := by
  have stop : ∀ i : Nat, i ≤ U.length → (∀ x ∈ U.take i, x < n) → (∀ x ∈ U.drop i, ¬ x < n) → ∃ b, Ev (fun k => slices_BinarySearch_uint64.l0 U n k i i) (((U.filter fun x => decide (x < n)).length : Int), b) := by
    intro i hi h1 h2
    rw [cnt_at h1 h2 hi]
    by_cases hc : i < U.length
    · by_cases he : (U[i] == n) = true
      · refine ⟨true, Ev.succ ?_⟩
        simp only [slices_BinarySearch_uint64.l0, Int.lt_irrefl, decide_false, Bool.false_eq_true, if_false, Jn, decT hc, if_true, getD_idx hc, Option.bind_some, he]
        exact Ev.ret
      · refine ⟨false, Ev.succ ?_⟩
        simp only [slices_BinarySearch_uint64.l0, Int.lt_irrefl, decide_false, Bool.false_eq_true, if_false, Jn, decT hc, if_true, getD_idx hc, Option.bind_some, he, slices_isNaN_uint64, bne_self_eq_false]
        exact Ev.ret
    · refine ⟨false, Ev.succ ?_⟩
      simp only [slices_BinarySearch_uint64.l0, Int.lt_irrefl, decide_false, Bool.false_eq_true, if_false, Jn, decF (show U.length ≤ i by omega)]
      exact Ev.ret
  intro m
  induction m with
  | zero =>
    intro i j hm hij hj h1 h2
    obtain rfl : i = j := by omega
    exact stop i hj h1 h2
  | succ m ih =>
    intro i j hm hij hj h1 h2
    by_cases e : i = j
    · subst e; exact stop i hj h1 h2
    · have hmid := mid_eq (i := i) (j := j) (by omega)
      have hlt : (i + j) / 2 < U.length := by omega
      have hpw := List.pairwise_iff_getElem.1 hU
      by_cases hc : U[(i + j) / 2] < n
      · obtain ⟨b, hb⟩ := ih ((i + j) / 2 + 1) j (by omega) (by omega) hj (fun x hx => by
          obtain ⟨q, hq, rfl⟩ := List.mem_iff_getElem.1 hx
          rw [List.length_take] at hq
          rw [List.getElem_take]
          by_cases hqe : q = (i + j) / 2
          · simp only [hqe]; exact hc
          · have := hpw q ((i + j) / 2) (by omega) hlt (by omega)
            omega) h2
        refine ⟨b, Ev.succ ?_⟩
        have hw : w64 ((((i + j) / 2 : Nat) : Int) + 1) = (((i + j) / 2 + 1 : Nat) : Int) := by rw [w64_of (by omega) (by omega)]; omega
        simp only [slices_BinarySearch_uint64.l0, decT (show i < j by omega), if_true, hmid, getD_idx hlt, Option.bind_some, less_uint64, hc, decide_true, hw]
        exact hb
      · obtain ⟨b, hb⟩ := ih i ((i + j) / 2) (by omega) (by omega) (by omega) h1 (fun x hx => by
          obtain ⟨q, hq, rfl⟩ := List.mem_iff_getElem.1 hx
          rw [List.length_drop] at hq
          rw [List.getElem_drop]
          by_cases hqe : q = 0
          · subst hqe; simpa using hc
          · have := hpw ((i + j) / 2) ((i + j) / 2 + q) hlt (by omega) (by omega)
            omega)
        refine ⟨b, Ev.succ ?_⟩
        simp only [slices_BinarySearch_uint64.l0, decT (show i < j by omega), if_true, hmid, getD_idx hlt, Option.bind_some, less_uint64, hc, decide_false, Bool.false_eq_true, if_false]
        exact hb
theorem stripe_ev (l : List Int) (hl : l.length ≤ 1152921504606846976) (n : Int) : Ev (fun k => drop_Entries_1 k n (uqI l)) (strN l n : Int) := by
  have hul : (uqI l).length ≤ l.length := uq_len l
  obtain ⟨b, hb⟩ := bin_l0 (uqI l) (uq_pw so_int l) (by omega) n _ 0 (uqI l).length (Nat.le_refl _) (Nat.zero_le _) (Nat.le_refl _) (by simp) (by simp)
  unfold drop_Entries_1 slices_BinarySearch_uint64
  exact Ev.bind hb Ev.ret
/-- Above all numbers? -/
theorem last_iff (l : List Int) (n : Int) : strN l n = (uqI l).length ↔ ∀ x ∈ l, x < n := by
  unfold strN
  rw [List.length_filter_eq_length_iff]
  simp only [decide_eq_true_eq, uqI, mem_uq so_int]
theorem rlast_l0 (l : List Int) (n : Int) (hl : l.length ≤ 9223372036854775000) : ∀ (s p : List Int), l = p ++ s → Ev (fun k => r21_last.l0 l n k p.length) (s.all fun x => decide (x < n))
  | [], p, hp => by
    have e1 : decide ((p.length : Int) < (l.length : Int)) = false := by rw [hp]; exact lt_end p
    refine Ev.succ ?_
    simp only [r21_last.l0, e1, Bool.false_eq_true, if_false]
    exact Ev.ret
  | x :: s, p, hp => by
    have e1 : decide ((p.length : Int) < (l.length : Int)) = true := by rw [hp]; exact lt_at p s x
    have e2 : idx l (p.length : Int) = some x := by rw [hp]; exact idx_at p x s
    refine Ev.succ ?_
    simp only [r21_last.l0, e1, e2, if_true, Option.bind_some, step_at p s x (by rw [← hp, maxLen_val]; omega)]
    by_cases h : x < n
    · have : decide (n ≤ x) = false := decide_eq_false (by omega)
      simp only [this, Bool.false_eq_true, if_false, List.all_cons, h, decide_true, Bool.true_and]
      exact rlast_l0 l n hl s (p ++ [x]) (by simp [hp])
    · have : decide (n ≤ x) = true := decide_eq_true (by omega)
      simp only [this, if_true, List.all_cons, h, decide_false, Bool.false_and]
      exact Ev.ret
theorem rlast_ev (l : List Int) (n : Int) (hl : l.length ≤ 9223372036854775000) : Ev (fun k => r21_last k l n) (decide (strN l n = (uqI l).length)) := by
  have := rlast_l0 l n hl l [] rfl
  unfold r21_last
  refine this.to ?_
  rw [Bool.eq_iff_iff, List.all_eq_true, decide_eq_true_eq, last_iff]
  simp only [decide_eq_true_eq]
end Go.Proofs.Ytfofolmagnaimaa.Mo
