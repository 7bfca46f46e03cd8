/- The functions on tombs, in plain words. -/
import Derived.Test.YtmbhgfigffahbaaDoorTdTw
import Derived.Test.YtmbhgfigffahbaaDoorSyEv
set_option linter.unusedVariables false
set_option linter.unusedSimpArgs false
set_option maxRecDepth 100000
namespace Go.Proofs.YtmbhgfigffahbaaDoor.Mo
open Go Go.Proofs.YtmbhgfigffahbaaDoor.Sy

theorem eqb_iff {x y : Tomb} : Tomb.eqb x y = true ↔ x = y := by
  cases x; cases y
  simp [Tomb.eqb, sEq_iff]
theorem eqb_refl (x : Tomb) : Tomb.eqb x x = true := eqb_iff.2 rfl
theorem empty_iff {b : ByteArray} : b = ByteArray.mk #[] ↔ b.size = 0 := by
  obtain ⟨d⟩ := b
  simp [ByteArray.size]

/-- A valid tomb. -/
def okT (x : Tomb) : Bool := (tomb_Valid x).getD false
theorem valid_eq (x : Tomb) : tomb_Valid x = some (okT x) := rfl
theorem valid_eq' (x : Tomb) : r09_Valid x = some (okT x) := by
  simp only [r09_Valid, okT, tomb_Valid, Option.getD_some, sEq_dec]
  congr 5
  by_cases h : x.Begin.size = 0
  · simp [h, empty_iff.2 h, show (ByteArray.mk #[]).size = 0 from rfl]
  · have h2 : x.Begin ≠ ByteArray.mk #[] := fun e => h (empty_iff.1 e)
    simp [h2]; omega

theorem lent_eq (l : List Tomb) (h : l.length < 5629499534059) : l09_lent l = some (l, [⟨(ByteArray.mk #[109, 97, 114, 107]), (ByteArray.mk #[110, 97, 114, 107]), 77⟩]) := by
  simp only [l09_lent, Jn, pushN_ok (xs := []) (zs := l) (show ([] : List Tomb).length + l.length ≤ 5629499534059 by simp; omega), Option.bind_some, List.nil_append, push_ok (xs := l) h]
  have h2 : cut (l ++ [(⟨(ByteArray.mk #[109, 97, 114, 107]), (ByteArray.mk #[110, 97, 114, 107]), 77⟩ : Tomb)]) 0 (l.length : Int) = some l := by
    unfold cut
    rw [if_pos ⟨by omega, by omega, by rw [List.length_append]; omega⟩]
    simp
  rw [h2]
  simp

theorem valid_l0 (l : List Tomb) (h : l.length < 5629499534059) : ∀ s p acc, l = p ++ s → acc.length ≤ p.length → Ev (fun k => tomb_valid.l0 l k acc (p.length : Int)) (acc ++ s.filter okT) := by
  intro s
  induction s with
  | nil =>
    intro p acc hl ha
    subst hl
    refine Ev.succ ?_
    simp only [tomb_valid.l0, lt_end, Bool.false_eq_true, if_false]
    simpa using Ev.ret
  | cons x s ih =>
    intro p acc hl ha
    have hm : (p ++ x :: s).length ≤ maxLen := by rw [maxLen_val, ← hl]; omega
    have hp : p.length < 5629499534059 := by rw [hl] at h; simp at h; omega
    refine Ev.succ ?_
    subst hl
    simp only [tomb_valid.l0, lt_at, if_true, Jn, idx_at, Option.bind_some, valid_eq, step_at p s x hm]
    by_cases hx : okT x = true
    · simp only [hx, if_true, push_ok (xs := acc) (x := x) (Nat.lt_of_le_of_lt ha hp), Option.bind_some]
      exact (ih (p ++ [x]) (acc ++ [x]) (by simp) (by simp; omega)).to (by simp [hx])
    · simp only [hx, if_false]
      exact (ih (p ++ [x]) acc (by simp) (by simp; omega)).to (by simp [hx])
theorem valid_ev (l : List Tomb) (h : l.length < 5629499534059) : Ev (fun k => tomb_valid k l) (l.filter okT) := by
  have := valid_l0 l h l [] [] rfl (Nat.le_refl _)
  simpa [tomb_valid] using this

theorem all_l0 (l : List Tomb) (h : l.length < 5629499534059) : ∀ s p acc, l = p ++ s → acc.length ≤ p.length → Ev (fun k => r09_All.l0 l k acc (p.length : Int)) (acc ++ s.filter okT) := by
  intro s
  induction s with
  | nil =>
    intro p acc hl ha
    subst hl
    refine Ev.succ ?_
    simp only [r09_All.l0, lt_end, Bool.false_eq_true, if_false]
    simpa using Ev.ret
  | cons x s ih =>
    intro p acc hl ha
    have hm : (p ++ x :: s).length ≤ maxLen := by rw [maxLen_val, ← hl]; omega
    have hp : p.length < 5629499534059 := by rw [hl] at h; simp at h; omega
    refine Ev.succ ?_
    subst hl
    simp only [r09_All.l0, lt_at, if_true, Jn, idx_at, Option.bind_some, valid_eq', step_at p s x hm]
    by_cases hx : okT x = true
    · simp only [hx, if_true, push_ok (xs := acc) (x := x) (Nat.lt_of_le_of_lt ha hp), Option.bind_some]
      exact (ih (p ++ [x]) (acc ++ [x]) (by simp) (by simp; omega)).to (by simp [hx])
    · simp only [hx, if_false]
      exact (ih (p ++ [x]) acc (by simp) (by simp; omega)).to (by simp [hx])
theorem all_ev (l : List Tomb) (h : l.length < 5629499534059) : Ev (fun k => r09_All k l) (l.filter okT) := by
  have := all_l0 l h l [] [] rfl (Nat.le_refl _)
  simpa [r09_All] using this

/-- One tomb cut. -/
def cutOf (a b : ByteArray) (x : Tomb) : Tomb := ⟨maxS x.Begin a, if (!sEq b (ByteArray.mk #[])) = true then minS x.End b else x.End, x.Seq⟩
def cuts (a b : ByteArray) (l : List Tomb) : List Tomb := (l.map (cutOf a b)).filter (fun x => sLt x.Begin x.End)

theorem cut_l0 (a b : ByteArray) (l : List Tomb) (h : l.length < 5629499534059) : ∀ s p acc, l = p ++ s → acc.length ≤ p.length → Ev (fun k => tomb_Cut.l0 a b l k acc (p.length : Int)) (acc ++ cuts a b s) := by
  intro s
  induction s with
  | nil =>
    intro p acc hl ha
    subst hl
    refine Ev.succ ?_
    simp only [tomb_Cut.l0, lt_end, Bool.false_eq_true, if_false]
    simpa [cuts] using Ev.ret
  | cons x s ih =>
    intro p acc hl ha
    have hm : (p ++ x :: s).length ≤ maxLen := by rw [maxLen_val, ← hl]; omega
    have hp : p.length < 5629499534059 := by rw [hl] at h; simp at h; omega
    refine Ev.succ ?_
    subst hl
    have key : Ev (fun k => if sLt (cutOf a b x).Begin (cutOf a b x).End = true then (push 5629499534059 acc (cutOf a b x)).bind fun l203 => tomb_Cut.l0 a b (p ++ x :: s) k l203 ((p ++ [x]).length : Int) else tomb_Cut.l0 a b (p ++ x :: s) k acc ((p ++ [x]).length : Int)) (acc ++ cuts a b (x :: s)) := by
      by_cases hx : sLt (cutOf a b x).Begin (cutOf a b x).End = true
      · simp only [hx, if_true, push_ok (xs := acc) (x := cutOf a b x) (Nat.lt_of_le_of_lt ha hp), Option.bind_some]
        exact (ih (p ++ [x]) (acc ++ [cutOf a b x]) (by simp) (by simp; omega)).to (by simp [cuts, hx])
      · simp only [hx, if_false]
        exact (ih (p ++ [x]) acc (by simp) (by simp; omega)).to (by simp [cuts, hx])
    simp only [tomb_Cut.l0, lt_at, if_true, Jn, idx_at, Option.bind_some, step_at p s x hm]
    by_cases hb : (!sEq b (ByteArray.mk #[])) = true
    · simp only [cutOf, hb, if_true] at key ⊢; exact key
    · simp only [cutOf, hb, if_false] at key ⊢; exact key
theorem cuts_len (a b : ByteArray) (l : List Tomb) : (cuts a b l).length ≤ l.length := by
  unfold cuts
  exact Nat.le_trans (List.length_filter_le _ _) (by simp)
theorem cut_ev (l : List Tomb) (a b : ByteArray) (h : l.length < 5629499534059) : Ev (fun k => tomb_Cut k l a b) (cuts a b (l.filter okT)) := by
  simp only [tomb_Cut]
  refine (valid_ev l h).bind ?_
  have := cut_l0 a b (l.filter okT) (Nat.lt_of_le_of_lt (List.length_filter_le _ _) h) (l.filter okT) [] [] rfl (Nat.le_refl _)
  simpa using this

theorem low_eq (a c : ByteArray) : (if (!(sLt a c || sEq a c)) = true then a else c) = maxS c a := by
  rw [sLe_dec]
  rcases maxS_cases c a with ⟨h, e⟩ | ⟨h, e⟩
  · rw [e]
    have : ¬ sle a c := fun k => k h
    simp [this]
  · rw [e]; simp [h]
theorem high_eq (b c : ByteArray) : (if ((!sEq b (ByteArray.mk #[])) && (sLt b c)) = true then b else c) = if (!sEq b (ByteArray.mk #[])) = true then minS c b else c := by
  by_cases hb : (!sEq b (ByteArray.mk #[])) = true
  · simp only [hb, Bool.true_and, if_true]
    rcases minS_cases c b with ⟨h, e⟩ | ⟨h, e⟩
    · rw [e]
      have : sLt b c = false := sLt_false.2 h
      simp [this]
    · rw [e]; simp [sLt_iff.2 h]
  · simp [hb]

theorem rcut_l0 (a b : ByteArray) (l : List Tomb) (h : l.length < 5629499534059) : ∀ s p acc, l = p ++ s → acc.length ≤ p.length → Ev (fun k => r09_Cut.l0 l a b k acc (p.length : Int)) (acc ++ cuts a b (s.filter okT)) := by
  intro s
  induction s with
  | nil =>
    intro p acc hl ha
    subst hl
    refine Ev.succ ?_
    simp only [r09_Cut.l0, lt_end, Bool.false_eq_true, if_false]
    simpa [cuts] using Ev.ret
  | cons x s ih =>
    intro p acc hl ha
    have hm : (p ++ x :: s).length ≤ maxLen := by rw [maxLen_val, ← hl]; omega
    have hp : p.length < 5629499534059 := by rw [hl] at h; simp at h; omega
    refine Ev.succ ?_
    subst hl
    by_cases hv : okT x = true
    · have key : Ev (fun k => if sLt (cutOf a b x).Begin (cutOf a b x).End = true then (push 5629499534059 acc (cutOf a b x)).bind fun l203 => r09_Cut.l0 (p ++ x :: s) a b k l203 ((p ++ [x]).length : Int) else r09_Cut.l0 (p ++ x :: s) a b k acc ((p ++ [x]).length : Int)) (acc ++ cuts a b ((x :: s).filter okT)) := by
        by_cases hx : sLt (cutOf a b x).Begin (cutOf a b x).End = true
        · simp only [hx, if_true, push_ok (xs := acc) (x := cutOf a b x) (Nat.lt_of_le_of_lt ha hp), Option.bind_some]
          exact (ih (p ++ [x]) (acc ++ [cutOf a b x]) (by simp) (by simp; omega)).to (by simp [cuts, hx, hv])
        · simp only [hx, if_false]
          exact (ih (p ++ [x]) acc (by simp) (by simp; omega)).to (by simp [cuts, hx, hv])
      simp only [cutOf, ← low_eq, ← high_eq] at key
      simp only [r09_Cut.l0, lt_at, if_true, Jn, idx_at, Option.bind_some, valid_eq', hv, Bool.not_true, Bool.false_eq_true, if_false, step_at p s x hm]
      by_cases h1 : (!(sLt a x.Begin || sEq a x.Begin)) = true
      · by_cases h2 : ((!sEq b (ByteArray.mk #[])) && (sLt b x.End)) = true
        · simp only [h1, h2, if_true] at key ⊢; exact key
        · simp only [h1, h2, if_true, if_false] at key ⊢; exact key
      · by_cases h2 : ((!sEq b (ByteArray.mk #[])) && (sLt b x.End)) = true
        · simp only [h1, h2, if_true, if_false] at key ⊢; exact key
        · simp only [h1, h2, if_false] at key ⊢; exact key
    · simp only [r09_Cut.l0, lt_at, if_true, Jn, idx_at, Option.bind_some, valid_eq', hv, Bool.not_false, step_at p s x hm]
      exact (ih (p ++ [x]) acc (by simp) (by simp; omega)).to (by simp [hv])
theorem rcut_ev (l : List Tomb) (a b : ByteArray) (h : l.length < 5629499534059) : Ev (fun k => r09_Cut k l a b) (cuts a b (l.filter okT)) := by
  have := rcut_l0 a b l h l [] [] rfl (Nat.le_refl _)
  simpa [r09_Cut] using this

theorem same_l0 (l : List Tomb) (h : l.length < 5629499534059) : ∀ s p, l = p ++ s → Ev (fun k => l09_same.l0 l l k (p.length : Int)) true := by
  intro s
  induction s with
  | nil =>
    intro p hl
    subst hl
    refine Ev.succ ?_
    simp only [l09_same.l0, lt_end, Bool.false_eq_true, if_false]
    exact Ev.ret
  | cons x s ih =>
    intro p hl
    have hm : (p ++ x :: s).length ≤ maxLen := by rw [maxLen_val, ← hl]; omega
    refine Ev.succ ?_
    subst hl
    simp only [l09_same.l0, lt_at, if_true, idx_at, Option.bind_some, eqb_refl, Bool.not_true, Bool.false_eq_true, if_false, step_at p s x hm]
    exact ih (p ++ [x]) (by simp)
theorem same_ev (l : List Tomb) (h : l.length < 5629499534059) : Ev (fun k => l09_same k l l) true := by
  simp only [l09_same, bne_self_eq_false, Bool.false_eq_true, if_false]
  exact same_l0 l h l [] rfl
theorem kept_ev (l : List Tomb) (h : l.length < 5629499534059) : Ev (fun k => l09_kept k l [⟨(ByteArray.mk #[109, 97, 114, 107]), (ByteArray.mk #[110, 97, 114, 107]), 77⟩] l) true := by
  simp only [l09_kept, Jn]
  refine (same_ev l h).bind ?_
  have h1 : w64 ((l.length : Int) + 1) = ((l.length + 1 : Nat) : Int) := w64_succ (by omega)
  have h2 : cut (l ++ [(⟨(ByteArray.mk #[109, 97, 114, 107]), (ByteArray.mk #[110, 97, 114, 107]), 77⟩ : Tomb)]) 0 ((l.length + 1 : Nat) : Int) = some (l ++ [⟨(ByteArray.mk #[109, 97, 114, 107]), (ByteArray.mk #[110, 97, 114, 107]), 77⟩]) := by
    unfold cut
    rw [if_pos ⟨by omega, by omega, by rw [List.length_append, List.length_singleton]; omega⟩, Int.toNat_natCast, List.take_of_length_le (by simp)]
    simp
  simp only [if_true, h1, h2, Option.bind_some, idx_at, eqb_refl]
  exact Ev.ret

theorem cuts_loop (a0 r9 : List Tomb) (h : a0.length < 5629499534059) (h9 : r9.length < 5629499534059) : ∀ (n : Nat) (l : List Tomb) (j : Nat), l.length < 5629499534059 → j + n = l.length →
    Ev (fun k => l09_TombCuts.l0 a0 (a0, [⟨(ByteArray.mk #[109, 97, 114, 107]), (ByteArray.mk #[110, 97, 114, 107]), 77⟩]) r9 r9 k l (j : Int)) true := by
  intro n
  induction n with
  | zero =>
    intro l j hl hj
    refine Ev.succ ?_
    simp only [l09_TombCuts.l0, decF (show l.length ≤ j by omega), Bool.false_eq_true, if_false, Jn, l09_names, Option.bind_some]
    refine (same_ev r9 h9).bind ?_
    simp only [if_true]
    exact (kept_ev a0 h).bind Ev.ret
  | succ n ih =>
    intro l j hl hj
    refine Ev.succ ?_
    have hj2 : j < l.length := by omega
    have hu : upd l (j : Int) (⟨(ByteArray.mk #[109, 97, 114, 107]), (ByteArray.mk #[110, 97, 114, 107]), 77⟩ : Tomb) = some (l.set j ⟨(ByteArray.mk #[109, 97, 114, 107]), (ByteArray.mk #[110, 97, 114, 107]), 77⟩) := by
      unfold upd
      rw [if_pos ⟨by omega, by omega⟩]
      simp
    simp only [l09_TombCuts.l0, decT hj2, if_true, getD_idx hj2, Option.bind_some, hu, w64_succ (show j < 9223372036854775807 by omega)]
    exact ih _ (j + 1) (by simpa using hl) (by simp; omega)

theorem tombCuts_true (a0 : List Tomb) (a1 a2 : ByteArray) (h : a0.length < 5629499534059) : Ev (fun k => l09_TombCuts k a0 a1 a2) true := by
  have hc : (cuts a1 a2 (a0.filter okT)).length < 5629499534059 := Nat.lt_of_le_of_lt (Nat.le_trans (cuts_len _ _ _) (List.length_filter_le _ _)) h
  simp only [l09_TombCuts, lent_eq a0 h, Option.bind_some]
  refine (cut_ev a0 a1 a2 h).bind ((cut_ev a0 a1 a2 h).bind ((rcut_ev a0 a1 a2 h).bind ((same_ev _ hc).bind ?_)))
  simp only [Bool.not_true, Bool.false_eq_true, if_false]
  exact cuts_loop a0 _ h hc _ _ 0 hc (Nat.zero_add _)

/-! ### Covers -/
def cov (key : ByteArray) (n : Int) (x : Tomb) : Bool := okT x && decide (x.Seq ≤ n) && (sLt x.Begin key || sEq x.Begin key) && sLt key x.End
def covers (key : ByteArray) (n : Int) : List Tomb → Int × Bool → Int × Bool
  | [], c => c
  | x :: s, c => covers key n s (if cov key n x = true then (maxI c.1 x.Seq, true) else c)

theorem cover_l0 (key : ByteArray) (n : Int) (l : List Tomb) (h : l.length < 5629499534059) : ∀ s p c, l = p ++ s → Ev (fun k => tomb_Cover.l0 l key n k c.1 c.2 (p.length : Int)) (covers key n s c) := by
  intro s
  induction s with
  | nil =>
    intro p c hl
    subst hl
    refine Ev.succ ?_
    simp only [tomb_Cover.l0, lt_end, Bool.false_eq_true, if_false]
    exact Ev.ret
  | cons x s ih =>
    intro p c hl
    have hm : (p ++ x :: s).length ≤ maxLen := by rw [maxLen_val, ← hl]; omega
    refine Ev.succ ?_
    subst hl
    simp only [tomb_Cover.l0, lt_at, if_true, Jn, idx_at, Option.bind_some, valid_eq, step_at p s x hm]
    by_cases hx : cov key n x = true
    · have hx' := hx
      simp only [cov] at hx'
      simp only [hx', if_true]
      exact (ih (p ++ [x]) (maxI c.1 x.Seq, true) (by simp)).to (by simp [covers, hx])
    · have hx' := hx
      simp only [cov] at hx'
      simp only [hx', if_false]
      exact (ih (p ++ [x]) c (by simp)).to (by simp [covers, hx])
theorem cover_ev (key : ByteArray) (n : Int) (l : List Tomb) (h : l.length < 5629499534059) : Ev (fun k => tomb_Cover k l key n) (covers key n l (0, false)) := by
  have := cover_l0 key n l h l [] (0, false) rfl
  simpa [tomb_Cover] using this

theorem rcover_l0 (key : ByteArray) (n : Int) (l : List Tomb) (h : l.length < 5629499534059) (hs : ∀ x ∈ l, 0 ≤ x.Seq) : ∀ s p c, l = p ++ s → (c.2 = false → c.1 = 0) → Ev (fun k => r09_Cover.l0 l key n k c.1 c.2 (p.length : Int)) (covers key n s c) := by
  intro s
  induction s with
  | nil =>
    intro p c hl hc
    subst hl
    refine Ev.succ ?_
    simp only [r09_Cover.l0, lt_end, Bool.false_eq_true, if_false]
    exact Ev.ret
  | cons x s ih =>
    intro p c hl hc
    have hm : (p ++ x :: s).length ≤ maxLen := by rw [maxLen_val, ← hl]; omega
    have h0 : 0 ≤ x.Seq := hs x (by rw [hl]; simp)
    refine Ev.succ ?_
    subst hl
    have ih1 := ih (p ++ [x]) (maxI c.1 x.Seq, true) (by simp) (by simp)
    have ih2 := ih (p ++ [x]) c (by simp) hc
    simp only [r09_Cover.l0, lt_at, if_true, Jn, idx_at, Option.bind_some, valid_eq', r09_covers, step_at p s x hm]
    have hcov : cov key n x = (okT x && decide (x.Seq ≤ n) && (sLt x.Begin key || sEq x.Begin key) && sLt key x.End) := rfl
    obtain ⟨i, b⟩ := c
    simp only [covers]
    by_cases k1 : okT x = true
    · by_cases k2 : ((sLt x.Begin key || sEq x.Begin key) && sLt key x.End) = true
      · by_cases k3 : x.Seq ≤ n
        · have e : cov key n x = true := by
            rw [hcov, k1]
            simp only [Bool.true_and, decide_eq_true k3]
            exact k2
          simp only [e, if_true, k1, k2, k3, decide_true]
          cases b with
          | false =>
            have : i = 0 := hc rfl
            subst this
            simp only [Bool.not_false, if_true]
            refine ih1.congr fun k => ?_
            have : maxI 0 x.Seq = x.Seq := by unfold maxI; split <;> omega
            rw [this]
          | true =>
            by_cases k4 : i < x.Seq
            · simp only [Bool.not_true, Bool.false_eq_true, if_false, decide_eq_true k4, if_true]
              refine ih1.congr fun k => ?_
              have : maxI i x.Seq = x.Seq := by unfold maxI; split <;> omega
              simp only [this]
            · simp only [Bool.not_true, Bool.false_eq_true, if_false, decide_eq_false k4]
              refine ih1.congr fun k => ?_
              have : maxI i x.Seq = i := by unfold maxI; split <;> omega
              simp only [this]
        · have e : cov key n x = false := by rw [hcov]; simp [k3]
          simp only [e, k1, k2, k3, decide_false, if_true, Bool.false_eq_true, if_false]
          exact ih2
      · have e : cov key n x = false := by
          rw [hcov, Bool.and_assoc]
          simp only [k2]
          simp
        simp only [e, k1, k2, if_true, Bool.false_eq_true, if_false]
        exact ih2
    · have e : cov key n x = false := by rw [hcov]; simp [k1]
      simp only [e, k1, Bool.false_eq_true, if_false]
      exact ih2
theorem rcover_ev (key : ByteArray) (n : Int) (l : List Tomb) (h : l.length < 5629499534059) (hs : ∀ x ∈ l, 0 ≤ x.Seq) : Ev (fun k => r09_Cover k l key n) (covers key n l (0, false)) := by
  have := rcover_l0 key n l h hs l [] (0, false) rfl (fun _ => rfl)
  simpa [r09_Cover] using this

/-! ### Spans -/
def spanOf : List Tomb → ByteArray → ByteArray → ByteArray × ByteArray
  | [], a, b => (a, b)
  | x :: s, a, b => spanOf s (minS a x.Begin) (maxS b x.End)
def span : List Tomb → ByteArray × ByteArray × Bool
  | [] => (ByteArray.mk #[], ByteArray.mk #[], false)
  | x :: s => ((spanOf s x.Begin x.End).1, (spanOf s x.Begin x.End).2, true)

theorem span_l0 (l : List Tomb) (h : l.length < 5629499534059) : ∀ s p a b, l = p ++ s → Ev (fun k => tomb_Span.l0 l k a b true (p.length : Int)) ((spanOf s a b).1, (spanOf s a b).2, true) := by
  intro s
  induction s with
  | nil =>
    intro p a b hl
    subst hl
    refine Ev.succ ?_
    simp only [tomb_Span.l0, lt_end, Bool.false_eq_true, if_false]
    exact Ev.ret
  | cons x s ih =>
    intro p a b hl
    have hm : (p ++ x :: s).length ≤ maxLen := by rw [maxLen_val, ← hl]; omega
    refine Ev.succ ?_
    subst hl
    simp only [tomb_Span.l0, lt_at, if_true, Jn, idx_at, Option.bind_some, step_at p s x hm, Bool.not_true, Bool.false_eq_true, if_false]
    exact ih (p ++ [x]) _ _ (by simp)
theorem minS_self (a : ByteArray) : minS a a = a := by rcases minS_cases a a with ⟨_, e⟩ | ⟨_, e⟩ <;> exact e
theorem maxS_self (a : ByteArray) : maxS a a = a := by rcases maxS_cases a a with ⟨_, e⟩ | ⟨_, e⟩ <;> exact e
theorem span_ev (l : List Tomb) (h : l.length < 5629499534059) : Ev (fun k => tomb_Span k l) (span (l.filter okT)) := by
  simp only [tomb_Span]
  refine (valid_ev l h).bind ?_
  have hf : (l.filter okT).length < 5629499534059 := Nat.lt_of_le_of_lt (List.length_filter_le _ _) h
  generalize l.filter okT = l' at hf
  cases l' with
  | nil =>
    refine Ev.succ ?_
    simp only [tomb_Span.l0, List.length_nil, span]
    exact Ev.ret
  | cons x s =>
    refine Ev.succ ?_
    have e1 := idx_at [] x s
    have e2 := lt_at [] s x
    have e3 := step_at [] s x (by rw [maxLen_val]; simp at hf ⊢; omega)
    simp only [List.length_nil, Int.natCast_zero, List.nil_append, Int.ofNat_zero] at e1 e2 e3
    simp only [tomb_Span.l0, e2, if_true, Jn, e1, Option.bind_some, Bool.not_false, minS_self, maxS_self, e3]
    exact span_l0 (x :: s) hf s [x] _ _ rfl

theorem rspan_l0 (l : List Tomb) (h : l.length < 5629499534059) : ∀ s p a b, l = p ++ s → Ev (fun k => r09_Span.l0 l k a b (p.length : Int)) ((spanOf s a b).1, (spanOf s a b).2, true) := by
  intro s
  induction s with
  | nil =>
    intro p a b hl
    subst hl
    refine Ev.succ ?_
    simp only [r09_Span.l0, lt_end, Bool.false_eq_true, if_false]
    exact Ev.ret
  | cons x s ih =>
    intro p a b hl
    have hm : (p ++ x :: s).length ≤ maxLen := by rw [maxLen_val, ← hl]; omega
    refine Ev.succ ?_
    subst hl
    have ih1 := ih (p ++ [x]) (minS a x.Begin) (maxS b x.End) (by simp)
    simp only [r09_Span.l0, lt_at, if_true, Jn, idx_at, Option.bind_some, step_at p s x hm]
    simp only [spanOf]
    have hb : (if (!(sLt x.End b || sEq x.End b)) = true then x.End else b) = maxS b x.End := low_eq _ _
    have ha : (if sLt x.Begin a = true then x.Begin else a) = minS a x.Begin := by
      rcases minS_cases a x.Begin with ⟨h, e⟩ | ⟨h, e⟩
      · rw [e, if_neg]; rw [sLt_iff]; exact h
      · rw [e, if_pos (sLt_iff.2 h)]
    rw [← ha, ← hb] at ih1 ⊢
    by_cases h1 : sLt x.Begin a = true
    · by_cases h2 : (!(sLt x.End b || sEq x.End b)) = true
      · simp only [h1, h2, if_true] at ih1 ⊢; exact ih1
      · simp only [h1, h2, if_true, if_false] at ih1 ⊢; exact ih1
    · by_cases h2 : (!(sLt x.End b || sEq x.End b)) = true
      · simp only [h1, h2, if_true, if_false] at ih1 ⊢; exact ih1
      · simp only [h1, h2, if_false] at ih1 ⊢; exact ih1
theorem rspan_ev (l : List Tomb) (h : l.length < 5629499534059) : Ev (fun k => r09_Span k l) (span (l.filter okT)) := by
  simp only [r09_Span]
  refine (all_ev l h).bind ?_
  have hf : (l.filter okT).length < 5629499534059 := Nat.lt_of_le_of_lt (List.length_filter_le _ _) h
  generalize l.filter okT = l' at hf
  cases l' with
  | nil => simp [span]; exact Ev.ret
  | cons x s =>
    have e1 := idx_at [] x s
    simp only [List.length_nil, Int.natCast_zero, List.nil_append, Int.ofNat_zero] at e1
    have e0 : (((x :: s).length : Int) == 0) = false := by simp; omega
    simp only [e0, Bool.false_eq_true, if_false, e1, Option.bind_some]
    exact rspan_l0 (x :: s) hf s [x] _ _ rfl

theorem tombCovers_true (a0 : List Tomb) (a1 : ByteArray) (a2 : Int) (h : a0.length < 5629499534059) (hs : ∀ x ∈ a0, 0 ≤ x.Seq) : Ev (fun k => l09_TombCovers k a0 a1 a2) true := by
  simp only [l09_TombCovers, lent_eq a0 h, Option.bind_some]
  refine (cover_ev a1 a2 a0 h).bind ((rcover_ev a1 a2 a0 h hs).bind ?_)
  simp only [bne_self_eq_false, beq_self_eq_true, Bool.not_true, Bool.or_false, Bool.false_eq_true, if_false]
  refine (span_ev a0 h).bind ((rspan_ev a0 h).bind ?_)
  simp only [sEq_refl, beq_self_eq_true, Bool.and_true, Bool.true_and, if_true, Jn, l09_names, Option.bind_some]
  exact (kept_ev a0 h).bind Ev.ret
end Go.Proofs.YtmbhgfigffahbaaDoor.Mo
