import Derived.Test.YtmbhgfigffahbaaDoorTdTw
import Derived.Test.YtmbhgfigffahbaaDoorSyEv
set_option linter.unusedVariables false
set_option linter.unusedSimpArgs false
set_option maxRecDepth 100000
namespace Go.Proofs.YtmbhgfigffahbaaDoor.Mo
open Go Go.Proofs.YtmbhgfigffahbaaDoor.Sy
theorem eqb_iff {x y : Tomb} : Tomb.eqb x y = true ↔ x = y := by
  cases x; cases y
  simp [Tomb.eqb, sEq_iff]
theorem eqb_refl (x : Tomb) : Tomb.eqb x x = true := eqb_iff.2 rfl
theorem empty_iff {b : ByteArray} : b = ByteArray.mk #[] ↔ b.size = 0 := by
  obtain ⟨d⟩ := b
  simp [ByteArray.size]
/-- A valid tomb. -/
def okT (x : Tomb) : Bool := (tomb_Valid x).getD false
theorem valid_eq (x : Tomb) : tomb_Valid x = some (okT x) := rfl
theorem valid_eq' (x : Tomb) : r09_Valid x = some (okT x) := by
  simp only [r09_Valid, okT, tomb_Valid, Option.getD_some, sEq_dec]
  congr 5
  by_cases h : x.Begin.size = 0
  · simp [h, empty_iff.2 h, show (ByteArray.mk #[]).size = 0 from rfl]
  · have h2 : x.Begin ≠ ByteArray.mk #[] := fun e => h (empty_iff.1 e)
    simp [h2]; omega
theorem lent_eq (l : List Tomb) (h : l.length < 5629499534059) : l09_lent l = some (l, [⟨(ByteArray.mk #[109, 97, 114, 107]), (ByteArray.mk #[110, 97, 114, 107]), 77⟩]) := by
  simp only [l09_lent, Jn, pushN_ok (xs := []) (zs := l) (show ([] : List Tomb).length + l.length ≤ 5629499534059 by simp; omega), Option.bind_some, List.nil_append, push_ok (xs := l) h]
  have h2 : cut (l ++ [(⟨(ByteArray.mk #[109, 97, 114, 107]), (ByteArray.mk #[110, 97, 114, 107]), 77⟩ : Tomb)]) 0 (l.length : Int) = some l := by
    unfold cut
    rw [if_pos ⟨by omega, by omega, by rw [List.length_append]; omega⟩]
    simp
  rw [h2]
  simp
theorem valid_l0 (l : List Tomb) (h : l.length < 5629499534059) : ∀ s p acc, l = p ++ s → acc.length ≤ p.length → Ev (fun k => tomb_valid.l0 l k acc (p.length : Int)) (acc ++ s.filter okT) := by
  intro s
  induction s with
  | nil =>
    intro p acc hl ha
    subst hl
    refine Ev.succ ?_
    simp only [tomb_valid.l0, lt_end, Bool.false_eq_true, if_false]
    simpa using Ev.ret
  | cons x s ih =>
    intro p acc hl ha
    have hm : (p ++ x :: s).length ≤ maxLen := by rw [maxLen_val, ← hl]; omega
    have hp : p.length < 5629499534059 := by rw [hl] at h; simp at h; omega
    refine Ev.succ ?_
    subst hl
    simp only [tomb_valid.l0, lt_at, if_true, Jn, idx_at, Option.bind_some, valid_eq, step_at p s x hm]
    by_cases hx : okT x = true
    · simp only [hx, if_true, push_ok (xs := acc) (x := x) (Nat.lt_of_le_of_lt ha hp), Option.bind_some]
      exact (ih (p ++ [x]) (acc ++ [x]) (by simp) (by simp; omega)).to (by simp [hx])
    · simp only [hx, if_false]
      exact (ih (p ++ [x]) acc (by simp) (by simp; omega)).to (by simp [hx])
theorem valid_ev (l : List Tomb) (h : l.length < 5629499534059) : Ev (fun k => tomb_valid k l) (l.filter okT) := by
  have := valid_l0 l h l [] [] rfl (Nat.le_refl _)
  simpa [tomb_valid] using this
theorem all_l0 (l : List Tomb) (h : l.length < 5629499534059) : ∀ s p acc, l = p ++ s → acc.length ≤ p.length → Ev (fun k => r09_All.l0 l k acc (p.length : Int)) (acc ++ s.filter okT) := by
  intro s
  induction s with
  | nil =>
    intro p acc hl ha
    subst hl
    refine Ev.succ ?_
    simp only [r09_All.l0, lt_end, Bool.false_eq_true, if_false]
    simpa using Ev.ret
  | cons x s ih =>
    intro p acc hl ha
    have hm : (p ++ x :: s).length ≤ maxLen := by rw [maxLen_val, ← hl]; omega
    have hp : p.length < 5629499534059 := by rw [hl] at h; simp at h; omega
    refine Ev.succ ?_
    subst hl
    simp only [r09_All.l0, lt_at, if_true, Jn, idx_at, Option.bind_some, valid_eq', step_at p s x hm]
    by_cases hx : okT x = true
    · simp only [hx, if_true, push_ok (xs := acc) (x := x) (Nat.lt_of_le_of_lt ha hp), Option.bind_some]
      exact (ih (p ++ [x]) (acc ++ [x]) (by simp) (by simp; omega)).to (by simp [hx])
    · simp only [hx, if_false]
      exact (ih (p ++ [x]) acc (by simp) (by simp; omega)).to (by simp [hx])
theorem all_ev (l : List Tomb) (h : l.length < 5629499534059) : Ev (fun k => r09_All k l) (l.filter okT) := by
  have := all_l0 l h l [] [] rfl (Nat.le_refl _)
  simpa [r09_All] using this
theorem same_l0 (l : List Tomb) (h : l.length < 5629499534059) : ∀ s p, l = p ++ s → Ev (fun k => l09_same.l0 l l k (p.length : Int)) true := by
  intro s
  induction s with
  | nil =>
    intro p hl
    subst hl
    refine Ev.succ ?_
    simp only [l09_same.l0, lt_end, Bool.false_eq_true, if_false]
    exact Ev.ret
  | cons x s ih =>
    intro p hl
    have hm : (p ++ x :: s).length ≤ maxLen := by rw [maxLen_val, ← hl]; omega
    refine Ev.succ ?_
    subst hl
    simp only [l09_same.l0, lt_at, if_true, idx_at, Option.bind_some, eqb_refl, Bool.not_true, Bool.false_eq_true, if_false, step_at p s x hm]
    exact ih (p ++ [x]) (by simp)
theorem same_ev (l : List Tomb) (h : l.length < 5629499534059) : Ev (fun k => l09_same k l l) true := by
  simp only [l09_same, bne_self_eq_false, Bool.false_eq_true, if_false]
  exact same_l0 l h l [] rfl
theorem kept_ev (l : List Tomb) (h : l.length < 5629499534059) : Ev (fun k => l09_kept k l [⟨(ByteArray.mk #[109, 97, 114, 107]), (ByteArray.mk #[110, 97, 114, 107]), 77⟩] l) true := by
  simp only [l09_kept, Jn]
  refine (same_ev l h).bind ?_
  have h1 : w64 ((l.length : Int) + 1) = ((l.length + 1 : Nat) : Int) := w64_succ (by omega)
  have h2 : cut (l ++ [(⟨(ByteArray.mk #[109, 97, 114, 107]), (ByteArray.mk #[110, 97, 114, 107]), 77⟩ : Tomb)]) 0 ((l.length + 1 : Nat) : Int) = some (l ++ [⟨(ByteArray.mk #[109, 97, 114, 107]), (ByteArray.mk #[110, 97, 114, 107]), 77⟩]) := by
    unfold cut
    rw [if_pos ⟨by omega, by omega, by rw [List.length_append, List.length_singleton]; omega⟩, Int.toNat_natCast, List.take_of_length_le (by simp)]
    simp
  simp only [if_true, h1, h2, Option.bind_some, idx_at, eqb_refl]
  exact Ev.ret
def cov (key : ByteArray) (n : Int) (x : Tomb) : Bool := okT x && decide (x.Seq ≤ n) && (sLt x.Begin key || sEq x.Begin key) && sLt key x.End
def covers (key : ByteArray) (n : Int) : List Tomb → Int × Bool → Int × Bool
  | [], c => c
  | x :: s, c => covers key n s (if cov key n x = true then (maxI c.1 x.Seq, true) else c)
theorem rcover_l0 (key : ByteArray) (n : Int) (l : List Tomb) (h : l.length < 5629499534059) (hs : ∀ x ∈ l, 0 ≤ x.Seq) : ∀ s p c, l = p ++ s → (c.2 = false → c.1 = 0) → Ev (fun k => r09_Cover.l0 l key n k c.1 c.2 (p.length : Int)) (covers key n s c) := by
  intro s
  induction s with
  | nil =>
    intro p c hl hc
    subst hl
    refine Ev.succ ?_
    simp only [r09_Cover.l0, lt_end, Bool.false_eq_true, if_false]
    exact Ev.ret
  | cons x s ih =>
    intro p c hl hc
    have hm : (p ++ x :: s).length ≤ maxLen := by rw [maxLen_val, ← hl]; omega
    have h0 : 0 ≤ x.Seq := hs x (by rw [hl]; simp)
    refine Ev.succ ?_
    subst hl
    have ih1 := ih (p ++ [x]) (maxI c.1 x.Seq, true) (by simp) (by simp)
    have ih2 := ih (p ++ [x]) c (by simp) hc
    simp only [r09_Cover.l0, lt_at, if_true, Jn, idx_at, Option.bind_some, valid_eq', r09_covers, step_at p s x hm]
    have hcov : cov key n x = (okT x && decide (x.Seq ≤ n) && (sLt x.Begin key || sEq x.Begin key) && sLt key x.End) := rfl
    obtain ⟨i, b⟩ := c
    simp only [covers]
    by_cases k1 : okT x = true
    · by_cases k2 : ((sLt x.Begin key || sEq x.Begin key) && sLt key x.End) = true
      · by_cases k3 : x.Seq ≤ n
        · have e : cov key n x = true := by
            rw [hcov, k1]
            simp only [Bool.true_and, decide_eq_true k3]
            exact k2
          simp only [e, if_true, k1, k2, k3, decide_true]
          cases b with
          | false =>
            have : i = 0 := hc rfl
            subst this
            simp only [Bool.not_false, if_true]
            refine ih1.congr fun k => ?_
            have : maxI 0 x.Seq = x.Seq := by unfold maxI; split <;> omega
            rw [this]
          | true =>
            by_cases k4 : i < x.Seq
            · simp only [Bool.not_true, Bool.false_eq_true, if_false, decide_eq_true k4, if_true]
              refine ih1.congr fun k => ?_
              have : maxI i x.Seq = x.Seq := by unfold maxI; split <;> omega
              simp only [this]
            · simp only [Bool.not_true, Bool.false_eq_true, if_false, decide_eq_false k4]
              refine ih1.congr fun k => ?_
              have : maxI i x.Seq = i := by unfold maxI; split <;> omega
              simp only [this]
        · have e : cov key n x = false := by rw [hcov]; simp [k3]
          simp only [e, k1, k2, k3, decide_false, if_true, Bool.false_eq_true, if_false]
          exact ih2
      · have e : cov key n x = false := by
          rw [hcov, Bool.and_assoc]
          simp only [k2]
          simp
        simp only [e, k1, k2, if_true, Bool.false_eq_true, if_false]
        exact ih2
    · have e : cov key n x = false := by rw [hcov]; simp [k1]
      simp only [e, k1, Bool.false_eq_true, if_false]
      exact ih2
theorem rcover_ev (key : ByteArray) (n : Int) (l : List Tomb) (h : l.length < 5629499534059) (hs : ∀ x ∈ l, 0 ≤ x.Seq) : Ev (fun k => r09_Cover k l key n) (covers key n l (0, false)) := by
  have := rcover_l0 key n l h hs l [] (0, false) rfl (fun _ => rfl)
  simpa [r09_Cover] using this
end Go.Proofs.YtmbhgfigffahbaaDoor.Mo
