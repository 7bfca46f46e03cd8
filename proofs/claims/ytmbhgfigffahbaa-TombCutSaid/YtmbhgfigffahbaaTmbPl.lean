/- Tombs: what the twins tell, in plain words. -/
import Derived.Test.YtmbhgfigffahbaaTmbTw
import Derived.Test.YtmbhgfigffahbaaSyPlain
set_option linter.unusedVariables false
namespace Go.Proofs.Ytmbhgfigffahbaa.Mo
open Go Go.Proofs.Ytmbhgfigffahbaa.Sy

/-- A valid tomb. -/
def Tomb.ok (x : Tomb) : Prop := x.Begin ≠ ByteArray.mk #[] ∧ (x.Begin.size : Int) ≤ 1024 ∧ (x.End.size : Int) ≤ 1025 ∧ slt x.Begin x.End ∧ x.Seq ≤ 72057594037927935
instance (x : Tomb) : Decidable x.ok := by unfold Tomb.ok; infer_instance

theorem tomb_Valid_eq (x : Tomb) : tomb_Valid x = some (decide x.ok) := by
  unfold tomb_Valid Tomb.ok
  simp only [sEq_dec, sLt_dec, Option.some.injEq]
  by_cases h1 : x.Begin = ByteArray.mk #[] <;> by_cases h2 : (x.Begin.size : Int) ≤ 1024 <;> by_cases h3 : (x.End.size : Int) ≤ 1025 <;> by_cases h4 : slt x.Begin x.End <;> by_cases h5 : x.Seq ≤ 72057594037927935 <;> simp [h1, h2, h3, h4, h5]

theorem idx_lt {α : Type} (p s : List α) (x : α) : decide ((p.length : Int) < ((p ++ x :: s).length : Int)) = true := by simp; omega
theorem idx_end {α : Type} (p : List α) : decide ((p.length : Int) < ((p ++ []).length : Int)) = false := by simp
theorem idx_step {α : Type} (p s : List α) (x : α) (h : (p ++ x :: s).length ≤ maxLen) : w64 ((p.length : Int) + 1) = ((p ++ [x]).length : Int) := by
  rw [maxLen_val] at h
  simp at h
  rw [w64_succ (by omega)]
  simp

theorem push_ok {α : Type} {N : Nat} {xs : List α} (x : α) (h : xs.length < N) : push N xs x = some (xs ++ [x]) := by unfold push; rw [if_pos h]

theorem tomb_valid_l0 (l : List Tomb) (hm : l.length ≤ maxLen) (hz : l.length * 40 ≤ 140737488351232) : ∀ (s p : List Tomb) (k : Nat) (acc : List Tomb), l = p ++ s → s.length < k → acc.length ≤ p.length →
    tomb_valid.l0 l k acc (p.length : Int) = some (acc ++ s.filter (fun x => decide x.ok)) := by
  intro s
  induction s with
  | nil =>
    intro p k acc hl hk ha
    subst hl
    obtain ⟨k, rfl⟩ : ∃ j, k = j + 1 := ⟨k - 1, by simp at hk; omega⟩
    unfold tomb_valid.l0
    rw [idx_end]
    simp
  | cons x s ih =>
    intro p k acc hl hk ha
    obtain ⟨k, rfl⟩ : ∃ j, k = j + 1 := ⟨k - 1, by simp at hk; omega⟩
    subst hl
    have hz' := hz
    simp at hz'
    unfold tomb_valid.l0
    rw [idx_lt, idx_at, idx_step p s x hm]
    simp only [if_true, Jn, Option.bind_some, tomb_Valid_eq]
    by_cases hx : x.ok
    · simp only [hx, decide_true, if_true]
      rw [push_ok x (by omega)]
      simp only [Option.bind_some]
      rw [ih (p ++ [x]) k (acc ++ [x]) (by simp) (by simp at hk; omega) (by simp; omega)]
      simp [hx]
    · simp only [hx, decide_false, Bool.false_eq_true, if_false]
      rw [ih (p ++ [x]) k acc (by simp) (by simp at hk; omega) (by simp; omega)]
      simp [hx]

theorem tomb_valid_eq (l : List Tomb) (hm : l.length ≤ maxLen) (hz : l.length * 40 ≤ 140737488351232) (k : Nat) (hk : l.length < k) : tomb_valid k l = some (l.filter (fun x => decide x.ok)) := by
  unfold tomb_valid
  have := tomb_valid_l0 l hm hz l [] k [] rfl hk (Nat.le_refl _)
  simpa using this

/-- One tomb cut. -/
def cutOf (a b : ByteArray) (x : Tomb) : Tomb := ⟨maxS x.Begin a, if b = ByteArray.mk #[] then x.End else minS x.End b, x.Seq⟩
def cuts (a b : ByteArray) (l : List Tomb) : List Tomb := (l.map (cutOf a b)).filter (fun x => decide (slt x.Begin x.End))

theorem tomb_Cut_l0 (a b : ByteArray) (l : List Tomb) (hm : l.length ≤ maxLen) (hz : l.length * 40 ≤ 140737488351232) : ∀ (s p : List Tomb) (k : Nat) (acc : List Tomb), l = p ++ s → s.length < k → acc.length ≤ p.length →
    tomb_Cut.l0 a b l k acc (p.length : Int) = some (acc ++ cuts a b s) := by
  intro s
  induction s with
  | nil =>
    intro p k acc hl hk ha
    subst hl
    obtain ⟨k, rfl⟩ : ∃ j, k = j + 1 := ⟨k - 1, by simp at hk; omega⟩
    unfold tomb_Cut.l0
    rw [idx_end]
    simp [cuts]
  | cons x s ih =>
    intro p k acc hl hk ha
    obtain ⟨k, rfl⟩ : ∃ j, k = j + 1 := ⟨k - 1, by simp at hk; omega⟩
    subst hl
    have hz' := hz
    simp at hz'
    unfold tomb_Cut.l0
    rw [idx_lt, idx_at, idx_step p s x hm]
    simp only [if_true, Jn, Option.bind_some]
    have fin : ∀ e : ByteArray, cutOf a b x = ⟨maxS x.Begin a, e, x.Seq⟩ →
        (if sLt (maxS x.Begin a) e = true then (push 3518437208883 acc (⟨maxS x.Begin a, e, x.Seq⟩ : Tomb)).bind fun l203 => tomb_Cut.l0 a b (p ++ x :: s) k l203 ((p ++ [x]).length : Int) else tomb_Cut.l0 a b (p ++ x :: s) k acc ((p ++ [x]).length : Int)) =
          some (acc ++ cuts a b (x :: s)) := by
      intro e he
      have hc : cuts a b (x :: s) = if slt (maxS x.Begin a) e then (⟨maxS x.Begin a, e, x.Seq⟩ : Tomb) :: cuts a b s else cuts a b s := by
        unfold cuts
        rw [List.map_cons, he, List.filter_cons]
        by_cases h : slt (maxS x.Begin a) e <;> simp [h]
      rw [sLt_dec, hc]
      by_cases h : slt (maxS x.Begin a) e
      · simp only [h, decide_true, if_true]
        rw [push_ok _ (by omega)]
        simp only [Option.bind_some]
        rw [ih (p ++ [x]) k _ (by simp) (by simp at hk; omega) (by simp; omega)]
        simp
      · simp only [h, decide_false, Bool.false_eq_true, if_false]
        rw [ih (p ++ [x]) k acc (by simp) (by simp at hk; omega) (by simp; omega)]
    rw [sEq_dec]
    by_cases hb : b = ByteArray.mk #[]
    · simp only [hb, decide_true, Bool.not_true, Bool.false_eq_true, if_false]
      rw [hb] at fin
      exact fin _ (by simp [cutOf])
    · simp only [hb, decide_false, Bool.not_false, if_true]
      exact fin _ (by simp [cutOf, hb])

theorem tomb_Cut_eq (l : List Tomb) (a b : ByteArray) (hm : l.length ≤ maxLen) (hz : l.length * 40 ≤ 140737488351232) (k : Nat) (hk : l.length < k) :
    tomb_Cut k l a b = some (cuts a b (l.filter (fun x => decide x.ok))) := by
  unfold tomb_Cut
  rw [tomb_valid_eq l hm hz k hk]
  have hle : (l.filter (fun x => decide x.ok)).length ≤ l.length := List.length_filter_le _ _
  have := tomb_Cut_l0 a b (l.filter (fun x => decide x.ok)) (by omega) (by omega) (l.filter (fun x => decide x.ok)) [] k [] rfl (by omega) (Nat.le_refl _)
  simpa using this

/-- Does a tomb cover a key at a number? -/
def Tomb.cov (key : ByteArray) (n : Int) (x : Tomb) : Prop := x.ok ∧ x.Seq ≤ n ∧ sle x.Begin key ∧ slt key x.End
instance (key : ByteArray) (n : Int) (x : Tomb) : Decidable (x.cov key n) := by unfold Tomb.cov; infer_instance

def covers (key : ByteArray) (n : Int) (l : List Tomb) (c : Int × Bool) : Int × Bool := l.foldl (fun c x => if x.cov key n then (maxI c.1 x.Seq, true) else c) c

theorem tomb_Cover_l0 (key : ByteArray) (n : Int) (l : List Tomb) (hm : l.length ≤ maxLen) : ∀ (s p : List Tomb) (k : Nat) (c : Int) (b : Bool), l = p ++ s → s.length < k →
    tomb_Cover.l0 l key n k c b (p.length : Int) = some (covers key n s (c, b)) := by
  intro s
  induction s with
  | nil =>
    intro p k c b hl hk
    subst hl
    obtain ⟨k, rfl⟩ : ∃ j, k = j + 1 := ⟨k - 1, by simp at hk; omega⟩
    unfold tomb_Cover.l0
    rw [idx_end]
    simp [covers]
  | cons x s ih =>
    intro p k c b hl hk
    obtain ⟨k, rfl⟩ : ∃ j, k = j + 1 := ⟨k - 1, by simp at hk; omega⟩
    subst hl
    unfold tomb_Cover.l0
    rw [idx_lt, idx_at, idx_step p s x hm]
    simp only [if_true, Jn, Option.bind_some, tomb_Valid_eq]
    have hc : ((((decide x.ok) && (decide (x.Seq ≤ n))) && (sLt x.Begin key || sEq x.Begin key)) && (sLt key x.End)) = decide (x.cov key n) := by
      rw [sLe_dec, sLt_dec]
      unfold Tomb.cov
      by_cases h1 : x.ok <;> by_cases h2 : x.Seq ≤ n <;> by_cases h3 : sle x.Begin key <;> by_cases h4 : slt key x.End <;> simp [h1, h2, h3, h4]
    rw [hc]
    by_cases h : x.cov key n
    · simp only [h, decide_true, if_true]
      rw [ih (p ++ [x]) k _ _ (by simp) (by simp at hk; omega)]
      simp [covers, h]
    · simp only [h, decide_false, Bool.false_eq_true, if_false]
      rw [ih (p ++ [x]) k _ _ (by simp) (by simp at hk; omega)]
      simp [covers, h]

theorem tomb_Cover_eq (l : List Tomb) (key : ByteArray) (n : Int) (hm : l.length ≤ maxLen) (k : Nat) (hk : l.length < k) : tomb_Cover k l key n = some (covers key n l (0, false)) := by
  unfold tomb_Cover
  exact tomb_Cover_l0 key n l hm l [] k 0 false rfl hk
end Go.Proofs.Ytmbhgfigffahbaa.Mo
