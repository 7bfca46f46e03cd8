import Derived.Test.YtfofolmagnaimaaDpTw
import Derived.Test.YtfofolmagnaimaaSyEv
import Derived.Test.YtfofolmagnaimaaSyUq
set_option linter.unusedVariables false
set_option linter.unusedSectionVars false
set_option linter.unusedSimpArgs false
set_option maxRecDepth 100000
namespace Go.Proofs.Ytfofolmagnaimaa.Mo
open Go Go.Proofs.Ytfofolmagnaimaa.Sy
/-- How many of s are below n and not in what was before. -/
def sc (n : Int) : List Int → List Int → Nat
  | _, [] => 0
  | p, x :: s => (if x < n ∧ x ∉ p then 1 else 0) + sc n (p ++ [x]) s
theorem twice_l1 (l : List Int) (i : Nat) (x : Int) (J : Bool → Option Int) (hm : l.length ≤ maxLen) (hi : i < l.length) (hx : l[i]? = some x) : ∀ (m j k : Nat) (b : Bool), j + m = i → m < k →
    r21_Stripe.l1 l (i : Int) J k b (j : Int) = J (b || decide (x ∈ (l.take i).drop j)) := by
  intro m
  induction m with
  | zero =>
    intro j k b hj hk
    obtain ⟨k, rfl⟩ : ∃ q, k = q + 1 := ⟨k - 1, by omega⟩
    obtain rfl : j = i := by omega
    unfold r21_Stripe.l1
    simp
  | succ m ih =>
    intro j k b hj hk
    obtain ⟨k, rfl⟩ : ∃ q, k = q + 1 := ⟨k - 1, by omega⟩
    rw [maxLen_val] at hm
    unfold r21_Stripe.l1
    have hlt : decide ((j : Int) < (i : Int)) = true := by simp; omega
    have hjl : j < l.length := by omega
    have hd : (l.take i).drop j = l[j] :: (l.take i).drop (j + 1) := by
      rw [List.drop_eq_getElem_cons (by simp; omega)]
      simp
    rw [hlt, idx_nat, idx_nat, hx, List.getElem?_eq_getElem hjl, w64_succ (by omega)]
    simp only [if_true, Option.bind_some, Jn]
    rw [ih (j + 1) k true (by omega) (by omega), ih (j + 1) k (l[j] == x) (by omega) (by omega), hd]
    cases b with
    | true => simp
    | false =>
      simp only [Bool.false_eq_true, if_false, Bool.false_or]
      congr 1
      by_cases h : l[j] = x
      · simp [h]
      · have h' : ¬ x = l[j] := fun e => h e.symm
        simp [h, h']
theorem ref_l0 (l : List Int) (n : Int) (hm : l.length ≤ maxLen) : ∀ (s p : List Int) (k c : Nat), l = p ++ s → l.length + s.length < k → c ≤ p.length → r21_Stripe.l0 l n k (c : Int) (p.length : Int) = some ((c + sc n p s : Nat) : Int) := by
  intro s
  induction s with
  | nil =>
    intro p k c hl hk hc
    subst hl
    obtain ⟨k, rfl⟩ : ∃ j, k = j + 1 := ⟨k - 1, by omega⟩
    unfold r21_Stripe.l0
    rw [lt_end]
    simp [sc]
  | cons x s ih =>
    intro p k c hl hk hc
    obtain ⟨k, rfl⟩ : ∃ j, k = j + 1 := ⟨k - 1, by omega⟩
    subst hl
    have hm' := hm
    rw [maxLen_val] at hm'
    simp at hm' hk
    unfold r21_Stripe.l0
    rw [lt_at, step_at p s x hm]
    have e1 := ih (p ++ [x]) k c (by simp) (by simp; omega) (by simp; omega)
    have e2 := ih (p ++ [x]) k (c + 1) (by simp) (by simp; omega) (by simp; omega)
    have hl1 := fun J => twice_l1 (p ++ x :: s) p.length x J hm (by simp) (by simp) p.length 0 k false (by omega) (by omega)
    simp only [Int.natCast_zero] at hl1
    simp only [if_true, Jn]
    rw [hl1]
    simp only [idx_at, Option.bind_some, Bool.false_or, List.take_left', List.drop_zero]
    rw [w64_succ (by omega : c < 9223372036854775807), e1, e2]
    by_cases h1 : x < n <;> by_cases h2 : x ∈ p <;> simp [h1, h2, sc] <;> omega
/-- Does a file bear on a key? -/
def bearsOn (key : ByteArray) (f : File) : Bool := (sLt f.Least key || sEq f.Least key) && sLt key f.Limit
theorem indexf_l0 (l : List File) (q : File → Bool) (hm : l.length ≤ maxLen) : ∀ (s p : List File) (k : Nat), l = p ++ s → s.length < k → ∃ r, slices_IndexFunc_File.l0 l (fun x => some (q x)) k (p.length : Int) = some r ∧ (0 ≤ r ↔ s.any q = true) := by
  intro s
  induction s with
  | nil =>
    intro p k hl hk
    subst hl
    obtain ⟨k, rfl⟩ : ∃ j, k = j + 1 := ⟨k - 1, by simp at hk; omega⟩
    unfold slices_IndexFunc_File.l0
    rw [lt_end]
    exact ⟨-1, by simp, by simp⟩
  | cons x s ih =>
    intro p k hl hk
    obtain ⟨k, rfl⟩ : ∃ j, k = j + 1 := ⟨k - 1, by simp at hk; omega⟩
    subst hl
    unfold slices_IndexFunc_File.l0
    rw [lt_at, idx_at, step_at p s x hm]
    simp only [if_true, Option.bind_some]
    by_cases h : q x = true
    · exact ⟨p.length, by simp [h], by simp [h]⟩
    · obtain ⟨r, h1, h2⟩ := ih (p ++ [x]) k (by simp) (by simp at hk; omega)
      refine ⟨r, ?_, ?_⟩
      · simpa [h] using h1
      · rw [h2]; simp [h]
theorem drop_bears (l : List File) (key : ByteArray) (hm : l.length ≤ maxLen) (k : Nat) (hk : l.length < k) : drop_Bears k l key = some (l.any (bearsOn key)) := by
  obtain ⟨r, h1, h2⟩ := indexf_l0 l (bearsOn key) hm l [] k rfl hk
  unfold drop_Bears slices_ContainsFunc_File slices_IndexFunc_File
  have h1' : slices_IndexFunc_File.l0 l (fun x0 => drop_Bears_1 x0 key) k 0 = some r := h1
  rw [h1']
  simp only [Option.bind_some, Option.some.injEq]
  by_cases h : 0 ≤ r
  · simp [h, h2.1 h]
  · have : l.any (bearsOn key) = false := by
      cases hb : l.any (bearsOn key) with
      | false => rfl
      | true => exact absurd (h2.2 hb) h
    simp [h, this]
theorem ref_bears_l0 (l : List File) (key : ByteArray) (hm : l.length ≤ maxLen) : ∀ (s p : List File) (k : Nat), l = p ++ s → s.length < k → r21_Bears.l0 l key k (p.length : Int) = some (s.any (bearsOn key)) := by
  intro s
  induction s with
  | nil =>
    intro p k hl hk
    subst hl
    obtain ⟨k, rfl⟩ : ∃ j, k = j + 1 := ⟨k - 1, by simp at hk; omega⟩
    unfold r21_Bears.l0
    rw [lt_end]
    simp
  | cons x s ih =>
    intro p k hl hk
    obtain ⟨k, rfl⟩ : ∃ j, k = j + 1 := ⟨k - 1, by simp at hk; omega⟩
    subst hl
    unfold r21_Bears.l0
    rw [lt_at, idx_at, step_at p s x hm, ih (p ++ [x]) k (by simp) (by simp at hk; omega)]
    simp only [if_true, Option.bind_some, Jn, List.any_cons]
    by_cases h1 : (sLt x.Least key || sEq x.Least key) = true <;> by_cases h2 : sLt key x.Limit = true <;> simp [h1, h2, bearsOn]
theorem kept_l1 (a : drop_Rule) (b : R21_Rule) (J : Bool → Option Bool) (hab : a.Below = b.Below) (hm : b.Below.length ≤ maxLen) : ∀ (s p : List File) (k : Nat), b.Below = p ++ s → s.length < k → l21_kept.l1 a b J k true (p.length : Int) = J true := by
  intro s
  induction s with
  | nil =>
    intro p k hl hk
    obtain ⟨k, rfl⟩ : ∃ j, k = j + 1 := ⟨k - 1, by simp at hk; omega⟩
    unfold l21_kept.l1
    rw [hl, lt_end]
    simp
  | cons x s ih =>
    intro p k hl hk
    obtain ⟨k, rfl⟩ : ∃ j, k = j + 1 := ⟨k - 1, by simp at hk; omega⟩
    unfold l21_kept.l1
    have hst := step_at p s x (by rw [← hl]; exact hm)
    have hself : File.eqb x x = true := by simp [File.eqb, sEq_refl]
    rw [hab, hl, lt_at, idx_at]
    simp only [Bool.and_true, if_true, Option.bind_some, hself]
    rw [hst]
    exact ih (p ++ [x]) k (by rw [hl]; simp) (by simp at hk; omega)
theorem kept_l0 (a : drop_Rule) (b : R21_Rule) (hs : a.Snaps = b.Snaps) (hab : a.Below = b.Below) (hm : b.Below.length ≤ maxLen) (hm' : b.Snaps.length ≤ maxLen) : ∀ (s p : List Int) (k : Nat), b.Snaps = p ++ s → s.length + b.Below.length + 1 < k → l21_kept.l0 a b k true (p.length : Int) = some true := by
  intro s
  induction s with
  | nil =>
    intro p k hl hk
    obtain ⟨k, rfl⟩ : ∃ j, k = j + 1 := ⟨k - 1, by omega⟩
    unfold l21_kept.l0
    rw [hl, lt_end]
    simp only [Bool.and_false, Bool.false_eq_true, if_false, Jn]
    exact kept_l1 a b _ hab hm b.Below [] k rfl (by simp at hk; omega)
  | cons x s ih =>
    intro p k hl hk
    obtain ⟨k, rfl⟩ : ∃ j, k = j + 1 := ⟨k - 1, by omega⟩
    unfold l21_kept.l0
    have hst := step_at p s x (by rw [← hl]; exact hm')
    rw [hs, hl, lt_at, idx_at]
    simp only [Bool.and_true, if_true, Option.bind_some, beq_self_eq_true]
    rw [hst]
    exact ih (p ++ [x]) k (by rw [hl]; simp) (by simp at hk; omega)
end Go.Proofs.Ytfofolmagnaimaa.Mo
