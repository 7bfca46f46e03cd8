/- With enough fuel: what a twin answers. -/
import Derived.Test.YtbbepmmelpabbaaSyPlain
import Derived.Test.YtbbepmmelpabbaaSyMap
set_option linter.unusedVariables false
set_option linter.unusedSectionVars false
set_option linter.unusedSimpArgs false
namespace Go.Proofs.Ytbbepmmelpabbaa.Sy
open Go

def Ev {α : Type} (f : Nat → Option α) (a : α) : Prop := ∃ n, ∀ k, n ≤ k → f k = some a

section
variable {α β : Type} {f : Nat → Option α} {a : α} {b : β}
theorem Ev.ret : Ev (fun _ => some a) a := ⟨0, fun _ _ => rfl⟩
theorem Ev.of (h : ∀ k, f k = some a) : Ev f a := ⟨0, fun k _ => h k⟩
theorem Ev.succ (h : Ev (fun k => f (k + 1)) a) : Ev f a := by
  obtain ⟨n, h⟩ := h
  refine ⟨n + 1, fun k hk => ?_⟩
  obtain ⟨j, rfl⟩ : ∃ j, k = j + 1 := ⟨k - 1, by omega⟩
  exact h j (by omega)
theorem Ev.shift (h : Ev f a) : Ev (fun k => f (k + 1)) a := by
  obtain ⟨n, h⟩ := h
  exact ⟨n, fun k hk => h (k + 1) (by omega)⟩
theorem Ev.bind {g : Nat → α → Option β} (hf : Ev f a) (hg : Ev (fun k => g k a) b) : Ev (fun k => (f k).bind (g k)) b := by
  obtain ⟨n, hn⟩ := hf
  obtain ⟨m, hm⟩ := hg
  exact ⟨max n m, fun k hk => by show (f k).bind (g k) = some b; rw [hn k (by omega)]; exact hm k (by omega)⟩
theorem Ev.bind0 {o : Option α} {g : Nat → α → Option β} (ho : o = some a) (hg : Ev (fun k => g k a) b) : Ev (fun k => o.bind (g k)) b := by
  subst ho; exact hg
theorem Ev.pos {c : Prop} [Decidable c] {f g : Nat → Option α} (h : c) (hf : Ev f a) : Ev (fun k => if c then f k else g k) a := by
  simp only [if_pos h]; exact hf
theorem Ev.neg {c : Prop} [Decidable c] {f g : Nat → Option α} (h : ¬ c) (hf : Ev g a) : Ev (fun k => if c then f k else g k) a := by
  simp only [if_neg h]; exact hf
theorem Ev.ite {c : Prop} [Decidable c] {f g : Nat → Option α} {a b : α} (hf : c → Ev f a) (hg : ¬ c → Ev g b) : Ev (fun k => if c then f k else g k) (if c then a else b) := by
  by_cases h : c
  · simp only [if_pos h]; exact hf h
  · simp only [if_neg h]; exact hg h
theorem Ev.uniq {a' : α} (h : Ev f a) (k : Ev f a') : a = a' := by
  obtain ⟨n, hn⟩ := h
  obtain ⟨m, hm⟩ := k
  have := (hn (max n m) (by omega)).symm.trans (hm (max n m) (by omega))
  exact Option.some.inj this
theorem Ev.congr {g : Nat → Option α} (h : ∀ k, f k = g k) (hg : Ev g a) : Ev f a := by
  obtain ⟨n, hn⟩ := hg
  exact ⟨n, fun k hk => (h k).trans (hn k hk)⟩
theorem Ev.to {a' : α} (h : Ev f a) (e : a = a') : Ev f a' := e ▸ h
theorem Ev.ex (h : Ev f a) : ∃ k, f k = some a := by
  obtain ⟨n, hn⟩ := h
  exact ⟨n, hn n (Nat.le_refl _)⟩
theorem Ev.jn {γ : Type} {J : Nat → γ} {X : Nat → γ → Option α} (h : Ev (fun k => X k (J k)) a) : Ev (fun k => Jn (J k) (X k)) a := h
end

/-! ### Going over a list -/
theorem lt_at {α : Type} (p s : List α) (x : α) : decide ((p.length : Int) < ((p ++ x :: s).length : Int)) = true := by simp; omega
theorem lt_end {α : Type} (p : List α) : decide ((p.length : Int) < ((p ++ []).length : Int)) = false := by simp
theorem lt_end' {α : Type} (p : List α) : decide ((p.length : Int) < (p.length : Int)) = false := by simp
theorem step_at {α : Type} (p s : List α) (x : α) (h : (p ++ x :: s).length ≤ maxLen) : w64 ((p.length : Int) + 1) = ((p ++ [x]).length : Int) := by
  rw [maxLen_val] at h
  simp at h
  rw [w64_succ (by omega)]
  simp
theorem back_at {α : Type} (p s : List α) (x y : α) (h : (p ++ [x] ++ y :: s).length ≤ maxLen) : w64 (((p ++ [x]).length : Int) - 1) = (p.length : Int) := by
  rw [maxLen_val] at h
  simp at h
  rw [w64_of (by rw [List.length_append]; simp only [List.length_singleton]; omega) (by rw [List.length_append]; simp only [List.length_singleton]; omega), List.length_append]
  simp only [List.length_singleton]
  omega
theorem push_ok {α : Type} {N : Nat} {xs : List α} {x : α} (h : xs.length < N) : push N xs x = some (xs ++ [x]) := by simp [push, h]
theorem pushN_ok {α : Type} {N : Nat} {xs zs : List α} (h : xs.length + zs.length ≤ N) : pushN N xs zs = some (xs ++ zs) := by simp [pushN, h]
theorem w64_len {n : Nat} (h : n ≤ 9223372036854775807) : w64 (n : Int) = n := w64_of (by omega) (by omega)
theorem getD_idx {α : Type} {l : List α} {i : Nat} (h : i < l.length) : idx l (i : Int) = some l[i] := by rw [idx_nat, List.getElem?_eq_getElem h]

theorem getD_idx2 {α : Type} {l : List α} {i : Nat} (d : α) (h : i < l.length) : idx l (i : Int) = some (l.getD i d) := by
  rw [getD_idx h, List.getD_eq_getElem?_getD, List.getElem?_eq_getElem h]; rfl
theorem decT {j n : Nat} (h : j < n) : decide ((j : Int) < (n : Int)) = true := decide_eq_true (by omega)
theorem decF {j n : Nat} (h : n ≤ j) : decide ((j : Int) < (n : Int)) = false := decide_eq_false (by omega)
theorem pos_snoc {α : Type} (p : List α) (x : α) : decide ((0 : Int) < ((p ++ [x]).length : Int)) = true := decide_eq_true (by rw [List.length_append, List.length_singleton]; omega)
theorem nil_or_snoc {α : Type} (l : List α) : l = [] ∨ ∃ p x, l = p ++ [x] := by
  rcases List.eq_nil_or_concat l with h | ⟨p, x, h⟩
  · exact .inl h
  · exact .inr ⟨p, x, by simpa using h⟩

/-- A loop over a list's elements from its first, with early ends. -/
theorem ev_each {α σ R : Type} (l : List α) (F : Nat → σ → Int → Option R) (I : List α → σ → Prop) (G : List α → List α → σ → R)
    (hnil : ∀ st, I l st → Ev (fun k => F (k + 1) st l.length) (G l [] st))
    (hcons : ∀ p x s st, l = p ++ x :: s → I p st → (∀ st', I (p ++ [x]) st' → Ev (fun k => F k st' ((p ++ [x]).length : Int)) (G (p ++ [x]) s st')) → Ev (fun k => F (k + 1) st (p.length : Int)) (G p (x :: s) st)) :
    ∀ s p st, l = p ++ s → I p st → Ev (fun k => F k st (p.length : Int)) (G p s st) := by
  intro s
  induction s with
  | nil =>
    intro p st hl hI
    simp at hl
    subst hl
    exact Ev.succ (hnil st hI)
  | cons x s ih =>
    intro p st hl hI
    exact Ev.succ (hcons p x s st hl hI fun st' h' => ih (p ++ [x]) st' (by simp [hl]) h')
end Go.Proofs.Ytbbepmmelpabbaa.Sy
