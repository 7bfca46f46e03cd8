import Derived.Test.YtbaemhkfmddakaaGreatSyPlain
import Derived.Test.YtbaemhkfmddakaaGreatSyMap
set_option linter.unusedVariables false
set_option linter.unusedSectionVars false
set_option linter.unusedSimpArgs false
namespace Go.Proofs.YtbaemhkfmddakaaGreat.Sy
open Go
def Ev {α : Type} (f : Nat → Option α) (a : α) : Prop := ∃ n, ∀ k, n ≤ k → f k = some a
section
variable {α β : Type} {f : Nat → Option α} {a : α} {b : β}
theorem Ev.ret : Ev (fun _ => some a) a := ⟨0, fun _ _ => rfl⟩
theorem Ev.of (h : ∀ k, f k = some a) : Ev f a := ⟨0, fun k _ => h k⟩
theorem Ev.succ (h : Ev (fun k => f (k + 1)) a) : Ev f a := by
  obtain ⟨n, h⟩ := h
  refine ⟨n + 1, fun k hk => ?_⟩
  obtain ⟨j, rfl⟩ : ∃ j, k = j + 1 := ⟨k - 1, by omega⟩
  exact h j (by omega)
theorem Ev.shift (h : Ev f a) : Ev (fun k => f (k + 1)) a := by
  obtain ⟨n, h⟩ := h
  exact ⟨n, fun k hk => h (k + 1) (by omega)⟩
theorem Ev.bind {g : Nat → α → Option β} (hf : Ev f a) (hg : Ev (fun k => g k a) b) : Ev (fun k => (f k).bind (g k)) b := by
  obtain ⟨n, hn⟩ := hf
  obtain ⟨m, hm⟩ := hg
  exact ⟨max n m, fun k hk => by show (f k).bind (g k) = some b; rw [hn k (by omega)]; exact hm k (by omega)⟩
theorem Ev.bind0 {o : Option α} {g : Nat → α → Option β} (ho : o = some a) (hg : Ev (fun k => g k a) b) : Ev (fun k => o.bind (g k)) b := by
  subst ho; exact hg
theorem Ev.neg {c : Prop} [Decidable c] {f g : Nat → Option α} (h : ¬ c) (hf : Ev g a) : Ev (fun k => if c then f k else g k) a := by
  simp only [if_neg h]; exact hf
theorem Ev.congr {g : Nat → Option α} (h : ∀ k, f k = g k) (hg : Ev g a) : Ev f a := by
  obtain ⟨n, hn⟩ := hg
  exact ⟨n, fun k hk => (h k).trans (hn k hk)⟩
theorem Ev.to {a' : α} (h : Ev f a) (e : a = a') : Ev f a' := e ▸ h
theorem Ev.ex (h : Ev f a) : ∃ k, f k = some a := by
  obtain ⟨n, hn⟩ := h
  exact ⟨n, hn n (Nat.le_refl _)⟩
end
theorem lt_at {α : Type} (p s : List α) (x : α) : decide ((p.length : Int) < ((p ++ x :: s).length : Int)) = true := by simp; omega
theorem lt_end {α : Type} (p : List α) : decide ((p.length : Int) < ((p ++ []).length : Int)) = false := by simp
theorem step_at {α : Type} (p s : List α) (x : α) (h : (p ++ x :: s).length ≤ maxLen) : w64 ((p.length : Int) + 1) = ((p ++ [x]).length : Int) := by
  rw [maxLen_val] at h
  simp at h
  rw [w64_succ (by omega)]
  simp
theorem push_ok {α : Type} {N : Nat} {xs : List α} {x : α} (h : xs.length < N) : push N xs x = some (xs ++ [x]) := by simp [push, h]
theorem pushN_ok {α : Type} {N : Nat} {xs zs : List α} (h : xs.length + zs.length ≤ N) : pushN N xs zs = some (xs ++ zs) := by simp [pushN, h]
theorem getD_idx {α : Type} {l : List α} {i : Nat} (h : i < l.length) : idx l (i : Int) = some l[i] := by rw [idx_nat, List.getElem?_eq_getElem h]
theorem getD_idx2 {α : Type} {l : List α} {i : Nat} (d : α) (h : i < l.length) : idx l (i : Int) = some (l.getD i d) := by
  rw [getD_idx h, List.getD_eq_getElem?_getD, List.getElem?_eq_getElem h]; rfl
theorem nil_or_snoc {α : Type} (l : List α) : l = [] ∨ ∃ p x, l = p ++ [x] := by
  rcases List.eq_nil_or_concat l with h | ⟨p, x, h⟩
  · exact .inl h
  · exact .inr ⟨p, x, by simpa using h⟩
end Go.Proofs.YtbaemhkfmddakaaGreat.Sy
