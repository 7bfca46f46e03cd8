import Derived.Test.YtbaemhkfmddakaaGreatSySt
set_option linter.unusedVariables false
set_option linter.unusedSectionVars false
set_option linter.unusedSimpArgs false
namespace Go.Proofs.YtbaemhkfmddakaaGreat.Sy
open Go
section
variable {α : Type} {d : α}
/-- What stands at a place. -/
def A (d : α) (l : List α) (k : Nat) : α := l.getD k d
theorem A_get {l : List α} {k : Nat} (h : k < l.length) : A d l k = l[k] := by
  unfold A; rw [List.getD_eq_getElem?_getD, List.getElem?_eq_getElem h]; rfl
theorem A_congr {l l' : List α} {k : Nat} (h : l'[k]? = l[k]?) : A d l' k = A d l k := by
  unfold A; rw [List.getD_eq_getElem?_getD, List.getD_eq_getElem?_getD, h]
/-- Turned only from a up to b. -/
structure Rng (a b : Nat) (l l' : List α) : Prop where
  len : l'.length = l.length
  perm : l.Perm l'
  out : ∀ k, k < a ∨ b ≤ k → l'[k]? = l[k]?
variable {a b : Nat} {l l' l'' : List α}
theorem Rng.refl (a b : Nat) (l : List α) : Rng a b l l := ⟨rfl, .refl _, fun _ _ => rfl⟩
theorem Rng.trans (h : Rng a b l l') (k : Rng a b l' l'') : Rng a b l l'' := ⟨k.len.trans h.len, h.perm.trans k.perm, fun i hi => (k.out i hi).trans (h.out i hi)⟩
theorem Rng.mono {a' b' : Nat} (h : Rng a b l l') (ha : a' ≤ a) (hb : b ≤ b') : Rng a' b' l l' := ⟨h.len, h.perm, fun i hi => h.out i (by omega)⟩
theorem Rng.A (h : Rng a b l l') {k : Nat} (hk : k < a ∨ b ≤ k) : Sy.A d l' k = Sy.A d l k := A_congr (h.out k hk)
theorem Rng.mid (h : Rng a b l l') (hab : a ≤ b) (hb : b ≤ l.length) : ((l.drop a).take (b - a)).Perm ((l'.drop a).take (b - a)) := by
  have e : ∀ l : List α, b ≤ l.length → l = l.take a ++ ((l.drop a).take (b - a) ++ l.drop b) := fun l hl => by
    have h1 : l.drop b = (l.drop a).drop (b - a) := by rw [List.drop_drop]; congr 1; omega
    rw [h1, List.take_append_drop, List.take_append_drop]
  have h1 : l'.take a = l.take a := by
    apply List.ext_getElem?
    intro k
    rw [List.getElem?_take, List.getElem?_take]
    split
    · exact h.out k (.inl (by assumption))
    · rfl
  have h2 : l'.drop b = l.drop b := by
    apply List.ext_getElem?
    intro k
    rw [List.getElem?_drop, List.getElem?_drop]
    exact h.out _ (.inr (by omega))
  have hp := h.perm
  rw [e l hb, e l' (by rw [h.len]; exact hb), h1, h2] at hp
  exact (List.perm_append_right_iff _).1 ((List.perm_append_left_iff _).1 hp)
theorem mid_iff (l : List α) (hab : a ≤ b) (hb : b ≤ l.length) (x : α) : x ∈ (l.drop a).take (b - a) ↔ ∃ k, a ≤ k ∧ k < b ∧ Sy.A d l k = x := by
  constructor
  · intro h
    obtain ⟨i, hi, rfl⟩ := List.getElem_of_mem h
    simp only [List.length_take, List.length_drop] at hi
    refine ⟨a + i, by omega, by omega, ?_⟩
    rw [A_get (by omega)]
    simp
  · rintro ⟨k, h1, h2, rfl⟩
    rw [List.mem_iff_getElem]
    refine ⟨k - a, by simp only [List.length_take, List.length_drop]; omega, ?_⟩
    rw [A_get (by omega)]
    simp only [List.getElem_take, List.getElem_drop]
    congr 1
    omega
theorem Rng.all (h : Rng a b l l') (hb : b ≤ l.length) {P : α → Prop} (hP : ∀ k, a ≤ k → k < b → P (Sy.A d l k)) (k : Nat) (h1 : a ≤ k) (h2 : k < b) : P (Sy.A d l' k) := by
  have hm := (mid_iff (d := d) l' (by omega) (by rw [h.len]; exact hb) (Sy.A d l' k)).2 ⟨k, h1, h2, rfl⟩
  have hm' := (h.mid (by omega) hb).mem_iff.2 hm
  obtain ⟨j, g1, g2, g3⟩ := (mid_iff (d := d) l (by omega) hb _).1 hm'
  rw [← g3]
  exact hP j g1 g2
theorem Rng.of (p m m' s : List α) (ha : p.length = a) (hb : (p ++ m).length = b) (h : m.Perm m') : Rng a b (p ++ m ++ s) (p ++ m' ++ s) := by
  have hl := h.length_eq
  refine ⟨by simp [hl], (h.append_left p).append_right s, fun k hk => ?_⟩
  rcases hk with hk | hk
  · rw [List.append_assoc, List.append_assoc, List.getElem?_append_left (by omega), List.getElem?_append_left (by omega)]
  · simp only [List.length_append] at hb
    rw [List.getElem?_append_right (by simp; omega), List.getElem?_append_right (by simp; omega)]
    simp [hl]
/-- Sorted from a up to b. -/
def SrtR (d : α) (lt : α → α → Prop) (a b : Nat) (l : List α) : Prop := ∀ i j, a ≤ i → i < j → j < b → ¬ lt (Sy.A d l j) (Sy.A d l i)
theorem SrtR.one {lt : α → α → Prop} (h : b ≤ a + 1) : SrtR d lt a b l := fun i j h1 h2 h3 => by omega
theorem SrtR.congr {lt : α → α → Prop} (h : SrtR d lt a b l) (e : ∀ k, a ≤ k → k < b → Sy.A d l' k = Sy.A d l k) : SrtR d lt a b l' := fun i j h1 h2 h3 => by
  rw [e i h1 (by omega), e j (by omega) h3]; exact h i j h1 h2 h3
theorem SrtR.mono {lt : α → α → Prop} {a' b' : Nat} (h : SrtR d lt a b l) (ha : a ≤ a') (hb : b' ≤ b) : SrtR d lt a' b' l := fun i j h1 h2 h3 => h i j (by omega) h2 (by omega)
theorem SrtR.join {lt : α → α → Prop} {m : Nat} (h1 : SrtR d lt a m l) (h2 : SrtR d lt m b l) (h : ∀ i j, a ≤ i → i < m → m ≤ j → j < b → ¬ lt (Sy.A d l j) (Sy.A d l i)) : SrtR d lt a b l := fun i j g1 g2 g3 => by
  by_cases c1 : j < m
  · exact h1 i j g1 g2 c1
  by_cases c2 : i < m
  · exact h i j g1 c2 (by omega) g3
  · exact h2 i j (by omega) g2 g3
theorem SrtR.srt {lt : α → α → Prop} [DecidableRel lt] (h : SrtR d lt 0 l.length l) : Srt lt l := by
  unfold Srt
  rw [List.pairwise_iff_getElem]
  intro i j hi hj hij
  have := h i j (Nat.zero_le _) hij hj
  rwa [A_get hi, A_get hj] at this
theorem w64_nat {n : Nat} (h : n ≤ 9223372036854775807) {x : Int} (e : x = (n : Int)) : w64 x = (n : Int) := by rw [e]; exact w64_of (by omega) (by omega)
/-- With enough fuel, of two kinds. -/
def Ev2 {β : Type} (f : Nat → Nat → Option β) (r : β) : Prop := ∃ n, ∀ kr k, n ≤ kr → n ≤ k → f kr k = some r
theorem Ev2.ev {β : Type} {f : Nat → Nat → Option β} {r : β} (h : Ev2 f r) : Ev (fun k => f k k) r := by
  obtain ⟨n, h⟩ := h; exact ⟨n, fun k hk => h k k hk hk⟩
theorem Ev2.succ {β : Type} {f : Nat → Nat → Option β} {r : β} (h : Ev2 (fun kr k => f kr (k + 1)) r) : Ev2 f r := by
  obtain ⟨n, h⟩ := h
  refine ⟨n + 1, fun kr k hr hk => ?_⟩
  obtain ⟨j, rfl⟩ : ∃ j, k = j + 1 := ⟨k - 1, by omega⟩
  exact h kr j (by omega) (by omega)
theorem Ev2.bind {β γ : Type} {f : Nat → Option γ} {c : γ} {g : Nat → Nat → γ → Option β} {r : β} (hf : Ev f c) (hg : Ev2 (fun kr k => g kr k c) r) : Ev2 (fun kr k => (f k).bind (g kr k)) r := by
  obtain ⟨n, hn⟩ := hf
  obtain ⟨m, hm⟩ := hg
  exact ⟨max n m, fun kr k h1 h2 => by show (f k).bind (g kr k) = _; rw [hn k (by omega)]; exact hm kr k (by omega) (by omega)⟩
theorem Ev2.ret {β : Type} {r : β} : Ev2 (fun _ _ => some r) r := ⟨0, fun _ _ _ _ => rfl⟩
theorem Ev2.of {β : Type} {f : Nat → Option β} {r : β} (h : Ev f r) : Ev2 (fun _ k => f k) r := by
  obtain ⟨n, h⟩ := h; exact ⟨n, fun _ k _ hk => h k hk⟩
end
end Go.Proofs.YtbaemhkfmddakaaGreat.Sy
namespace Go.Proofs.YtbaemhkfmddakaaGreat.Sy
open Go
theorem wS {n : Nat} (h : n < 4611686018427387904) : w64 ((n : Int) + 1) = ((n + 1 : Nat) : Int) := w64_nat (by omega) (by omega)
end Go.Proofs.YtbaemhkfmddakaaGreat.Sy
