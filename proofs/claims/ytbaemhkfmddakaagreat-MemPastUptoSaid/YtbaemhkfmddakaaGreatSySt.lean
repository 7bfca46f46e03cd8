import Derived.Test.YtbaemhkfmddakaaGreatSyEv
set_option linter.unusedVariables false
set_option linter.unusedSectionVars false
set_option linter.unusedSimpArgs false
namespace Go.Proofs.YtbaemhkfmddakaaGreat.Sy
open Go
structure Wo {α : Type} (lt : α → α → Prop) : Prop where
  asymm : ∀ x y, lt x y → ¬ lt y x
  neg : ∀ x y z, ¬ lt x y → ¬ lt y z → ¬ lt x z
section
variable {α : Type} {lt : α → α → Prop} [DecidableRel lt]
def Eqv (lt : α → α → Prop) [DecidableRel lt] (x y : α) : Bool := decide (¬ lt x y) && decide (¬ lt y x)
theorem Eqv_iff {x y : α} : Eqv lt x y = true ↔ ¬ lt x y ∧ ¬ lt y x := by simp [Eqv]
def Srt (lt : α → α → Prop) (l : List α) : Prop := l.Pairwise fun x y => ¬ lt y x
def Sst (lt : α → α → Prop) [DecidableRel lt] (l l' : List α) : Prop := l.Perm l' ∧ ∀ z, l.filter (Eqv lt z) = l'.filter (Eqv lt z)
theorem Wo.irr (h : Wo lt) (x : α) : ¬ lt x x := fun k => h.asymm x x k k
theorem Wo.lt_le (h : Wo lt) {x y z : α} (h1 : lt x y) (h2 : ¬ lt z y) : lt x z := by
  by_cases k : lt x z
  · exact k
  · exact absurd h1 (h.neg x z y k h2)
theorem Sst.refl (l : List α) : Sst lt l l := ⟨.refl _, fun _ => rfl⟩
theorem Sst.trans {a b c : List α} (h : Sst lt a b) (k : Sst lt b c) : Sst lt a c := ⟨h.1.trans k.1, fun z => (h.2 z).trans (k.2 z)⟩
theorem Sst.symm {a b : List α} (h : Sst lt a b) : Sst lt b a := ⟨h.1.symm, fun z => (h.2 z).symm⟩
theorem Sst.app {a b c d : List α} (h : Sst lt a b) (k : Sst lt c d) : Sst lt (a ++ c) (b ++ d) := ⟨h.1.append k.1, fun z => by rw [List.filter_append, List.filter_append, h.2, k.2]⟩
theorem Sst.len {a b : List α} (h : Sst lt a b) : a.length = b.length := h.1.length_eq
theorem Sst.swap (hw : Wo lt) {u v : List α} (h : ∀ x ∈ u, ∀ y ∈ v, lt y x) : Sst lt (u ++ v) (v ++ u) := by
  refine ⟨List.perm_append_comm, fun z => ?_⟩
  rw [List.filter_append, List.filter_append]
  by_cases hu : u.filter (Eqv lt z) = []
  · rw [hu]; simp
  · by_cases hv : v.filter (Eqv lt z) = []
    · rw [hv]; simp
    · obtain ⟨x, hx⟩ := List.exists_mem_of_ne_nil _ hu
      obtain ⟨y, hy⟩ := List.exists_mem_of_ne_nil _ hv
      obtain ⟨hx, hx2⟩ := List.mem_filter.1 hx
      obtain ⟨hy, hy2⟩ := List.mem_filter.1 hy
      rw [Eqv_iff] at hx2 hy2
      exact absurd (h x hx y hy) (hw.neg y z x hy2.2 hx2.1)
theorem Srt.nil : Srt lt [] := List.Pairwise.nil
theorem Srt.one (x : α) : Srt lt [x] := List.pairwise_singleton _ _
theorem Srt.app {a b : List α} : Srt lt (a ++ b) ↔ Srt lt a ∧ Srt lt b ∧ ∀ x ∈ a, ∀ y ∈ b, ¬ lt y x := List.pairwise_append
/-- One more, behind those that are not above it. -/
theorem ins_srt (hw : Wo lt) {q1 q2 : List α} {x : α} (h : Srt lt (q1 ++ q2)) (h1 : ∀ y ∈ q1, ¬ lt x y) (h2 : ∀ y ∈ q2, lt x y) : Srt lt (q1 ++ x :: q2) := by
  rw [Srt.app] at h
  refine Srt.app.2 ⟨h.1, List.pairwise_cons.2 ⟨fun y hy => hw.asymm _ _ (h2 y hy), h.2.1⟩, fun y hy z hz => ?_⟩
  rcases List.mem_cons.1 hz with e | e
  · subst e; exact h1 y hy
  · exact h.2.2 y hy z e
theorem ins_sst (hw : Wo lt) {q1 q2 : List α} {x : α} (h2 : ∀ y ∈ q2, lt x y) : Sst lt (q1 ++ q2 ++ [x]) (q1 ++ x :: q2) := by
  rw [List.append_assoc]
  refine (Sst.refl q1).app ?_
  have := Sst.swap (lt := lt) hw (u := q2) (v := [x]) (fun y hy z hz => by simp at hz; subst hz; exact h2 y hy)
  simpa using this
end
/-- With enough fuel it goes on with a. -/
def EvC {α R : Type} (f : (α → Option R) → Nat → Option R) (a : α) : Prop := ∃ n, ∀ k, n ≤ k → ∀ J, f J k = J a
theorem EvC.to {α R : Type} {f : (α → Option R) → Nat → Option R} {a b : α} (h : EvC f a) (e : a = b) : EvC f b := e ▸ h
theorem EvC.ret {α R : Type} {a : α} : EvC (R := R) (fun J _ => J a) a := ⟨0, fun _ _ _ => rfl⟩
theorem EvC.succ {α R : Type} {f : (α → Option R) → Nat → Option R} {a : α} (h : EvC (fun J k => f J (k + 1)) a) : EvC f a := by
  obtain ⟨n, h⟩ := h
  refine ⟨n + 1, fun k hk J => ?_⟩
  obtain ⟨j, rfl⟩ : ∃ j, k = j + 1 := ⟨k - 1, by omega⟩
  exact h j (by omega) J
theorem EvC.ev {α R : Type} {f : (α → Option R) → Nat → Option R} {a : α} {J : Nat → α → Option R} {r : R} (h : EvC f a) (hj : Ev (fun k => J k a) r) : Ev (fun k => f (J k) k) r := by
  obtain ⟨n, hn⟩ := h
  obtain ⟨m, hm⟩ := hj
  exact ⟨max n m, fun k hk => (hn k (by omega) (J k)).trans (hm k (by omega))⟩
def EvC2 {α β R : Type} (f : (α → β → Option R) → Nat → Option R) (a : α) (b : β) : Prop := ∃ n, ∀ k, n ≤ k → ∀ J, f J k = J a b
theorem EvC2.ret {α β R : Type} {a : α} {b : β} : EvC2 (R := R) (fun J _ => J a b) a b := ⟨0, fun _ _ _ => rfl⟩
theorem EvC2.succ {α β R : Type} {f : (α → β → Option R) → Nat → Option R} {a : α} {b : β} (h : EvC2 (fun J k => f J (k + 1)) a b) : EvC2 f a b := by
  obtain ⟨n, h⟩ := h
  refine ⟨n + 1, fun k hk J => ?_⟩
  obtain ⟨j, rfl⟩ : ∃ j, k = j + 1 := ⟨k - 1, by omega⟩
  exact h j (by omega) J
theorem EvC2.bind {α β γ R : Type} {g : Nat → Option γ} {c : γ} {f : (α → β → Option R) → Nat → γ → Option R} {a : α} {b : β} (hg : Ev g c) (h : EvC2 (fun J k => f J k c) a b) : EvC2 (fun J k => (g k).bind (f J k)) a b := by
  obtain ⟨n, hn⟩ := hg
  obtain ⟨m, hm⟩ := h
  exact ⟨max n m, fun k hk J => by show (g k).bind (f J k) = _; rw [hn k (by omega)]; exact hm k (by omega) J⟩
theorem EvC2.ev {α β R : Type} {f : (α → β → Option R) → Nat → Option R} {a : α} {b : β} {J : Nat → α → β → Option R} {r : R} (h : EvC2 f a b) (hj : Ev (fun k => J k a b) r) : Ev (fun k => f (J k) k) r := by
  obtain ⟨n, hn⟩ := h
  obtain ⟨m, hm⟩ := hj
  exact ⟨max n m, fun k hk => (hn k (by omega) (J k)).trans (hm k (by omega))⟩
theorem upd_at {α : Type} (p : List α) (x y : α) (s : List α) : upd (p ++ x :: s) (p.length : Int) y = some (p ++ y :: s) := by
  unfold upd
  rw [if_pos ⟨by omega, by simp; omega⟩]
  simp
theorem idx_as {α : Type} {l p s : List α} {x : α} {i : Int} (hl : l = p ++ x :: s) (hi : i = (p.length : Int)) : idx l i = some x := by subst hl hi; exact idx_at p x s
theorem upd_as {α : Type} {l p s : List α} {x : α} {i : Int} (y : α) (hl : l = p ++ x :: s) (hi : i = (p.length : Int)) : upd l i y = some (p ++ y :: s) := by subst hl hi; exact upd_at p x y s
end Go.Proofs.YtbaemhkfmddakaaGreat.Sy
namespace Go.Proofs.YtbaemhkfmddakaaGreat.Sy
open Go
end Go.Proofs.YtbaemhkfmddakaaGreat.Sy
