import Derived.Test.YtbaemhkfmddakaaGreatSyArr
set_option linter.unusedVariables false
set_option linter.unusedSectionVars false
set_option linter.unusedSimpArgs false
namespace Go.Proofs.YtbaemhkfmddakaaGreat.Sy
open Go
/-- A strict order of all. -/
structure So {α : Type} (lt : α → α → Prop) : Prop where
  irr : ∀ x, ¬ lt x x
  tr : ∀ x y z, lt x y → lt y z → lt x z
  tri : ∀ x y, lt x y ∨ x = y ∨ lt y x
section
variable {α : Type} {lt : α → α → Prop} [DecidableRel lt]
theorem So.asymm (h : So lt) {x y : α} (k : lt x y) : ¬ lt y x := fun k2 => h.irr x (h.tr _ _ _ k k2)
theorem So.wo (h : So lt) : Wo lt := ⟨fun x y k => h.asymm k, fun x y z h1 h2 h3 => by
  rcases h.tri x y with k | k | k
  · exact h1 k
  · subst k; exact h2 h3
  · exact h2 (h.tr _ _ _ k h3)⟩
theorem So.of_not (h : So lt) {x y : α} (k : ¬ lt x y) : lt y x ∨ x = y := by
  rcases h.tri x y with e | e | e
  · exact absurd e k
  · exact .inr e
  · exact .inl e
/-- One more, if it is not there. -/
def insU (lt : α → α → Prop) [DecidableRel lt] (x : α) : List α → List α
  | [] => [x]
  | y :: r => if lt x y then x :: y :: r else if lt y x then y :: insU lt x r else y :: r
def uq (lt : α → α → Prop) [DecidableRel lt] (l : List α) : List α := l.foldr (insU lt) []
theorem mem_insU (h : So lt) {x y : α} : ∀ {l : List α}, y ∈ insU lt x l ↔ y = x ∨ y ∈ l
  | [] => by simp [insU]
  | z :: r => by
    unfold insU
    by_cases h1 : lt x z
    · simp [h1]
    · by_cases h2 : lt z x
      · simp only [h1, h2, if_true, if_false, List.mem_cons, mem_insU h (l := r)]
        constructor
        · rintro (k | k | k) <;> simp [k]
        · rintro (k | k | k) <;> simp [k]
      · obtain rfl : x = z := by
          rcases h.tri x z with k | k | k
          · exact absurd k h1
          · exact k
          · exact absurd k h2
        simp [h1]
theorem mem_uq (h : So lt) {y : α} {l : List α} : y ∈ uq lt l ↔ y ∈ l := by
  induction l with
  | nil => simp [uq]
  | cons x r ih =>
    show y ∈ insU lt x (uq lt r) ↔ _
    rw [mem_insU h, ih, List.mem_cons]
theorem insU_pw (h : So lt) {x : α} : ∀ {l : List α}, l.Pairwise lt → (insU lt x l).Pairwise lt
  | [], _ => List.pairwise_singleton _ _
  | z :: r, hp => by
    have hz := List.pairwise_cons.1 hp
    unfold insU
    by_cases h1 : lt x z
    · rw [if_pos h1]
      refine List.pairwise_cons.2 ⟨fun y hy => ?_, hp⟩
      rcases List.mem_cons.1 hy with e | e
      · subst e; exact h1
      · exact h.tr _ _ _ h1 (hz.1 y e)
    · rw [if_neg h1]
      by_cases h2 : lt z x
      · rw [if_pos h2]
        refine List.pairwise_cons.2 ⟨fun y hy => ?_, insU_pw h hz.2⟩
        rcases (mem_insU h).1 hy with e | e
        · subst e; exact h2
        · exact hz.1 y e
      · rw [if_neg h2]; exact hp
theorem uq_pw (h : So lt) (l : List α) : (uq lt l).Pairwise lt := by
  induction l with
  | nil => exact List.Pairwise.nil
  | cons x r ih => exact insU_pw h ih
theorem pw_uniq (h : So lt) : ∀ {a b : List α}, a.Pairwise lt → b.Pairwise lt → (∀ x, x ∈ a ↔ x ∈ b) → a = b
  | [], [], _, _, _ => rfl
  | [], y :: b, _, _, hm => by have := (hm y).2 (by simp); simp at this
  | x :: a, [], _, _, hm => by have := (hm x).1 (by simp); simp at this
  | x :: a, y :: b, ha, hb, hm => by
    have ha' := List.pairwise_cons.1 ha
    have hb' := List.pairwise_cons.1 hb
    have hxy : x = y := by
      rcases List.mem_cons.1 ((hm x).1 (by simp)) with e | e
      · exact e
      · rcases List.mem_cons.1 ((hm y).2 (by simp)) with k | k
        · exact k.symm
        · exact absurd (ha'.1 y k) (h.asymm (hb'.1 x e))
    subst hxy
    congr 1
    refine pw_uniq h ha'.2 hb'.2 fun z => ?_
    constructor
    · intro hz
      rcases List.mem_cons.1 ((hm z).1 (by simp [hz])) with e | e
      · subst e; exact absurd (ha'.1 z hz) (h.irr z)
      · exact e
    · intro hz
      rcases List.mem_cons.1 ((hm z).2 (by simp [hz])) with e | e
      · subst e; exact absurd (hb'.1 z hz) (h.irr z)
      · exact e
theorem uq_len (l : List α) : (uq lt l).length ≤ l.length := by
  have ins : ∀ (x : α) (l : List α), (insU lt x l).length ≤ l.length + 1 := by
    intro x l
    induction l with
    | nil => simp [insU]
    | cons y r ih => unfold insU; split; · simp
                     split <;> simp <;> omega
  induction l with
  | nil => simp [uq]
  | cons x r ih => exact Nat.le_trans (ins x _) (by simpa [uq] using ih)
end
/-- Of equal ones in a row one. -/
def dd {α : Type} [DecidableEq α] : List α → List α
  | [] => []
  | [x] => [x]
  | x :: y :: r => if x = y then dd (y :: r) else x :: dd (y :: r)
section
variable {α : Type} [DecidableEq α]
theorem mem_dd {x : α} : ∀ {l : List α}, x ∈ dd l ↔ x ∈ l
  | [] => by simp [dd]
  | [y] => by simp [dd]
  | y :: z :: r => by
    have ih := mem_dd (x := x) (l := z :: r)
    unfold dd
    by_cases h : y = z
    · rw [if_pos h, ih]; subst h; simp
    · rw [if_neg h, List.mem_cons, ih, List.mem_cons (a := x) (b := y)]
theorem dd_snoc (x y : α) : ∀ (p : List α), dd (p ++ [x, y]) = if x = y then dd (p ++ [x]) else dd (p ++ [x]) ++ [y]
  | [] => by by_cases h : x = y <;> simp [dd, h]
  | [u] => by
    show dd [u, x, y] = if x = y then dd [u, x] else dd [u, x] ++ [y]
    by_cases h : x = y <;> by_cases k : u = x <;> simp [dd, h, k]
  | u :: v :: p => by
    have ih := dd_snoc x y (v :: p)
    simp only [List.cons_append] at ih ⊢
    by_cases k : u = v
    · simp only [dd, k, if_true]; exact ih
    · by_cases h : x = y
      · simp only [dd, k, if_false, h, if_true] at ih ⊢; rw [ih]
      · simp only [dd, k, if_false, h, List.cons_append] at ih ⊢; rw [ih]
theorem dd_id (d : α) : ∀ (l : List α), (∀ k, 0 < k → k < l.length → A d l k ≠ A d l (k - 1)) → dd l = l
  | [], _ => rfl
  | [y], _ => rfl
  | y :: z :: r, h => by
    have h1 := h 1 (by omega) (by simp)
    simp only [A, List.getD_cons_succ, List.getD_cons_zero, Nat.sub_self] at h1
    unfold dd
    rw [if_neg (fun e => h1 e.symm), dd_id d (z :: r) fun k h0 hk => ?_]
    have := h (k + 1) (by omega) (by simp at hk ⊢; omega)
    obtain ⟨j, rfl⟩ : ∃ j, k = j + 1 := ⟨k - 1, by omega⟩
    simpa [A] using this
theorem dd_pw {lt : α → α → Prop} [DecidableRel lt] (h : So lt) : ∀ {l : List α}, Srt lt l → (dd l).Pairwise lt
  | [], _ => List.Pairwise.nil
  | [y], _ => List.pairwise_singleton _ _
  | y :: z :: r, hs => by
    have hy := List.pairwise_cons.1 hs
    have ih := dd_pw h hy.2
    unfold dd
    split
    · exact ih
    · rename_i hne
      refine List.pairwise_cons.2 ⟨fun x hx => ?_, ih⟩
      have hx' : x ∈ z :: r := mem_dd.1 hx
      have h1 : lt y z := by
        rcases h.of_not (hy.1 z (by simp)) with k | k
        · exact k
        · exact absurd k.symm hne
      rcases List.mem_cons.1 hx' with e | e
      · subst e; exact h1
      · rcases h.of_not ((List.pairwise_cons.1 hy.2).1 x e) with k | k
        · exact h.tr _ _ _ h1 k
        · subst k; exact h1
end
theorem cut_drop {α : Type} {l : List α} {i n : Nat} (hn : n = l.length) (hi : i ≤ n) : cut l (i : Int) (n : Int) = some (l.drop i) := by
  subst hn
  unfold cut
  rw [if_pos ⟨by omega, by omega, by omega⟩]
  simp
theorem cut_take {α : Type} {l : List α} {k : Nat} (hk : k ≤ l.length) : cut l 0 (k : Int) = some (l.take k) := by
  unfold cut
  rw [if_pos ⟨by omega, by omega, by omega⟩]
  simp
theorem so_int : So (fun x y : Int => x < y) := ⟨fun x => by omega, fun x y z => by omega, fun x y => by omega⟩
theorem so_str : So slt := ⟨slt_irrefl, fun x y z => slt_trans, slt_tri⟩
instance : DecidableRel slt := fun a b => inferInstance
end Go.Proofs.YtbaemhkfmddakaaGreat.Sy
