import Derived.Test.YtbaemhkfmddakaaGreatSySt
set_option linter.unusedVariables false
set_option linter.unusedSectionVars false
set_option linter.unusedSimpArgs false
namespace Go.Proofs.YtbaemhkfmddakaaGreat.Sy
open Go
section
variable {α : Type} {d : α}
/-- What stands at a place. -/
def A (d : α) (l : List α) (k : Nat) : α := l.getD k d
theorem A_get {l : List α} {k : Nat} (h : k < l.length) : A d l k = l[k] := by
  unfold A; rw [List.getD_eq_getElem?_getD, List.getElem?_eq_getElem h]; rfl
theorem A_get? {l : List α} {k : Nat} (h : k < l.length) : l[k]? = some (A d l k) := by
  rw [A_get h, List.getElem?_eq_getElem h]
theorem A_congr {l l' : List α} {k : Nat} (h : l'[k]? = l[k]?) : A d l' k = A d l k := by
  unfold A; rw [List.getD_eq_getElem?_getD, List.getD_eq_getElem?_getD, h]
theorem idx_A {l : List α} {k : Nat} (h : k < l.length) : idx l (k : Int) = some (A d l k) := by rw [idx_nat, A_get? (d := d) h]
def swp (d : α) (l : List α) (i j : Nat) : List α := (l.set j (A d l i)).set i (A d l j)
theorem swp_len (l : List α) (i j : Nat) : (swp d l i j).length = l.length := by simp [swp]
theorem swp_get? {l : List α} {i j : Nat} (hi : i < l.length) (hj : j < l.length) (k : Nat) : (swp d l i j)[k]? = if k = i then l[j]? else if k = j then l[i]? else l[k]? := by
  unfold swp
  rw [List.getElem?_set, List.getElem?_set]
  by_cases h1 : i = k
  · subst h1
    simp [hi, A_get hj, List.getElem?_eq_getElem hj]
  · by_cases h2 : j = k
    · subst h2
      simp [h1, hj, A_get hi, List.getElem?_eq_getElem hi, show ¬ j = i from fun e => h1 e.symm]
    · simp [h1, h2, show ¬ k = i from fun e => h1 e.symm, show ¬ k = j from fun e => h2 e.symm]
theorem A_swp {l : List α} {i j : Nat} (hi : i < l.length) (hj : j < l.length) (k : Nat) : A d (swp d l i j) k = if k = i then A d l j else if k = j then A d l i else A d l k := by
  have := swp_get? (d := d) hi hj k
  unfold A
  rw [List.getD_eq_getElem?_getD, this]
  split
  · rw [← List.getD_eq_getElem?_getD]
  · split <;> rw [← List.getD_eq_getElem?_getD]
theorem swp_perm {l : List α} {i j : Nat} (hi : i < l.length) (hj : j < l.length) : l.Perm (swp d l i j) := by
  unfold swp
  rw [A_get hi, A_get hj]
  exact (List.set_set_perm hj hi).symm
theorem swp_eq {R : Type} {l : List α} {i j : Int} (d : α) (K : List α → Option R) (hi0 : 0 ≤ i) (hi : i < l.length) (hj0 : 0 ≤ j) (hj : j < l.length) :
    ((idx l i).bind fun x => (idx l j).bind fun y => (idx l j).bind fun _ => (upd l j x).bind fun l1 => (idx l1 i).bind fun _ => (upd l1 i y).bind K) = K (swp d l i.toNat j.toNat) := by
  obtain ⟨i, rfl⟩ := Int.eq_ofNat_of_zero_le hi0
  obtain ⟨j, rfl⟩ := Int.eq_ofNat_of_zero_le hj0
  have hi' : i < l.length := by omega
  have hj' : j < l.length := by omega
  have h1 : upd l (j : Int) (A d l i) = some (l.set j (A d l i)) := by unfold upd; rw [if_pos ⟨by omega, hj⟩]; rfl
  have h2 : ∀ y, upd (l.set j (A d l i)) (i : Int) y = some ((l.set j (A d l i)).set i y) := fun y => by unfold upd; rw [if_pos ⟨by omega, by simpa using hi⟩]; rfl
  have h3 : idx (l.set j (A d l i)) (i : Int) = some (A d (l.set j (A d l i)) i) := idx_A (by simpa using hi')
  simp only [idx_A (d := d) hi', idx_A (d := d) hj', Option.bind_some, h1, h2, h3]
  rfl
/-- Turned only from a up to b. -/
structure Rng (a b : Nat) (l l' : List α) : Prop where
  len : l'.length = l.length
  perm : l.Perm l'
  out : ∀ k, k < a ∨ b ≤ k → l'[k]? = l[k]?
variable {a b : Nat} {l l' l'' : List α}
theorem Rng.refl (a b : Nat) (l : List α) : Rng a b l l := ⟨rfl, .refl _, fun _ _ => rfl⟩
theorem Rng.trans (h : Rng a b l l') (k : Rng a b l' l'') : Rng a b l l'' := ⟨k.len.trans h.len, h.perm.trans k.perm, fun i hi => (k.out i hi).trans (h.out i hi)⟩
theorem Rng.mono {a' b' : Nat} (h : Rng a b l l') (ha : a' ≤ a) (hb : b ≤ b') : Rng a' b' l l' := ⟨h.len, h.perm, fun i hi => h.out i (by omega)⟩
theorem Rng.swp {i j : Nat} (hi : a ≤ i) (hi' : i < b) (hj : a ≤ j) (hj' : j < b) (hb : b ≤ l.length) : Rng a b l (Sy.swp d l i j) := by
  refine ⟨swp_len l i j, swp_perm (by omega) (by omega), fun k hk => ?_⟩
  rw [swp_get? (by omega) (by omega), if_neg (by omega), if_neg (by omega)]
theorem Rng.A (h : Rng a b l l') {k : Nat} (hk : k < a ∨ b ≤ k) : Sy.A d l' k = Sy.A d l k := A_congr (h.out k hk)
theorem Rng.mid (h : Rng a b l l') (hab : a ≤ b) (hb : b ≤ l.length) : ((l.drop a).take (b - a)).Perm ((l'.drop a).take (b - a)) := by
  have e : ∀ l : List α, b ≤ l.length → l = l.take a ++ ((l.drop a).take (b - a) ++ l.drop b) := fun l hl => by
    have h1 : l.drop b = (l.drop a).drop (b - a) := by rw [List.drop_drop]; congr 1; omega
    rw [h1, List.take_append_drop, List.take_append_drop]
  have h1 : l'.take a = l.take a := by
    apply List.ext_getElem?
    intro k
    rw [List.getElem?_take, List.getElem?_take]
    split
    · exact h.out k (.inl (by assumption))
    · rfl
  have h2 : l'.drop b = l.drop b := by
    apply List.ext_getElem?
    intro k
    rw [List.getElem?_drop, List.getElem?_drop]
    exact h.out _ (.inr (by omega))
  have hp := h.perm
  rw [e l hb, e l' (by rw [h.len]; exact hb), h1, h2] at hp
  exact (List.perm_append_right_iff _).1 ((List.perm_append_left_iff _).1 hp)
theorem mid_iff (l : List α) (hab : a ≤ b) (hb : b ≤ l.length) (x : α) : x ∈ (l.drop a).take (b - a) ↔ ∃ k, a ≤ k ∧ k < b ∧ Sy.A d l k = x := by
  constructor
  · intro h
    obtain ⟨i, hi, rfl⟩ := List.getElem_of_mem h
    simp only [List.length_take, List.length_drop] at hi
    refine ⟨a + i, by omega, by omega, ?_⟩
    rw [A_get (by omega)]
    simp
  · rintro ⟨k, h1, h2, rfl⟩
    rw [List.mem_iff_getElem]
    refine ⟨k - a, by simp only [List.length_take, List.length_drop]; omega, ?_⟩
    rw [A_get (by omega)]
    simp only [List.getElem_take, List.getElem_drop]
    congr 1
    omega
theorem Rng.all (h : Rng a b l l') (hb : b ≤ l.length) {P : α → Prop} (hP : ∀ k, a ≤ k → k < b → P (Sy.A d l k)) (k : Nat) (h1 : a ≤ k) (h2 : k < b) : P (Sy.A d l' k) := by
  have hm := (mid_iff (d := d) l' (by omega) (by rw [h.len]; exact hb) (Sy.A d l' k)).2 ⟨k, h1, h2, rfl⟩
  have hm' := (h.mid (by omega) hb).mem_iff.2 hm
  obtain ⟨j, g1, g2, g3⟩ := (mid_iff (d := d) l (by omega) hb _).1 hm'
  rw [← g3]
  exact hP j g1 g2
theorem Rng.of (p m m' s : List α) (ha : p.length = a) (hb : (p ++ m).length = b) (h : m.Perm m') : Rng a b (p ++ m ++ s) (p ++ m' ++ s) := by
  have hl := h.length_eq
  refine ⟨by simp [hl], (h.append_left p).append_right s, fun k hk => ?_⟩
  rcases hk with hk | hk
  · rw [List.append_assoc, List.append_assoc, List.getElem?_append_left (by omega), List.getElem?_append_left (by omega)]
  · simp only [List.length_append] at hb
    rw [List.getElem?_append_right (by simp; omega), List.getElem?_append_right (by simp; omega)]
    simp [hl]
theorem cut3 (l : List α) (hab : a ≤ b) (hb : b ≤ l.length) : ∃ p m s, l = p ++ m ++ s ∧ p.length = a ∧ (p ++ m).length = b := by
  refine ⟨l.take a, (l.drop a).take (b - a), l.drop b, ?_, by simp; omega, by simp; omega⟩
  have h1 : l.drop b = (l.drop a).drop (b - a) := by rw [List.drop_drop]; congr 1; omega
  rw [h1, List.append_assoc, List.take_append_drop, List.take_append_drop]
/-- Sorted from a up to b. -/
def SrtR (d : α) (lt : α → α → Prop) (a b : Nat) (l : List α) : Prop := ∀ i j, a ≤ i → i < j → j < b → ¬ lt (Sy.A d l j) (Sy.A d l i)
theorem SrtR.one {lt : α → α → Prop} (h : b ≤ a + 1) : SrtR d lt a b l := fun i j h1 h2 h3 => by omega
theorem SrtR.congr {lt : α → α → Prop} (h : SrtR d lt a b l) (e : ∀ k, a ≤ k → k < b → Sy.A d l' k = Sy.A d l k) : SrtR d lt a b l' := fun i j h1 h2 h3 => by
  rw [e i h1 (by omega), e j (by omega) h3]; exact h i j h1 h2 h3
theorem SrtR.mono {lt : α → α → Prop} {a' b' : Nat} (h : SrtR d lt a b l) (ha : a ≤ a') (hb : b' ≤ b) : SrtR d lt a' b' l := fun i j h1 h2 h3 => h i j (by omega) h2 (by omega)
theorem SrtR.join {lt : α → α → Prop} {m : Nat} (h1 : SrtR d lt a m l) (h2 : SrtR d lt m b l) (h : ∀ i j, a ≤ i → i < m → m ≤ j → j < b → ¬ lt (Sy.A d l j) (Sy.A d l i)) : SrtR d lt a b l := fun i j g1 g2 g3 => by
  by_cases c1 : j < m
  · exact h1 i j g1 g2 c1
  by_cases c2 : i < m
  · exact h i j g1 c2 (by omega) g3
  · exact h2 i j (by omega) g2 g3
theorem SrtR.srt {lt : α → α → Prop} [DecidableRel lt] (h : SrtR d lt 0 l.length l) : Srt lt l := by
  unfold Srt
  rw [List.pairwise_iff_getElem]
  intro i j hi hj hij
  have := h i j (Nat.zero_le _) hij hj
  rwa [A_get hi, A_get hj] at this
theorem Srt.R {lt : α → α → Prop} [DecidableRel lt] {p m s : List α} (h : Srt lt m) (ha : p.length = a) (hb : (p ++ m).length = b) : SrtR d lt a b (p ++ m ++ s) := fun i j h1 h2 h3 => by
  simp only [List.length_append] at hb
  have e : ∀ k, a ≤ k → k < b → Sy.A d (p ++ m ++ s) k = Sy.A d m (k - a) := fun k k1 k2 => by
    unfold Sy.A
    rw [List.getD_eq_getElem?_getD, List.getD_eq_getElem?_getD, List.append_assoc, List.getElem?_append_right (by omega), List.getElem?_append_left (by omega), ha]
  rw [e i h1 (by omega), e j (by omega) h3, A_get (by omega), A_get (by omega)]
  exact (List.pairwise_iff_getElem.1 h) (i - a) (j - a) (by omega) (by omega) (by omega)
theorem scan_up {R : Type} (P : Nat → Prop) [DecidablePred P] (f : (Int → Option R) → Nat → Int → Option R) (lo hi : Nat) (hend : ¬ P hi)
    (hstep : ∀ J k (i : Nat), lo ≤ i → i ≤ hi → f J (k + 1) i = if P i then f J k ((i + 1 : Nat) : Int) else J i) :
    ∀ (n i : Nat), hi - i ≤ n → lo ≤ i → i ≤ hi → ∃ t : Nat, i ≤ t ∧ t ≤ hi ∧ (∀ k, i ≤ k → k < t → P k) ∧ ¬ P t ∧ EvC (fun J k => f J k i) (t : Int) := by
  intro n
  induction n with
  | zero =>
    intro i hn h1 h2
    obtain rfl : i = hi := by omega
    refine ⟨i, Nat.le_refl _, Nat.le_refl _, fun k h1 h2 => by omega, hend, EvC.succ ?_⟩
    simp only [hstep _ _ i h1 h2, hend, if_false]
    exact EvC.ret
  | succ n ih =>
    intro i hn h1 h2
    by_cases hp : P i
    · have hlt : i < hi := by
        rcases Nat.lt_or_ge i hi with h | h
        · exact h
        · obtain rfl : i = hi := by omega
          exact absurd hp hend
      obtain ⟨t, g1, g2, g3, g4, g5⟩ := ih (i + 1) (by omega) (by omega) (by omega)
      refine ⟨t, by omega, g2, fun k k1 k2 => ?_, g4, EvC.succ ?_⟩
      · by_cases e : k = i
        · subst e; exact hp
        · exact g3 k (by omega) k2
      · simp only [hstep _ _ i h1 h2, hp, if_true]
        exact g5
    · refine ⟨i, Nat.le_refl _, h2, fun k h1 h2 => by omega, hp, EvC.succ ?_⟩
      simp only [hstep _ _ i h1 h2, hp, if_false]
      exact EvC.ret
theorem scan_down {R : Type} (P : Nat → Prop) [DecidablePred P] (f : (Int → Option R) → Nat → Int → Option R) (lo hi : Nat) (hend : ¬ P lo)
    (hstep : ∀ J k (i : Nat), lo ≤ i → i ≤ hi → f J (k + 1) i = if P i then f J k ((i - 1 : Nat) : Int) else J i) :
    ∀ (n i : Nat), i - lo ≤ n → lo ≤ i → i ≤ hi → ∃ t : Nat, lo ≤ t ∧ t ≤ i ∧ (∀ k, t < k → k ≤ i → P k) ∧ ¬ P t ∧ EvC (fun J k => f J k i) (t : Int) := by
  intro n
  induction n with
  | zero =>
    intro i hn h1 h2
    obtain rfl : i = lo := by omega
    refine ⟨i, Nat.le_refl _, Nat.le_refl _, fun k h1 h2 => by omega, hend, EvC.succ ?_⟩
    simp only [hstep _ _ i h1 h2, hend, if_false]
    exact EvC.ret
  | succ n ih =>
    intro i hn h1 h2
    by_cases hp : P i
    · have hlt : lo < i := by
        rcases Nat.lt_or_ge lo i with h | h
        · exact h
        · obtain rfl : i = lo := by omega
          exact absurd hp hend
      obtain ⟨t, g1, g2, g3, g4, g5⟩ := ih (i - 1) (by omega) (by omega) (by omega)
      refine ⟨t, g1, by omega, fun k k1 k2 => ?_, g4, EvC.succ ?_⟩
      · by_cases e : k = i
        · subst e; exact hp
        · exact g3 k k1 (by omega)
      · simp only [hstep _ _ i h1 h2, hp, if_true]
        exact g5
    · refine ⟨i, h1, Nat.le_refl _, fun k h1 h2 => by omega, hp, EvC.succ ?_⟩
      simp only [hstep _ _ i h1 h2, hp, if_false]
      exact EvC.ret
theorem w64_nat {n : Nat} (h : n ≤ 9223372036854775807) {x : Int} (e : x = (n : Int)) : w64 x = (n : Int) := by rw [e]; exact w64_of (by omega) (by omega)
/-- With enough fuel, of two kinds. -/
def Ev2 {β : Type} (f : Nat → Nat → Option β) (r : β) : Prop := ∃ n, ∀ kr k, n ≤ kr → n ≤ k → f kr k = some r
theorem Ev2.ev {β : Type} {f : Nat → Nat → Option β} {r : β} (h : Ev2 f r) : Ev (fun k => f k k) r := by
  obtain ⟨n, h⟩ := h; exact ⟨n, fun k hk => h k k hk hk⟩
theorem Ev2.succ {β : Type} {f : Nat → Nat → Option β} {r : β} (h : Ev2 (fun kr k => f kr (k + 1)) r) : Ev2 f r := by
  obtain ⟨n, h⟩ := h
  refine ⟨n + 1, fun kr k hr hk => ?_⟩
  obtain ⟨j, rfl⟩ : ∃ j, k = j + 1 := ⟨k - 1, by omega⟩
  exact h kr j (by omega) (by omega)
theorem Ev2.bind {β γ : Type} {f : Nat → Option γ} {c : γ} {g : Nat → Nat → γ → Option β} {r : β} (hf : Ev f c) (hg : Ev2 (fun kr k => g kr k c) r) : Ev2 (fun kr k => (f k).bind (g kr k)) r := by
  obtain ⟨n, hn⟩ := hf
  obtain ⟨m, hm⟩ := hg
  exact ⟨max n m, fun kr k h1 h2 => by show (f k).bind (g kr k) = _; rw [hn k (by omega)]; exact hm kr k (by omega) (by omega)⟩
theorem Ev2.bindR {β γ : Type} {f : Nat → Option γ} {c : γ} {g : Nat → Nat → γ → Option β} {r : β} (hf : Ev f c) (hg : Ev2 (fun kr k => g kr k c) r) : Ev2 (fun kr k => (f kr).bind (g kr k)) r := by
  obtain ⟨n, hn⟩ := hf
  obtain ⟨m, hm⟩ := hg
  exact ⟨max n m, fun kr k h1 h2 => by show (f kr).bind (g kr k) = _; rw [hn kr (by omega)]; exact hm kr k (by omega) (by omega)⟩
theorem Ev2.ret {β : Type} {r : β} : Ev2 (fun _ _ => some r) r := ⟨0, fun _ _ _ _ => rfl⟩
theorem Ev2.of {β : Type} {f : Nat → Option β} {r : β} (h : Ev f r) : Ev2 (fun _ k => f k) r := by
  obtain ⟨n, h⟩ := h; exact ⟨n, fun _ k _ hk => h k hk⟩
/-- From lo on each one is not below its children; places counted from f, as many as hi. -/
def Hp (d : α) (lt : α → α → Prop) (f lo hi : Nat) (l : List α) : Prop := ∀ c p, p = (c - 1) / 2 → 0 < c → lo ≤ p → c < hi → ¬ lt (Sy.A d l (f + p)) (Sy.A d l (f + c))
theorem Hp.top {lt : α → α → Prop} [DecidableRel lt] (hw : Wo lt) {f hi : Nat} (h : Hp d lt f 0 hi l) : ∀ c, c < hi → ¬ lt (Sy.A d l f) (Sy.A d l (f + c)) := by
  intro c
  induction c using Nat.strongRecOn with
  | _ c ih =>
    intro hc
    by_cases h0 : c = 0
    · subst h0; exact hw.irr _
    · have h1 := ih ((c - 1) / 2) (by omega) (by omega)
      have h2 := h c _ rfl (by omega) (Nat.zero_le _) hc
      exact hw.neg _ _ _ h1 h2
end
end Go.Proofs.YtbaemhkfmddakaaGreat.Sy
namespace Go.Proofs.YtbaemhkfmddakaaGreat.Sy
open Go
theorem wS {n : Nat} (h : n < 4611686018427387904) : w64 ((n : Int) + 1) = ((n + 1 : Nat) : Int) := w64_nat (by omega) (by omega)
theorem wP {n : Nat} (h0 : 0 < n) (h : n < 4611686018427387904) : w64 ((n : Int) - 1) = ((n - 1 : Nat) : Int) := w64_nat (by omega) (by omega)
theorem wA {m n : Nat} (h : m + n < 4611686018427387904) : w64 ((m : Int) + (n : Int)) = ((m + n : Nat) : Int) := w64_nat (by omega) (by omega)
theorem wD {m n : Nat} (h : n ≤ m) (h2 : m < 4611686018427387904) : w64 ((m : Int) - (n : Int)) = ((m - n : Nat) : Int) := w64_nat (by omega) (by omega)
theorem dLe {i j : Nat} (h : i ≤ j) : decide ((i : Int) ≤ (j : Int)) = true := decide_eq_true (by omega)
theorem dLeF {i j : Nat} (h : ¬ i ≤ j) : decide ((i : Int) ≤ (j : Int)) = false := decide_eq_false (by omega)
theorem dLt {i j : Nat} (h : i < j) : decide ((i : Int) < (j : Int)) = true := decide_eq_true (by omega)
theorem dLtF {i j : Nat} (h : ¬ i < j) : decide ((i : Int) < (j : Int)) = false := decide_eq_false (by omega)
theorem bits_and_le {x y : Int} (h0 : 0 ≤ y) (h1 : y < 18446744073709551616) : 0 ≤ bits .and .u64 x y ∧ bits .and .u64 x y ≤ y := by
  have e : bits .and .u64 x y = IntKind.u64.wrap ((BitVec.ofInt 64 x &&& BitVec.ofInt 64 y).toNat : Nat) := rfl
  rw [e, BitVec.toNat_and]
  have h2 : (BitVec.ofInt 64 y).toNat = y.toNat := by
    rw [BitVec.toNat_ofInt]
    congr 1
    exact Int.emod_eq_of_lt h0 (by simpa using h1)
  have h3 : (BitVec.ofInt 64 x).toNat &&& (BitVec.ofInt 64 y).toNat ≤ y.toNat := by rw [h2]; exact Nat.and_le_right
  have h4 : ((BitVec.ofInt 64 x).toNat &&& (BitVec.ofInt 64 y).toNat : Nat) < 18446744073709551616 := by omega
  generalize (BitVec.ofInt 64 x).toNat &&& (BitVec.ofInt 64 y).toNat = q at h3 h4
  have h5 : IntKind.u64.wrap (q : Int) = (q : Int) := by
    unfold IntKind.wrap
    simp [IntKind.bits, IntKind.signed]
    omega
  rw [h5]
  omega
end Go.Proofs.YtbaemhkfmddakaaGreat.Sy
