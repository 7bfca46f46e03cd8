import Derived.Test.YtknedifgapgmbaaMgSt
import Derived.Test.YtknedifgapgmbaaSyEv
set_option linter.unusedVariables false
set_option linter.unusedSectionVars false
set_option linter.unusedSimpArgs false
set_option maxRecDepth 100000
namespace Go.Proofs.Ytknedifgapgmbaa.Mo
open Go Go.Proofs.Ytknedifgapgmbaa.Sy
def cE (a b : Entry) : Int := if slt a.Key b.Key then -1 else if slt b.Key a.Key then 1 else if b.Seq < a.Seq then -1 else if a.Seq < b.Seq then 1 else if b.Kind < a.Kind then -1 else if a.Kind < b.Kind then 1 else 0
abbrev ltE : Entry → Entry → Prop := ltcEntry cE
theorem ltE_iff {a b : Entry} : ltE a b ↔ slt a.Key b.Key ∨ (a.Key = b.Key ∧ (b.Seq < a.Seq ∨ (a.Seq = b.Seq ∧ b.Kind < a.Kind))) := by
  show cE a b < 0 ↔ _
  unfold cE
  rcases slt_tri a.Key b.Key with h | h | h
  · simp [h]
  · rw [h]
    simp only [slt_irrefl, if_false, false_or, true_and]
    split
    · simp [*]
    · split
      · constructor
        · intro h; omega
        · rintro (h | ⟨h, _⟩) <;> omega
      · split
        · constructor
          · intro _; exact .inr ⟨by omega, by assumption⟩
          · intro _; omega
        · split
          · constructor
            · intro h; omega
            · rintro (h | ⟨_, h⟩) <;> omega
          · constructor
            · intro h; omega
            · rintro (h | ⟨_, h⟩) <;> omega
  · have h1 := slt_asymm h
    have h2 : a.Key ≠ b.Key := fun e => by rw [e] at h; exact slt_irrefl _ h
    simp [h, h1, h2]
theorem wo_E : Wo ltE := by
  refine ⟨fun x y h k => ?_, fun x y z h k => ?_⟩
  · rw [ltE_iff] at h k
    rcases h with h | ⟨e, h⟩
    · rcases k with k | ⟨e, _⟩
      · exact slt_asymm h k
      · rw [e] at h; exact slt_irrefl _ h
    · rcases k with k | ⟨_, k⟩
      · rw [e] at k; exact slt_irrefl _ k
      · omega
  · rw [ltE_iff] at h k ⊢
    rintro (g | ⟨e, g⟩)
    · rcases slt_tri x.Key y.Key with h1 | h1 | h1
      · exact h (.inl h1)
      · rw [h1] at g; exact k (.inl g)
      · exact k (.inl (slt_trans h1 g))
    · rcases slt_tri x.Key y.Key with h1 | h1 | h1
      · exact h (.inl h1)
      · have h2 : ¬ (y.Seq < x.Seq ∨ (x.Seq = y.Seq ∧ y.Kind < x.Kind)) := fun c => h (.inr ⟨h1, c⟩)
        have k2 : ¬ (z.Seq < y.Seq ∨ (y.Seq = z.Seq ∧ z.Kind < y.Kind)) := fun c => k (.inr ⟨h1.symm.trans e, c⟩)
        omega
      · rw [e] at h1; exact k (.inl h1)
theorem entries_eq (k : Nat) (a b : Entry) : ikey_entries (k + 4) a b = some (cE a b) := by
  have w1 : w64 (0 + 1) = 1 := by decide
  have w2 : w64 (1 + 1) = 2 := by decide
  have w3 : w64 (2 + 1) = 3 := by decide
  have key : ∀ p q r : Int, cmp_Or_int (k + 4) [p, q, r] = some (if p ≠ 0 then p else if q ≠ 0 then q else if r ≠ 0 then r else 0) := by
    intro p q r
    have i0 : idx [p, q, r] 0 = some p := rfl
    have i1 : idx [p, q, r] 1 = some q := rfl
    have i2 : idx [p, q, r] 2 = some r := rfl
    have l0 : decide ((0 : Int) < ([p, q, r].length : Int)) = true := rfl
    have l1 : decide ((1 : Int) < ([p, q, r].length : Int)) = true := rfl
    have l2 : decide ((2 : Int) < ([p, q, r].length : Int)) = true := rfl
    have l3 : decide ((3 : Int) < ([p, q, r].length : Int)) = false := rfl
    simp only [cmp_Or_int, cmp_Or_int.l0, i0, i1, i2, l0, l1, l2, l3, if_true, Option.bind_some, w1, w2, w3, bne_iff_ne, Bool.false_eq_true, if_false]
    split
    · rfl
    · split
      · rfl
      · split <;> rfl
  unfold ikey_entries ikey_Compare
  simp only [strings_Compare, internal_bytealg_CompareString, Option.bind_some]
  have hu : cmp_Compare_uint64 b.Seq a.Seq = some (if b.Seq < a.Seq then -1 else if a.Seq < b.Seq then 1 else 0) := by
    simp only [cmp_Compare_uint64, cmp_isNaN_uint64, bne_self_eq_false, Option.bind_some, Bool.false_eq_true, if_false, decide_eq_true_eq]
    split
    · rfl
    · split <;> rfl
  have hi : cmp_Compare_int b.Kind a.Kind = some (if b.Kind < a.Kind then -1 else if a.Kind < b.Kind then 1 else 0) := by
    simp only [cmp_Compare_int, cmp_isNaN_int, bne_self_eq_false, Option.bind_some, Bool.false_eq_true, if_false, decide_eq_true_eq]
    split
    · rfl
    · split <;> rfl
  rw [hu, hi]
  simp only [Option.bind_some, key]
  congr 1
  unfold cE ordS
  simp only [sLt_iff]
  by_cases h1 : slt a.Key b.Key
  · simp [h1]
  · by_cases h2 : slt b.Key a.Key
    · simp [h1, h2]
    · by_cases h3 : b.Seq < a.Seq
      · simp [h1, h2, h3]
      · by_cases h4 : a.Seq < b.Seq
        · simp [h1, h2, h3, h4]
        · by_cases h5 : b.Kind < a.Kind
          · simp [h1, h2, h3, h4, h5]
          · by_cases h6 : a.Kind < b.Kind
            · simp [h1, h2, h3, h4, h5, h6]
            · simp [h1, h2, h3, h4, h5, h6]
theorem rcomp_eq (a b : Entry) : r03_Compare (⟨a.Key, a.Seq, a.Kind⟩ : IKey) (⟨b.Key, b.Seq, b.Kind⟩ : IKey) = some (cE a b) := by
  unfold r03_Compare cE
  rcases slt_tri a.Key b.Key with h | h | h
  · have hne : sEq a.Key b.Key = false := by
      rw [Bool.eq_false_iff, ne_eq, sEq_iff]
      intro e; rw [e] at h; exact slt_irrefl _ h
    simp [hne, h, sLt_iff.2 h]
  · have he : sEq a.Key b.Key = true := sEq_iff.2 h
    rw [h] at he ⊢
    simp only [he, slt_irrefl, Bool.not_true, Bool.false_eq_true, if_false]
    by_cases h3 : b.Seq < a.Seq
    · have : a.Seq ≠ b.Seq := by omega
      simp [this, h3]
    · by_cases h4 : a.Seq < b.Seq
      · have : a.Seq ≠ b.Seq := by omega
        simp [this, h3, h4]
      · have e2 : a.Seq = b.Seq := by omega
        by_cases h5 : b.Kind < a.Kind
        · have : a.Kind ≠ b.Kind := by omega
          simp [e2, this, h5]
        · by_cases h6 : a.Kind < b.Kind
          · have : a.Kind ≠ b.Kind := by omega
            simp [e2, this, h5, h6]
          · have e3 : a.Kind = b.Kind := by omega
            simp [e2, e3]
  · have hne : sEq a.Key b.Key = false := by
      rw [Bool.eq_false_iff, ne_eq, sEq_iff]
      intro e; rw [e] at h; exact slt_irrefl _ h
    have h1 := slt_asymm h
    simp [hne, h, h1, sLt_false.2 h1]
theorem isort_ev (l : List Entry) (hl : l.length ≤ 4691249611691) : ∃ m, Srt ltE m ∧ Sst ltE l m ∧ Ev (fun k => ikey_Sorted k l) m := by
  obtain ⟨m, h1, h2, n, h3⟩ := stable_Entry (cmp := fun x y => some (cE x y)) (c := cE) (fun _ _ => rfl) wo_E l (by omega)
  refine ⟨m, h1, h2, n + 4, fun k hk => ?_⟩
  obtain ⟨j, rfl⟩ : ∃ j, k = j + 4 := ⟨k - 4, by omega⟩
  have e : (fun x0 x1 => ikey_entries (j + 4) x0 x1) = fun x y => some (cE x y) := by
    funext x y; exact entries_eq j x y
  unfold ikey_Sorted
  simp only [slices_Clone_Entry, pushN_ok (show ([] : List Entry).length + l.length ≤ 4691249611691 by rw [List.length_nil]; omega), Option.bind_some, List.nil_append, e]
  have := h3 (j + 4) (by omega)
  simp only at this
  rw [this]
  rfl
theorem merge_ev : ∀ (n : Nat) (a b out : List Entry), a.length + b.length = n → out.length + a.length + b.length ≤ 4691249611691 → Srt ltE a → Srt ltE b →
    ∃ m, Srt ltE m ∧ Sst ltE (a ++ b) m ∧ Ev (fun k => r03_Sorted.l0 (fun l_34 l_37 l_41 => (pushN 4691249611691 l_41 l_34).bind fun l114 => (pushN 4691249611691 l114 l_37).bind fun l117 => some l117) k a b out) (out ++ m) := by
  have stop : ∀ (a b out : List Entry), (a = [] ∨ b = []) → out.length + a.length + b.length ≤ 4691249611691 → Ev (fun k => r03_Sorted.l0 (fun l_34 l_37 l_41 => (pushN 4691249611691 l_41 l_34).bind fun l114 => (pushN 4691249611691 l114 l_37).bind fun l117 => some l117) k a b out) (out ++ (a ++ b)) := by
    intro a b out h hl
    refine Ev.succ ?_
    have hc : (decide (0 < (a.length : Int)) && decide (0 < (b.length : Int))) = false := by
      rcases h with rfl | rfl <;> simp
    simp only [r03_Sorted.l0, hc, Bool.false_eq_true, if_false, pushN_ok (show out.length + a.length ≤ 4691249611691 by omega), Option.bind_some, pushN_ok (show (out ++ a).length + b.length ≤ 4691249611691 by rw [List.length_append]; omega)]
    rw [List.append_assoc]
    exact Ev.ret
  intro n
  induction n with
  | zero =>
    intro a b out hn hl ha hb
    have : a = [] := List.eq_nil_of_length_eq_zero (by omega)
    subst this
    exact ⟨b, hb, Sst.refl b, stop [] b out (.inl rfl) hl⟩
  | succ n ih =>
    intro a b out hn hl ha hb
    cases a with
    | nil => exact ⟨b, hb, Sst.refl b, stop [] b out (.inl rfl) hl⟩
    | cons x a =>
      cases b with
      | nil => exact ⟨x :: a, ha, by rw [List.append_nil]; exact Sst.refl _, by have := stop (x :: a) [] out (.inr rfl) hl; rwa [List.append_nil] at this⟩
      | cons y b =>
        have ha' := List.pairwise_cons.1 ha
        have hb' := List.pairwise_cons.1 hb
        simp only [List.length_cons] at hn hl
        have hc : (decide (0 < ((x :: a).length : Int)) && decide (0 < ((y :: b).length : Int))) = true := by simp
        have i1 : idx (x :: a) 0 = some x := rfl
        have i2 : idx (y :: b) 0 = some y := rfl
        have c1 : ∀ (z : Entry) (t : List Entry), cut (z :: t) 1 ((z :: t).length : Int) = some t := fun z t => by
          unfold cut
          rw [if_pos ⟨by omega, by simp; omega, by omega⟩]
          simp
        by_cases hle : cE x y ≤ 0
        · have hyx : ¬ ltE y x := by
            intro h
            have := wo_E.asymm _ _ h
            rw [ltE_iff] at h this
            by_cases e : cE x y = 0
            · unfold cE at e
              rcases h with h | ⟨h0, h⟩
              · have := slt_asymm h
                simp [h, this] at e
              · rw [h0] at e
                simp only [slt_irrefl, if_false] at e
                split at e
                · omega
                · split at e
                  · omega
                  · split at e
                    · omega
                    · split at e <;> omega
            · exact wo_E.asymm _ _ (show ltE x y from (by show cE x y < 0; omega)) (ltE_iff.2 h)
          obtain ⟨m, m1, m2, m3⟩ := ih a (y :: b) (out ++ [x]) (by simp; omega) (by simp; omega) ha'.2 hb
          refine ⟨x :: m, List.pairwise_cons.2 ⟨fun z hz => ?_, m1⟩, by have := (Sst.refl [x]).app m2; simpa using this, Ev.succ ?_⟩
          · have hz' := m2.1.mem_iff.2 hz
            rcases List.mem_append.1 hz' with hz' | hz'
            · exact ha'.1 z hz'
            · rcases List.mem_cons.1 hz' with rfl | hz'
              · exact hyx
              · exact wo_E.neg z y x (hb'.1 z hz') hyx
          · simp only [r03_Sorted.l0, hc, if_true, i1, i2, r03_Key, Option.bind_some, rcomp_eq, hle, decide_true, push_ok (show out.length < 4691249611691 by omega), c1]
            simpa using m3
        · have hyx : ltE y x := by
            rw [ltE_iff]
            unfold cE at hle
            rcases slt_tri x.Key y.Key with h | h | h
            · simp [h] at hle
            · right
              rw [h] at hle
              simp only [slt_irrefl, if_false] at hle
              refine ⟨h.symm, ?_⟩
              split at hle
              · omega
              · split at hle
                · left; assumption
                · split at hle
                  · omega
                  · split at hle
                    · right; exact ⟨by omega, by assumption⟩
                    · omega
            · exact .inl h
          obtain ⟨m, m1, m2, m3⟩ := ih (x :: a) b (out ++ [y]) (by simp; omega) (by simp; omega) ha hb'.2
          have hall : ∀ z ∈ x :: a, ltE y z := fun z hz => by
            rcases List.mem_cons.1 hz with rfl | hz
            · exact hyx
            · exact wo_E.lt_le hyx (ha'.1 z hz)
          refine ⟨y :: m, List.pairwise_cons.2 ⟨fun z hz => ?_, m1⟩, ?_, Ev.succ ?_⟩
          · have hz' := m2.1.mem_iff.2 hz
            rcases List.mem_append.1 hz' with hz' | hz'
            · exact wo_E.asymm _ _ (hall z hz')
            · exact hb'.1 z hz'
          · have h1 : Sst ltE ((x :: a) ++ [y]) ([y] ++ (x :: a)) := Sst.swap wo_E (fun z hz w hw => by simp at hw; subst hw; exact hall z hz)
            have h2 := h1.app (Sst.refl b)
            have h3 := (Sst.refl [y]).app m2
            refine Sst.trans (b := [y] ++ (x :: a) ++ b) (by simpa using h2) (by simpa using h3)
          · simp only [r03_Sorted.l0, hc, if_true, i1, i2, r03_Key, Option.bind_some, rcomp_eq, hle, decide_false, Bool.false_eq_true, if_false, push_ok (show out.length < 4691249611691 by omega), c1]
            simpa using m3
theorem rsort_ev : ∀ (n : Nat) (l : List Entry), l.length ≤ n → l.length ≤ 4691249611691 → ∃ m, Srt ltE m ∧ Sst ltE l m ∧ Ev (fun k => r03_Sorted k l) m := by
  intro n
  induction n with
  | zero =>
    intro l hn hl
    have : l = [] := List.eq_nil_of_length_eq_zero (by omega)
    subst this
    exact ⟨[], Srt.nil, Sst.refl _, Ev.succ Ev.ret⟩
  | succ n ih =>
    intro l hn hl
    by_cases h2 : l.length < 2
    · refine ⟨l, ?_, Sst.refl l, Ev.succ ?_⟩
      · match l, h2 with
        | [], _ => exact Srt.nil
        | [x], _ => exact Srt.one x
      · have hd : decide ((l.length : Int) < 2) = true := decide_eq_true (by omega)
        simp only [r03_Sorted, hd, if_true, pushN_ok (show ([] : List Entry).length + l.length ≤ 4691249611691 by rw [List.length_nil]; omega), Option.bind_some, List.nil_append]
        exact Ev.ret
    · have hd : decide ((l.length : Int) < 2) = false := decide_eq_false (by omega)
      have hm : w64 (Int.tdiv (l.length : Int) 2) = ((l.length / 2 : Nat) : Int) := by
        have : Int.tdiv (l.length : Int) 2 = ((l.length / 2 : Nat) : Int) := by
          rw [Int.tdiv_eq_ediv_of_nonneg (by omega)]; omega
        rw [this]; exact w64_of (by omega) (by omega)
      have hc1 : cut l 0 ((l.length / 2 : Nat) : Int) = some (l.take (l.length / 2)) := by
        unfold cut
        rw [if_pos ⟨by omega, by omega, by omega⟩, Int.toNat_natCast]
        rfl
      have hc2 : cut l ((l.length / 2 : Nat) : Int) (l.length : Int) = some (l.drop (l.length / 2)) := by
        unfold cut
        rw [if_pos ⟨by omega, by omega, by omega⟩, Int.toNat_natCast, Int.toNat_natCast, List.take_length]
      obtain ⟨a, a1, a2, a3⟩ := ih (l.take (l.length / 2)) (by rw [List.length_take]; omega) (by rw [List.length_take]; omega)
      obtain ⟨b, b1, b2, b3⟩ := ih (l.drop (l.length / 2)) (by rw [List.length_drop]; omega) (by rw [List.length_drop]; omega)
      have la := a2.len
      have lb := b2.len
      rw [List.length_take] at la
      rw [List.length_drop] at lb
      obtain ⟨m, m1, m2, m3⟩ := merge_ev _ a b [] rfl (by rw [List.length_nil]; omega) a1 b1
      refine ⟨m, m1, Sst.trans ?_ m2, Ev.succ ?_⟩
      · have := a2.app b2
        rwa [List.take_append_drop] at this
      · simp only [r03_Sorted, hd, Bool.false_eq_true, if_false, hm, hc1, hc2, Option.bind_some, Jn]
        refine Ev.bind a3 ?_
        refine Ev.bind b3 ?_
        simpa using m3
theorem sort_both (l : List Entry) (hl : l.length ≤ 4691249611691) : ∃ m, Srt ltE m ∧ Sst ltE l m ∧ Ev (fun k => ikey_Sorted k l) m ∧ Ev (fun k => r03_Sorted k l) m := by
  obtain ⟨m, h1, h2, h3⟩ := isort_ev l hl
  obtain ⟨m', g1, g2, g3⟩ := rsort_ev _ l (Nat.le_refl _) hl
  have : m = m' := Sst.uniq wo_E h1 g1 (h2.symm.trans g2)
  subst this
  exact ⟨m, h1, h2, h3, g3⟩
end Go.Proofs.Ytknedifgapgmbaa.Mo

set_option maxRecDepth 100000
namespace Go.Proofs.Ytknedifgapgmbaa.Mo
open Go Go.Proofs.Ytknedifgapgmbaa.Sy
def itm (q : Int) (e : Entry) : R19_Item := ⟨e, q⟩
def keyE (k : IKey) : Entry := ⟨k.Key, k.Seq, k.Kind, ByteArray.mk #[]⟩
theorem comp_eq (k : Nat) (x y : IKey) : ikey_Compare (k + 4) x y = some (cE (keyE x) (keyE y)) := by
  have := entries_eq k (keyE x) (keyE y)
  unfold ikey_entries at this
  have e : (⟨(keyE x).Key, (keyE x).Seq, (keyE x).Kind⟩ : IKey) = x := by cases x; rfl
  have e2 : (⟨(keyE y).Key, (keyE y).Seq, (keyE y).Kind⟩ : IKey) = y := by cases y; rfl
  rw [e, e2] at this
  cases h : ikey_Compare (k + 4) x y with
  | none => rw [h] at this; cases this
  | some v => rw [h] at this; exact this
theorem rcomp (x y : IKey) : r03_Compare x y = some (cE (keyE x) (keyE y)) := by
  have := rcomp_eq (keyE x) (keyE y)
  cases x; cases y; exact this
def seekN (m : List Entry) (y : Entry) : Nat := (m.takeWhile fun e => decide (cE e y < 0)).length
theorem seekN_le (m : List Entry) (y : Entry) : seekN m y ≤ m.length := by
  unfold seekN
  exact (List.takeWhile_sublist _).length_le
theorem tw_imp {α : Type} {f : α → Bool} {x : α} : ∀ {l : List α}, x ∈ l.takeWhile f → f x = true
  | [], h => by simp at h
  | a :: l, h => by
    rw [List.takeWhile_cons] at h
    split at h
    · rcases List.mem_cons.1 h with e | e
      · subst e; assumption
      · exact tw_imp e
    · simp at h
theorem srt_seek {m : List Entry} (hs : Srt ltE m) (y : Entry) {i : Nat} (hi : i < m.length) : cE m[i] y < 0 ↔ i < seekN m y := by
  have hp := List.pairwise_iff_getElem.1 hs
  unfold seekN
  constructor
  · intro h
    have : ∀ (l : List Entry) (i : Nat) (hi : i < l.length), (∀ j (hj : j < l.length), j ≤ i → cE l[j] y < 0) → i < (l.takeWhile fun e => decide (cE e y < 0)).length := by
      intro l
      induction l with
      | nil => intro i hi; simp at hi
      | cons a l ih =>
        intro i hi h
        have ha : cE a y < 0 := h 0 (by simp) (Nat.zero_le _)
        rw [List.takeWhile_cons, if_pos (decide_eq_true ha), List.length_cons]
        cases i with
        | zero => omega
        | succ i =>
          have := ih i (by simpa using hi) fun j hj hji => h (j + 1) (by simp; omega) (by omega)
          omega
    refine this m i hi fun j hj hji => ?_
    rcases Nat.lt_or_ge j i with hlt | hge
    · have := hp j i hj hi hlt
      exact wo_E.le_lt (x := m[j]) (y := m[i]) (z := y) this h
    · have : j = i := by omega
      subst this; exact h
  · intro h
    have h2 := List.takeWhile_prefix (p := fun e => decide (cE e y < 0)) (l := m)
    have h3 : (m.takeWhile fun e => decide (cE e y < 0))[i]? = m[i]? := by
      obtain ⟨t, ht⟩ := h2
      conv => rhs; rw [← ht]
      rw [List.getElem?_append_left h]
    have hmem : m[i] ∈ m.takeWhile fun e => decide (cE e y < 0) := by
      rw [List.getElem?_eq_getElem hi] at h3
      exact List.mem_of_getElem? h3
    exact of_decide_eq_true (tw_imp (f := fun e => decide (cE e y < 0)) hmem)
theorem rseek_l0 (m : List Entry) (q : Int) (hm : m.length ≤ 3518437208883) (y : IKey) : ∀ (s p : List Entry), m = p ++ s → Ev (fun k => r19_Seek.l0 (m.map (itm q)) y k (p.length : Int)) ((p.length + (s.takeWhile fun e => decide (cE e (keyE y) < 0)).length : Nat) : Int)
  | [], p, hp => by
    have e1 : decide ((p.length : Int) < ((m.map (itm q)).length : Int)) = false := by rw [List.length_map, hp]; exact lt_end p
    refine Ev.succ ?_
    simp only [r19_Seek.l0, e1, Bool.false_eq_true, if_false, Jn]
    exact Ev.ret
  | x :: s, p, hp => by
    have e1 : decide ((p.length : Int) < ((m.map (itm q)).length : Int)) = true := by rw [List.length_map, hp]; exact lt_at p s x
    have e2 : idx (m.map (itm q)) (p.length : Int) = some (itm q x) := by rw [hp, List.map_append, List.map_cons]; have := idx_at (p.map (itm q)) (itm q x) (s.map (itm q)); rwa [List.length_map] at this
    have hw := step_at p s x (by rw [← hp, maxLen_val]; omega)
    refine Ev.succ ?_
    simp only [r19_Seek.l0, e1, e2, if_true, Option.bind_some, Jn, r03_Key, rcomp, hw]
    have hc : cE (keyE (⟨(itm q x).Entry.Key, (itm q x).Entry.Seq, (itm q x).Entry.Kind⟩ : IKey)) (keyE y) = cE x (keyE y) := rfl
    rw [hc, List.takeWhile_cons]
    by_cases h : cE x (keyE y) < 0
    · simp only [decide_eq_true h, if_true, List.length_cons]
      exact (rseek_l0 m q hm y s (p ++ [x]) (by simp [hp])).to (by simp; omega)
    · simp only [decide_eq_false h, Bool.false_eq_true, if_false]
      exact Ev.ret.to (by simp)
theorem rseek_ev (m : List Entry) (q : Int) (hm : m.length ≤ 3518437208883) (y : IKey) : Ev (fun k => r19_Seek k (m.map (itm q)) y) (seekN m (keyE y) : Int) := by
  have := rseek_l0 m q hm y m [] rfl
  simpa [r19_Seek, seekN] using this
theorem bseek_l0 (m : List Entry) (hs : Srt ltE m) (hl : m.length ≤ 3518437208883) (y : IKey) : ∀ (d i j : Nat), j - i ≤ d → i ≤ seekN m (keyE y) → seekN m (keyE y) ≤ j → j ≤ m.length →
    ∃ (b : Bool) (n : Nat), ∀ g : Entry → IKey → Option Int, (∀ e, g e y = some (cE e (keyE y))) → ∀ k, n ≤ k → slices_BinarySearchFunc_IKey.l0 m y g k i j = some ((seekN m (keyE y) : Int), b) := by
  have stop : ∀ i : Nat, i = seekN m (keyE y) → ∃ (b : Bool) (n : Nat), ∀ g : Entry → IKey → Option Int, (∀ e, g e y = some (cE e (keyE y))) → ∀ k, n ≤ k → slices_BinarySearchFunc_IKey.l0 m y g k i i = some ((seekN m (keyE y) : Int), b) := by
    intro i hi
    subst hi
    by_cases hc : seekN m (keyE y) < m.length
    · refine ⟨cE m[seekN m (keyE y)] (keyE y) == 0, 1, fun g hg k hk => ?_⟩
      obtain ⟨k, rfl⟩ : ∃ q, k = q + 1 := ⟨k - 1, by omega⟩
      simp only [slices_BinarySearchFunc_IKey.l0, Int.lt_irrefl, decide_false, Bool.false_eq_true, if_false, Jn, decT hc, if_true, getD_idx hc, Option.bind_some, hg]
    · refine ⟨false, 1, fun g hg k hk => ?_⟩
      obtain ⟨k, rfl⟩ : ∃ q, k = q + 1 := ⟨k - 1, by omega⟩
      simp only [slices_BinarySearchFunc_IKey.l0, Int.lt_irrefl, decide_false, Bool.false_eq_true, if_false, Jn, decF (show m.length ≤ seekN m (keyE y) by omega)]
  intro d
  induction d with
  | zero =>
    intro i j hd h1 h2 h3
    obtain rfl : i = j := by omega
    exact stop i (by omega)
  | succ d ih =>
    intro i j hd h1 h2 h3
    by_cases e : i = j
    · subst e; exact stop i (by omega)
    · have hmid := mid_eq (i := i) (j := j) (by omega)
      have hlt : (i + j) / 2 < m.length := by omega
      have hw : w64 ((((i + j) / 2 : Nat) : Int) + 1) = (((i + j) / 2 + 1 : Nat) : Int) := w64_succ (by omega)
      have hij : decide ((i : Int) < (j : Int)) = true := decide_eq_true (by omega)
      by_cases hc : cE m[(i + j) / 2] (keyE y) < 0
      · have hc' := (srt_seek hs (keyE y) hlt).1 hc
        obtain ⟨b, n, hb⟩ := ih ((i + j) / 2 + 1) j (by omega) (by omega) h2 h3
        refine ⟨b, n + 1, fun g hg k hk => ?_⟩
        obtain ⟨k, rfl⟩ : ∃ q, k = q + 1 := ⟨k - 1, by omega⟩
        simp only [slices_BinarySearchFunc_IKey.l0, hij, if_true, hmid, getD_idx hlt, Option.bind_some, hg, decide_eq_true hc, hw]
        exact hb g hg k (by omega)
      · have hc' : ¬ (i + j) / 2 < seekN m (keyE y) := fun h => hc ((srt_seek hs (keyE y) hlt).2 h)
        obtain ⟨b, n, hb⟩ := ih i ((i + j) / 2) (by omega) h1 (by omega) (by omega)
        refine ⟨b, n + 1, fun g hg k hk => ?_⟩
        obtain ⟨k, rfl⟩ : ∃ q, k = q + 1 := ⟨k - 1, by omega⟩
        simp only [slices_BinarySearchFunc_IKey.l0, hij, if_true, hmid, getD_idx hlt, Option.bind_some, hg, decide_eq_false hc, Bool.false_eq_true, if_false]
        exact hb g hg k (by omega)
theorem bseek_ev (m : List Entry) (hs : Srt ltE m) (hl : m.length ≤ 3518437208883) (y : IKey) : ∃ b, Ev (fun k => slices_BinarySearchFunc_IKey k m y (fun x0 x1 => merge_List_Seek_1 k x0 x1)) ((seekN m (keyE y) : Int), b) := by
  obtain ⟨b, n, hb⟩ := bseek_l0 m hs hl y m.length 0 m.length (by omega) (Nat.zero_le _) (seekN_le m _) (Nat.le_refl _)
  refine ⟨b, n + 4, fun k hk => ?_⟩
  obtain ⟨k, rfl⟩ : ∃ q, k = q + 4 := ⟨k - 4, by omega⟩
  refine hb _ (fun e => ?_) (k + 4) (by omega)
  show merge_List_Seek_1 (k + 4) e y = _
  simp only [merge_List_Seek_1, merge_keyOf, Option.bind_some, comp_eq]
  rfl
theorem all_l1 (a : List Entry) (m : List Entry) (hm : m.length ≤ 3518437208883) (R : List R19_Item) : ∀ (s p : List Entry) (J : Nat → List R19_Item → Int → Option (List R19_Item)), m = p ++ s → Ev (fun k => J k (m.map (itm 0)) 0) R → Ev (fun k => r19_All.l1 [] 0 m (J k) k (p.map (itm 0)) 0 (p.length : Int)) R
  | [], p, J, hp, hJ => by
    have e1 : decide ((p.length : Int) < (m.length : Int)) = false := by rw [hp]; exact lt_end p
    have : p = m := by rw [hp]; simp
    refine Ev.succ ?_
    simp only [r19_All.l1, e1, Bool.false_eq_true, if_false]
    rw [this]
    exact hJ.shift
  | x :: s, p, J, hp, hJ => by
    have e1 : decide ((p.length : Int) < (m.length : Int)) = true := by rw [hp]; exact lt_at p s x
    have e2 : idx m (p.length : Int) = some x := by rw [hp]; exact idx_at p x s
    have hw := step_at p s x (by rw [← hp, maxLen_val]; omega)
    have hpl : p.length + 1 ≤ m.length := by rw [hp]; simp
    have hd : decide ((0 : Int) < ((([] : List R19_Item).length : Nat) : Int)) = false := by decide
    refine Ev.succ ?_
    simp only [r19_All.l1, e1, if_true, Jn]
    refine Ev.succ ?_
    simp only [r19_All.l2, Jn, hd, Bool.false_eq_true, if_false, e2, Option.bind_some, push_ok (show (p.map (itm 0)).length < 4021071095713 by rw [List.length_map]; omega), hw]
    have := all_l1 a m hm R s (p ++ [x]) (fun k => J (k + 1)) (by simp [hp]) hJ.shift
    have e3 : (p ++ [x]).map (itm 0) = p.map (itm 0) ++ [(⟨x, 0⟩ : R19_Item)] := by simp [itm]
    rw [e3] at this
    exact this.shift
theorem all_one (a m : List Entry) (hm : m.length ≤ 3518437208883) (h : Ev (fun k => r03_Sorted k a) m) : Ev (fun k => r19_All k [a]) (m.map (itm 0)) := by
  unfold r19_All
  have h0 : decide ((0 : Int) < (([a].length : Nat) : Int)) = true := rfl
  have h1 : decide ((1 : Int) < (([a].length : Nat) : Int)) = false := rfl
  have i0 : idx [a] 0 = some a := rfl
  have w1 : w64 (0 + 1) = 1 := by decide
  have c0 : cut ([] : List R19_Item) 0 ((([] : List R19_Item).length : Nat) : Int) = some [] := rfl
  refine Ev.succ ?_
  simp only [r19_All.l0, h0, if_true, i0, Option.bind_some, Jn]
  refine Ev.bind h ?_
  refine all_l1 a m hm _ m [] (fun k l_8865 i_8866 => (cut ([] : List R19_Item) i_8866 ((([] : List R19_Item).length : Nat) : Int)).bind fun l27160 => (pushN 4021071095713 l_8865 l27160).bind fun l27161 => r19_All.l0 [a] k l27161 (w64 (0 + 1))) rfl ?_
  simp only [c0, Option.bind_some, pushN_ok (show (m.map (itm 0)).length + ([] : List R19_Item).length ≤ 4021071095713 by rw [List.length_map, List.length_nil]; omega), List.append_nil, w1]
  refine Ev.succ ?_
  simp only [r19_All.l0, h1, Bool.false_eq_true, if_false]
  exact Ev.ret
def here (n : Nat) (at_ : Int) : Bool := decide (0 ≤ at_) && decide (at_ < (n : Int))
def clampI (n : Nat) (x : Int) : Int := minI (maxI x (-1)) (n : Int)
theorem enq (x : Entry) : Entry.eqb x x = true := by cases x; simp [Entry.eqb, sEq_refl]
theorem clamp_in (n : Nat) (x : Int) (h : -1 ≤ x ∧ x ≤ n) : clampI n x = x := by unfold clampI minI maxI; (repeat' split) <;> omega
theorem lists_l1 (mv : List L19_Move) (m : List Entry) (hs : Srt ltE m) (hm : m.length ≤ 3518437208883) (hmv : mv.length ≤ 3518437208883) : ∀ (s p : List L19_Move) (at_ : Int), mv = p ++ s → -1 ≤ at_ → at_ ≤ m.length →
    Ev (fun k => l19_MergeLists.l1 mv m (m.map (itm 0)) k at_ at_ (p.length : Int)) true
  | s, p, at_, hp, h1, h2 => by
    have hlen : (m.map (itm 0)).length = m.length := List.length_map _
    -- behind the look at where it stands
    have rest : Ev (fun k => if ((p.length : Int) == (mv.length : Int)) = true then (some true) else ((idx mv (p.length : Int)).bind fun x1045 => Jn (fun (i_258 : Int) (b_259 : Bool) => (idx mv (p.length : Int)).bind fun x1036 => (idx mv (p.length : Int)).bind fun x1037 => (r19_Seek k (m.map (itm 0)) x1037.Key).bind fun r1038 => (r11_Move (m.length : Int) at_ x1036.Kind r1038).bind fun r1040 => if (!(b_259 == here m.length r1040)) = true then (some false) else (l19_MergeLists.l1 mv m (m.map (itm 0)) k i_258 r1040 (w64 ((p.length : Int) + 1)))) (fun J_261 => if (x1045.Kind == 0) = true then (J_261 (clampI m.length 0) (here m.length (clampI m.length 0))) else (if (x1045.Kind == 1) = true then (J_261 (clampI m.length (w64 ((m.length : Int) - 1))) (here m.length (clampI m.length (w64 ((m.length : Int) - 1))))) else (if (x1045.Kind == 2) = true then ((idx mv (p.length : Int)).bind fun x1061 => (slices_BinarySearchFunc_IKey k m x1061.Key (fun x0 x1 => merge_List_Seek_1 k x0 x1)).bind fun r1064 => J_261 (clampI m.length r1064.1) (here m.length (clampI m.length r1064.1))) else (if (x1045.Kind == 3) = true then (J_261 (clampI m.length (w64 (at_ + 1))) (here m.length (clampI m.length (w64 (at_ + 1))))) else (if (x1045.Kind == 4) = true then (J_261 (clampI m.length (w64 (at_ - 1))) (here m.length (clampI m.length (w64 (at_ - 1))))) else (l19_MergeLists.l1 mv m (m.map (itm 0)) k at_ at_ (w64 ((p.length : Int) + 1)))))))))) true := by
      cases s with
      | nil =>
        have : ((p.length : Int) == (mv.length : Int)) = true := by rw [hp]; simp
        simp only [this, if_true]
        exact Ev.ret
      | cons v s =>
        have hpl : p.length + 1 ≤ mv.length := by rw [hp]; simp
        have hne : ((p.length : Int) == (mv.length : Int)) = false := by rw [hp]; simp; omega
        have e2 : idx mv (p.length : Int) = some v := by rw [hp]; exact idx_at p v s
        have hw := step_at p s v (by rw [← hp, maxLen_val]; omega)
        have hsk := seekN_le m (keyE v.Key)
        simp only [hne, Bool.false_eq_true, if_false, e2, Option.bind_some, Jn, hw]
        -- a call: both go to the same place
        have go : ∀ (x : Int), -1 ≤ x → x ≤ m.length → r11_Move (m.length : Int) at_ v.Kind (seekN m (keyE v.Key) : Int) = some x → Ev (fun k => (r19_Seek k (m.map (itm 0)) v.Key).bind fun r1038 => (r11_Move (m.length : Int) at_ v.Kind r1038).bind fun r1040 => if (!(here m.length (clampI m.length x) == here m.length r1040)) = true then (some false) else (l19_MergeLists.l1 mv m (m.map (itm 0)) k (clampI m.length x) r1040 ((p ++ [v]).length : Int))) true := fun x hx1 hx2 hmove => by
          refine Ev.bind (rseek_ev m 0 hm v.Key) ?_
          refine Ev.bind0 hmove ?_
          simp only [clamp_in m.length x ⟨hx1, hx2⟩, beq_self_eq_true, Bool.not_true, Bool.false_eq_true, if_false]
          exact lists_l1 mv m hs hm hmv s (p ++ [v]) x (by simp [hp]) hx1 hx2
        by_cases k0 : v.Kind = 0
        · simp only [k0, beq_self_eq_true, if_true]
          have := go 0 (by omega) (by omega) (by simp [r11_Move, k0, Jn])
          rw [k0] at this
          exact this
        have k0' : (v.Kind == 0) = false := by simp [k0]
        simp only [k0', Bool.false_eq_true, if_false]
        by_cases k1 : v.Kind = 1
        · simp only [k1, beq_self_eq_true, if_true]
          have hw1 : w64 ((m.length : Int) - 1) = (m.length : Int) - 1 := w64_of (by omega) (by omega)
          have := go ((m.length : Int) - 1) (by omega) (by omega) (by simp [r11_Move, k1, Jn, hw1])
          rw [k1] at this
          rw [hw1]
          exact this
        have k1' : (v.Kind == 1) = false := by simp [k1]
        simp only [k1', Bool.false_eq_true, if_false]
        by_cases k2 : v.Kind = 2
        · simp only [k2, beq_self_eq_true, if_true]
          obtain ⟨b, hb⟩ := bseek_ev m hs hm v.Key
          refine Ev.bind hb ?_
          have := go (seekN m (keyE v.Key) : Int) (by omega) (by omega) (by simp [r11_Move, k2, Jn])
          rw [k2] at this
          exact this
        have k2' : (v.Kind == 2) = false := by simp [k2]
        simp only [k2', Bool.false_eq_true, if_false]
        by_cases k3 : v.Kind = 3
        · simp only [k3, beq_self_eq_true, if_true]
          have hw1 : w64 (at_ + 1) = at_ + 1 := w64_of (by omega) (by omega)
          rw [hw1]
          by_cases hlt : at_ < m.length
          · have := go (at_ + 1) (by omega) (by omega) (by simp [r11_Move, k3, Jn, hlt, hw1])
            rw [k3] at this
            exact this
          · have hc : clampI m.length (at_ + 1) = clampI m.length at_ := by unfold clampI minI maxI; (repeat' split) <;> omega
            rw [hc]
            have := go at_ h1 h2 (by simp [r11_Move, k3, Jn, hlt])
            rw [k3] at this
            exact this
        have k3' : (v.Kind == 3) = false := by simp [k3]
        simp only [k3', Bool.false_eq_true, if_false]
        by_cases k4 : v.Kind = 4
        · simp only [k4, beq_self_eq_true, if_true]
          have hw1 : w64 (at_ - 1) = at_ - 1 := w64_of (by omega) (by omega)
          rw [hw1]
          by_cases hge : 0 ≤ at_
          · have := go (at_ - 1) (by omega) (by omega) (by simp [r11_Move, k4, Jn, hge, hw1])
            rw [k4] at this
            exact this
          · have hc : clampI m.length (at_ - 1) = clampI m.length at_ := by unfold clampI minI maxI; (repeat' split) <;> omega
            rw [hc]
            have := go at_ h1 h2 (by simp [r11_Move, k4, Jn, hge])
            rw [k4] at this
            exact this
        have k4' : (v.Kind == 4) = false := by simp [k4]
        simp only [k4', Bool.false_eq_true, if_false]
        exact lists_l1 mv m hs hm hmv s (p ++ [v]) at_ (by simp [hp]) h1 h2
    have rest' := rest
    refine Ev.succ ?_
    simp only [l19_MergeLists.l1, Jn, hlen]
    by_cases hin : 0 ≤ at_ ∧ at_ < m.length
    · obtain ⟨j, rfl⟩ : ∃ j : Nat, at_ = j := ⟨at_.toNat, by omega⟩
      have hj : j < m.length := by omega
      have c1 : (decide ((j : Int) < 0) || decide ((m.length : Int) ≤ (j : Int))) = false := by
        rw [decide_eq_false (by omega), decide_eq_false (by omega)]; rfl
      have c2 : (decide ((0 : Int) ≤ (j : Int)) && decide ((j : Int) < (m.length : Int))) = true := by
        rw [decide_eq_true (by omega), decide_eq_true (by omega)]; rfl
      have i1 : idx m (j : Int) = some m[j] := getD_idx hj
      have i2 : idx (m.map (itm 0)) (j : Int) = some (itm 0 m[j]) := by rw [idx_nat, List.getElem?_map, List.getElem?_eq_getElem hj]; rfl
      simp only [c1, c2, Bool.false_eq_true, if_false, if_true, i1, i2, Option.bind_some, beq_self_eq_true, Bool.not_true, itm, enq, Bool.false_and, Bool.or_self]
      exact rest
    · have c1 : (decide (at_ < 0) || decide ((m.length : Int) ≤ at_)) = true := by
        by_cases h : at_ < 0
        · rw [decide_eq_true h]; rfl
        · rw [decide_eq_true (show (m.length : Int) ≤ at_ by omega), Bool.or_true]
      have c2 : (decide ((0 : Int) ≤ at_) && decide (at_ < (m.length : Int))) = false := by
        rw [Bool.eq_false_iff]
        intro h
        simp only [Bool.and_eq_true, decide_eq_true_eq] at h
        exact hin h
      simp only [c1, c2, Bool.false_eq_true, if_false, if_true, beq_self_eq_true, Bool.not_true, Bool.not_false, enq, Bool.and_false, Bool.true_and, Bool.or_self]
      exact rest
theorem lists_l0 (a : List Entry) (mv : List L19_Move) (m : List Entry) (hs : Srt ltE m) (hm : m.length ≤ 3518437208883) (hmv : mv.length ≤ 3518437208883) (hr : Ev (fun k => r03_Sorted k a) m) : ∀ (s p : List Entry), (p ++ s).length ≤ 3518437208883 → Ev (fun k => l19_MergeLists.l0 a mv m k (p ++ s) (p.length : Int)) true
  | [], p, hp => by
    refine Ev.succ ?_
    simp only [l19_MergeLists.l0, lt_end, Bool.false_eq_true, if_false]
    refine Ev.bind (all_one a m hm hr) ?_
    exact lists_l1 mv m hs hm hmv mv [] (-1) rfl (by omega) (by omega)
  | x :: s, p, hp => by
    refine Ev.succ ?_
    simp only [l19_MergeLists.l0, lt_at, idx_at, upd_at, if_true, Option.bind_some, step_at p s x (by rw [maxLen_val]; omega)]
    have := lists_l0 a mv m hs hm hmv hr s (p ++ [(⟨(ByteArray.mk #[115, 112, 111, 105, 108, 116]), 0, 0, (ByteArray.mk #[])⟩ : Entry)]) (by simp at hp ⊢; omega)
    simpa using this
theorem lists_law (a : List Entry) (ha : a.length ≤ 3518437208883) (mv : List L19_Move) (hmv : mv.length ≤ 3518437208883) : Ev (fun k => l19_MergeLists k a mv) true := by
  obtain ⟨m, m1, m2, m3, m4⟩ := sort_both a (by omega)
  have hml : m.length = a.length := m2.len.symm
  unfold l19_MergeLists
  refine Ev.bind0 (pushN_ok (show ([] : List Entry).length + a.length ≤ 4691249611691 by rw [List.length_nil]; omega)) ?_
  rw [List.nil_append]
  refine Ev.bind m3 ?_
  exact lists_l0 a mv m m1 (by omega) hmv m4 a [] (by simpa using ha)
end Go.Proofs.Ytknedifgapgmbaa.Mo
