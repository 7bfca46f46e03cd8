import Derived.Test.YtknedifgapgmbaaMgSt
import Derived.Test.YtknedifgapgmbaaSyEv
import Derived.Test.YtknedifgapgmbaaSyUq
import Derived.Test.YtknedifgapgmbaaSyArr
set_option linter.unusedVariables false
set_option linter.unusedSectionVars false
set_option linter.unusedSimpArgs false
set_option maxRecDepth 100000
namespace Go.Proofs.Ytknedifgapgmbaa.Mo
open Go Go.Proofs.Ytknedifgapgmbaa.Sy
def cE (a b : Entry) : Int := if slt a.Key b.Key then -1 else if slt b.Key a.Key then 1 else if b.Seq < a.Seq then -1 else if a.Seq < b.Seq then 1 else if b.Kind < a.Kind then -1 else if a.Kind < b.Kind then 1 else 0
abbrev ltE : Entry → Entry → Prop := ltcEntry cE
theorem ltE_iff {a b : Entry} : ltE a b ↔ slt a.Key b.Key ∨ (a.Key = b.Key ∧ (b.Seq < a.Seq ∨ (a.Seq = b.Seq ∧ b.Kind < a.Kind))) := by
  show cE a b < 0 ↔ _
  unfold cE
  rcases slt_tri a.Key b.Key with h | h | h
  · simp [h]
  · rw [h]
    simp only [slt_irrefl, if_false, false_or, true_and]
    split
    · simp [*]
    · split
      · constructor
        · intro h; omega
        · rintro (h | ⟨h, _⟩) <;> omega
      · split
        · constructor
          · intro _; exact .inr ⟨by omega, by assumption⟩
          · intro _; omega
        · split
          · constructor
            · intro h; omega
            · rintro (h | ⟨_, h⟩) <;> omega
          · constructor
            · intro h; omega
            · rintro (h | ⟨_, h⟩) <;> omega
  · have h1 := slt_asymm h
    have h2 : a.Key ≠ b.Key := fun e => by rw [e] at h; exact slt_irrefl _ h
    simp [h, h1, h2]
theorem wo_E : Wo ltE := by
  refine ⟨fun x y h k => ?_, fun x y z h k => ?_⟩
  · rw [ltE_iff] at h k
    rcases h with h | ⟨e, h⟩
    · rcases k with k | ⟨e, _⟩
      · exact slt_asymm h k
      · rw [e] at h; exact slt_irrefl _ h
    · rcases k with k | ⟨_, k⟩
      · rw [e] at k; exact slt_irrefl _ k
      · omega
  · rw [ltE_iff] at h k ⊢
    rintro (g | ⟨e, g⟩)
    · rcases slt_tri x.Key y.Key with h1 | h1 | h1
      · exact h (.inl h1)
      · rw [h1] at g; exact k (.inl g)
      · exact k (.inl (slt_trans h1 g))
    · rcases slt_tri x.Key y.Key with h1 | h1 | h1
      · exact h (.inl h1)
      · have h2 : ¬ (y.Seq < x.Seq ∨ (x.Seq = y.Seq ∧ y.Kind < x.Kind)) := fun c => h (.inr ⟨h1, c⟩)
        have k2 : ¬ (z.Seq < y.Seq ∨ (y.Seq = z.Seq ∧ z.Kind < y.Kind)) := fun c => k (.inr ⟨h1.symm.trans e, c⟩)
        omega
      · rw [e] at h1; exact k (.inl h1)
theorem entries_eq (k : Nat) (a b : Entry) : ikey_entries (k + 4) a b = some (cE a b) := by
  have w1 : w64 (0 + 1) = 1 := by decide
  have w2 : w64 (1 + 1) = 2 := by decide
  have w3 : w64 (2 + 1) = 3 := by decide
  have key : ∀ p q r : Int, cmp_Or_int (k + 4) [p, q, r] = some (if p ≠ 0 then p else if q ≠ 0 then q else if r ≠ 0 then r else 0) := by
    intro p q r
    have i0 : idx [p, q, r] 0 = some p := rfl
    have i1 : idx [p, q, r] 1 = some q := rfl
    have i2 : idx [p, q, r] 2 = some r := rfl
    have l0 : decide ((0 : Int) < ([p, q, r].length : Int)) = true := rfl
    have l1 : decide ((1 : Int) < ([p, q, r].length : Int)) = true := rfl
    have l2 : decide ((2 : Int) < ([p, q, r].length : Int)) = true := rfl
    have l3 : decide ((3 : Int) < ([p, q, r].length : Int)) = false := rfl
    simp only [cmp_Or_int, cmp_Or_int.l0, i0, i1, i2, l0, l1, l2, l3, if_true, Option.bind_some, w1, w2, w3, bne_iff_ne, Bool.false_eq_true, if_false]
    split
    · rfl
    · split
      · rfl
      · split <;> rfl
  unfold ikey_entries ikey_Compare
  simp only [strings_Compare, internal_bytealg_CompareString, Option.bind_some]
  have hu : cmp_Compare_uint64 b.Seq a.Seq = some (if b.Seq < a.Seq then -1 else if a.Seq < b.Seq then 1 else 0) := by
    simp only [cmp_Compare_uint64, cmp_isNaN_uint64, bne_self_eq_false, Option.bind_some, Bool.false_eq_true, if_false, decide_eq_true_eq]
    split
    · rfl
    · split <;> rfl
  have hi : cmp_Compare_int b.Kind a.Kind = some (if b.Kind < a.Kind then -1 else if a.Kind < b.Kind then 1 else 0) := by
    simp only [cmp_Compare_int, cmp_isNaN_int, bne_self_eq_false, Option.bind_some, Bool.false_eq_true, if_false, decide_eq_true_eq]
    split
    · rfl
    · split <;> rfl
  rw [hu, hi]
  simp only [Option.bind_some, key]
  congr 1
  unfold cE ordS
  simp only [sLt_iff]
  by_cases h1 : slt a.Key b.Key
  · simp [h1]
  · by_cases h2 : slt b.Key a.Key
    · simp [h1, h2]
    · by_cases h3 : b.Seq < a.Seq
      · simp [h1, h2, h3]
      · by_cases h4 : a.Seq < b.Seq
        · simp [h1, h2, h3, h4]
        · by_cases h5 : b.Kind < a.Kind
          · simp [h1, h2, h3, h4, h5]
          · by_cases h6 : a.Kind < b.Kind
            · simp [h1, h2, h3, h4, h5, h6]
            · simp [h1, h2, h3, h4, h5, h6]
theorem rcomp_eq (a b : Entry) : r03_Compare (⟨a.Key, a.Seq, a.Kind⟩ : IKey) (⟨b.Key, b.Seq, b.Kind⟩ : IKey) = some (cE a b) := by
  unfold r03_Compare cE
  rcases slt_tri a.Key b.Key with h | h | h
  · have hne : sEq a.Key b.Key = false := by
      rw [Bool.eq_false_iff, ne_eq, sEq_iff]
      intro e; rw [e] at h; exact slt_irrefl _ h
    simp [hne, h, sLt_iff.2 h]
  · have he : sEq a.Key b.Key = true := sEq_iff.2 h
    rw [h] at he ⊢
    simp only [he, slt_irrefl, Bool.not_true, Bool.false_eq_true, if_false]
    by_cases h3 : b.Seq < a.Seq
    · have : a.Seq ≠ b.Seq := by omega
      simp [this, h3]
    · by_cases h4 : a.Seq < b.Seq
      · have : a.Seq ≠ b.Seq := by omega
        simp [this, h3, h4]
      · have e2 : a.Seq = b.Seq := by omega
        by_cases h5 : b.Kind < a.Kind
        · have : a.Kind ≠ b.Kind := by omega
          simp [e2, this, h5]
        · by_cases h6 : a.Kind < b.Kind
          · have : a.Kind ≠ b.Kind := by omega
            simp [e2, this, h5, h6]
          · have e3 : a.Kind = b.Kind := by omega
            simp [e2, e3]
  · have hne : sEq a.Key b.Key = false := by
      rw [Bool.eq_false_iff, ne_eq, sEq_iff]
      intro e; rw [e] at h; exact slt_irrefl _ h
    have h1 := slt_asymm h
    simp [hne, h, h1, sLt_false.2 h1]
theorem isort_ev (l : List Entry) (hl : l.length ≤ 4691249611691) : ∃ m, Srt ltE m ∧ Sst ltE l m ∧ Ev (fun k => ikey_Sorted k l) m := by
  obtain ⟨m, h1, h2, n, h3⟩ := stable_Entry (cmp := fun x y => some (cE x y)) (c := cE) (fun _ _ => rfl) wo_E l (by omega)
  refine ⟨m, h1, h2, n + 4, fun k hk => ?_⟩
  obtain ⟨j, rfl⟩ : ∃ j, k = j + 4 := ⟨k - 4, by omega⟩
  have e : (fun x0 x1 => ikey_entries (j + 4) x0 x1) = fun x y => some (cE x y) := by
    funext x y; exact entries_eq j x y
  unfold ikey_Sorted
  simp only [slices_Clone_Entry, pushN_ok (show ([] : List Entry).length + l.length ≤ 4691249611691 by rw [List.length_nil]; omega), Option.bind_some, List.nil_append, e]
  have := h3 (j + 4) (by omega)
  simp only at this
  rw [this]
  rfl
theorem merge_ev : ∀ (n : Nat) (a b out : List Entry), a.length + b.length = n → out.length + a.length + b.length ≤ 4691249611691 → Srt ltE a → Srt ltE b →
    ∃ m, Srt ltE m ∧ Sst ltE (a ++ b) m ∧ Ev (fun k => r03_Sorted.l0 (fun l_34 l_37 l_41 => (pushN 4691249611691 l_41 l_34).bind fun l114 => (pushN 4691249611691 l114 l_37).bind fun l117 => some l117) k a b out) (out ++ m) := by
  have stop : ∀ (a b out : List Entry), (a = [] ∨ b = []) → out.length + a.length + b.length ≤ 4691249611691 → Ev (fun k => r03_Sorted.l0 (fun l_34 l_37 l_41 => (pushN 4691249611691 l_41 l_34).bind fun l114 => (pushN 4691249611691 l114 l_37).bind fun l117 => some l117) k a b out) (out ++ (a ++ b)) := by
    intro a b out h hl
    refine Ev.succ ?_
    have hc : (decide (0 < (a.length : Int)) && decide (0 < (b.length : Int))) = false := by
      rcases h with rfl | rfl <;> simp
    simp only [r03_Sorted.l0, hc, Bool.false_eq_true, if_false, pushN_ok (show out.length + a.length ≤ 4691249611691 by omega), Option.bind_some, pushN_ok (show (out ++ a).length + b.length ≤ 4691249611691 by rw [List.length_append]; omega)]
    rw [List.append_assoc]
    exact Ev.ret
  intro n
  induction n with
  | zero =>
    intro a b out hn hl ha hb
    have : a = [] := List.eq_nil_of_length_eq_zero (by omega)
    subst this
    exact ⟨b, hb, Sst.refl b, stop [] b out (.inl rfl) hl⟩
  | succ n ih =>
    intro a b out hn hl ha hb
    cases a with
    | nil => exact ⟨b, hb, Sst.refl b, stop [] b out (.inl rfl) hl⟩
    | cons x a =>
      cases b with
      | nil => exact ⟨x :: a, ha, by rw [List.append_nil]; exact Sst.refl _, by have := stop (x :: a) [] out (.inr rfl) hl; rwa [List.append_nil] at this⟩
      | cons y b =>
        have ha' := List.pairwise_cons.1 ha
        have hb' := List.pairwise_cons.1 hb
        simp only [List.length_cons] at hn hl
        have hc : (decide (0 < ((x :: a).length : Int)) && decide (0 < ((y :: b).length : Int))) = true := by simp
        have i1 : idx (x :: a) 0 = some x := rfl
        have i2 : idx (y :: b) 0 = some y := rfl
        have c1 : ∀ (z : Entry) (t : List Entry), cut (z :: t) 1 ((z :: t).length : Int) = some t := fun z t => by
          unfold cut
          rw [if_pos ⟨by omega, by simp; omega, by omega⟩]
          simp
        by_cases hle : cE x y ≤ 0
        · have hyx : ¬ ltE y x := by
            intro h
            have := wo_E.asymm _ _ h
            rw [ltE_iff] at h this
            by_cases e : cE x y = 0
            · unfold cE at e
              rcases h with h | ⟨h0, h⟩
              · have := slt_asymm h
                simp [h, this] at e
              · rw [h0] at e
                simp only [slt_irrefl, if_false] at e
                split at e
                · omega
                · split at e
                  · omega
                  · split at e
                    · omega
                    · split at e <;> omega
            · exact wo_E.asymm _ _ (show ltE x y from (by show cE x y < 0; omega)) (ltE_iff.2 h)
          obtain ⟨m, m1, m2, m3⟩ := ih a (y :: b) (out ++ [x]) (by simp; omega) (by simp; omega) ha'.2 hb
          refine ⟨x :: m, List.pairwise_cons.2 ⟨fun z hz => ?_, m1⟩, by have := (Sst.refl [x]).app m2; simpa using this, Ev.succ ?_⟩
          · have hz' := m2.1.mem_iff.2 hz
            rcases List.mem_append.1 hz' with hz' | hz'
            · exact ha'.1 z hz'
            · rcases List.mem_cons.1 hz' with rfl | hz'
              · exact hyx
              · exact wo_E.neg z y x (hb'.1 z hz') hyx
          · simp only [r03_Sorted.l0, hc, if_true, i1, i2, r03_Key, Option.bind_some, rcomp_eq, hle, decide_true, push_ok (show out.length < 4691249611691 by omega), c1]
            simpa using m3
        · have hyx : ltE y x := by
            rw [ltE_iff]
            unfold cE at hle
            rcases slt_tri x.Key y.Key with h | h | h
            · simp [h] at hle
            · right
              rw [h] at hle
              simp only [slt_irrefl, if_false] at hle
              refine ⟨h.symm, ?_⟩
              split at hle
              · omega
              · split at hle
                · left; assumption
                · split at hle
                  · omega
                  · split at hle
                    · right; exact ⟨by omega, by assumption⟩
                    · omega
            · exact .inl h
          obtain ⟨m, m1, m2, m3⟩ := ih (x :: a) b (out ++ [y]) (by simp; omega) (by simp; omega) ha hb'.2
          have hall : ∀ z ∈ x :: a, ltE y z := fun z hz => by
            rcases List.mem_cons.1 hz with rfl | hz
            · exact hyx
            · exact wo_E.lt_le hyx (ha'.1 z hz)
          refine ⟨y :: m, List.pairwise_cons.2 ⟨fun z hz => ?_, m1⟩, ?_, Ev.succ ?_⟩
          · have hz' := m2.1.mem_iff.2 hz
            rcases List.mem_append.1 hz' with hz' | hz'
            · exact wo_E.asymm _ _ (hall z hz')
            · exact hb'.1 z hz'
          · have h1 : Sst ltE ((x :: a) ++ [y]) ([y] ++ (x :: a)) := Sst.swap wo_E (fun z hz w hw => by simp at hw; subst hw; exact hall z hz)
            have h2 := h1.app (Sst.refl b)
            have h3 := (Sst.refl [y]).app m2
            refine Sst.trans (b := [y] ++ (x :: a) ++ b) (by simpa using h2) (by simpa using h3)
          · simp only [r03_Sorted.l0, hc, if_true, i1, i2, r03_Key, Option.bind_some, rcomp_eq, hle, decide_false, Bool.false_eq_true, if_false, push_ok (show out.length < 4691249611691 by omega), c1]
            simpa using m3
theorem rsort_ev : ∀ (n : Nat) (l : List Entry), l.length ≤ n → l.length ≤ 4691249611691 → ∃ m, Srt ltE m ∧ Sst ltE l m ∧ Ev (fun k => r03_Sorted k l) m := by
  intro n
  induction n with
  | zero =>
    intro l hn hl
    have : l = [] := List.eq_nil_of_length_eq_zero (by omega)
    subst this
    exact ⟨[], Srt.nil, Sst.refl _, Ev.succ Ev.ret⟩
  | succ n ih =>
    intro l hn hl
    by_cases h2 : l.length < 2
    · refine ⟨l, ?_, Sst.refl l, Ev.succ ?_⟩
      · match l, h2 with
        | [], _ => exact Srt.nil
        | [x], _ => exact Srt.one x
      · have hd : decide ((l.length : Int) < 2) = true := decide_eq_true (by omega)
        simp only [r03_Sorted, hd, if_true, pushN_ok (show ([] : List Entry).length + l.length ≤ 4691249611691 by rw [List.length_nil]; omega), Option.bind_some, List.nil_append]
        exact Ev.ret
    · have hd : decide ((l.length : Int) < 2) = false := decide_eq_false (by omega)
      have hm : w64 (Int.tdiv (l.length : Int) 2) = ((l.length / 2 : Nat) : Int) := by
        have : Int.tdiv (l.length : Int) 2 = ((l.length / 2 : Nat) : Int) := by
          rw [Int.tdiv_eq_ediv_of_nonneg (by omega)]; omega
        rw [this]; exact w64_of (by omega) (by omega)
      have hc1 : cut l 0 ((l.length / 2 : Nat) : Int) = some (l.take (l.length / 2)) := by
        unfold cut
        rw [if_pos ⟨by omega, by omega, by omega⟩, Int.toNat_natCast]
        rfl
      have hc2 : cut l ((l.length / 2 : Nat) : Int) (l.length : Int) = some (l.drop (l.length / 2)) := by
        unfold cut
        rw [if_pos ⟨by omega, by omega, by omega⟩, Int.toNat_natCast, Int.toNat_natCast, List.take_length]
      obtain ⟨a, a1, a2, a3⟩ := ih (l.take (l.length / 2)) (by rw [List.length_take]; omega) (by rw [List.length_take]; omega)
      obtain ⟨b, b1, b2, b3⟩ := ih (l.drop (l.length / 2)) (by rw [List.length_drop]; omega) (by rw [List.length_drop]; omega)
      have la := a2.len
      have lb := b2.len
      rw [List.length_take] at la
      rw [List.length_drop] at lb
      obtain ⟨m, m1, m2, m3⟩ := merge_ev _ a b [] rfl (by rw [List.length_nil]; omega) a1 b1
      refine ⟨m, m1, Sst.trans ?_ m2, Ev.succ ?_⟩
      · have := a2.app b2
        rwa [List.take_append_drop] at this
      · simp only [r03_Sorted, hd, Bool.false_eq_true, if_false, hm, hc1, hc2, Option.bind_some, Jn]
        refine Ev.bind a3 ?_
        refine Ev.bind b3 ?_
        simpa using m3
theorem sort_both (l : List Entry) (hl : l.length ≤ 4691249611691) : ∃ m, Srt ltE m ∧ Sst ltE l m ∧ Ev (fun k => ikey_Sorted k l) m ∧ Ev (fun k => r03_Sorted k l) m := by
  obtain ⟨m, h1, h2, h3⟩ := isort_ev l hl
  obtain ⟨m', g1, g2, g3⟩ := rsort_ev _ l (Nat.le_refl _) hl
  have : m = m' := Sst.uniq wo_E h1 g1 (h2.symm.trans g2)
  subst this
  exact ⟨m, h1, h2, h3, g3⟩
end Go.Proofs.Ytknedifgapgmbaa.Mo

set_option maxRecDepth 100000
namespace Go.Proofs.Ytknedifgapgmbaa.Mo
open Go Go.Proofs.Ytknedifgapgmbaa.Sy
def itm (q : Int) (e : Entry) : R19_Item := ⟨e, q⟩
def keyE (k : IKey) : Entry := ⟨k.Key, k.Seq, k.Kind, ByteArray.mk #[]⟩
theorem comp_eq (k : Nat) (x y : IKey) : ikey_Compare (k + 4) x y = some (cE (keyE x) (keyE y)) := by
  have := entries_eq k (keyE x) (keyE y)
  unfold ikey_entries at this
  have e : (⟨(keyE x).Key, (keyE x).Seq, (keyE x).Kind⟩ : IKey) = x := by cases x; rfl
  have e2 : (⟨(keyE y).Key, (keyE y).Seq, (keyE y).Kind⟩ : IKey) = y := by cases y; rfl
  rw [e, e2] at this
  cases h : ikey_Compare (k + 4) x y with
  | none => rw [h] at this; cases this
  | some v => rw [h] at this; exact this
theorem tw_imp {α : Type} {f : α → Bool} {x : α} : ∀ {l : List α}, x ∈ l.takeWhile f → f x = true
  | [], h => by simp at h
  | a :: l, h => by
    rw [List.takeWhile_cons] at h
    split at h
    · rcases List.mem_cons.1 h with e | e
      · subst e; assumption
      · exact tw_imp e
    · simp at h
def clampI (n : Nat) (x : Int) : Int := minI (maxI x (-1)) (n : Int)
theorem enq (x : Entry) : Entry.eqb x x = true := by cases x; simp [Entry.eqb, sEq_refl]
theorem clamp_in (n : Nat) (x : Int) (h : -1 ≤ x ∧ x ≤ n) : clampI n x = x := by unfold clampI minI maxI; (repeat' split) <;> omega
end Go.Proofs.Ytknedifgapgmbaa.Mo

set_option maxRecDepth 100000
namespace Go.Proofs.Ytknedifgapgmbaa.Mo
open Go Go.Proofs.Ytknedifgapgmbaa.Sy
theorem cE_anti (a b : Entry) : 0 < cE a b ↔ cE b a < 0 := by
  unfold cE
  rcases slt_tri a.Key b.Key with h | h | h
  · have h1 := slt_asymm h
    simp [h, h1]
  · rw [h]
    simp only [slt_irrefl, if_false]
    by_cases h3 : b.Seq < a.Seq
    · have : ¬ a.Seq < b.Seq := by omega
      simp [h3, this]
    · by_cases h4 : a.Seq < b.Seq
      · simp [h3, h4]
      · by_cases h5 : b.Kind < a.Kind
        · have : ¬ a.Kind < b.Kind := by omega
          simp [h3, h4, h5, this]
        · by_cases h6 : a.Kind < b.Kind
          · simp [h3, h4, h5, h6]
          · simp [h3, h4, h5, h6]
  · have h1 := slt_asymm h
    simp [h, h1]
theorem cE_le {a b : Entry} : cE a b ≤ 0 ↔ ¬ ltE b a := by
  show _ ↔ ¬ cE b a < 0
  rw [← cE_anti]
  omega
def leB (x : Entry) (o : R19_Item) : Bool := decide (cE o.Entry x ≤ 0)
/-- A list's entries go in among those that are there. -/
def mg (q : Int) : List R19_Item → List Entry → List R19_Item × List R19_Item
  | r, [] => ([], r)
  | r, x :: xs => (r.takeWhile (leB x) ++ itm q x :: (mg q (r.dropWhile (leB x)) xs).1, (mg q (r.dropWhile (leB x)) xs).2)
def mgA (q : Int) (r : List R19_Item) (s : List Entry) : List R19_Item := (mg q r s).1 ++ (mg q r s).2
theorem mgA_nil (q : Int) (r : List R19_Item) : mgA q r [] = r := rfl
theorem mgA_cons (q : Int) (r : List R19_Item) (x : Entry) (xs : List Entry) : mgA q r (x :: xs) = r.takeWhile (leB x) ++ itm q x :: mgA q (r.dropWhile (leB x)) xs := by
  unfold mgA
  rw [mg]
  simp
def allOut : Int → List R19_Item → List (List Entry) → List R19_Item
  | _, out, [] => out
  | q, out, s :: r => allOut (q + 1) (mgA q out s) r
end Go.Proofs.Ytknedifgapgmbaa.Mo

set_option maxRecDepth 100000
namespace Go.Proofs.Ytknedifgapgmbaa.Mo
open Go Go.Proofs.Ytknedifgapgmbaa.Sy
section
variable {α : Type} {d : α} {lt : α → α → Prop} [DecidableRel lt]
/-- The first one at the front. -/
def Heap (d : α) (lt : α → α → Prop) (l : List α) : Prop := ∀ c, 0 < c → c < l.length → ¬ lt (A d l c) (A d l ((c - 1) / 2))
theorem Heap.top (hw : Wo lt) {l : List α} (h : Heap d lt l) : ∀ c, c < l.length → ¬ lt (A d l c) (A d l 0) := by
  intro c
  induction c using Nat.strongRecOn with
  | _ c ih =>
    intro hc
    by_cases h0 : c = 0
    · subst h0; exact hw.irr _
    · exact hw.neg _ _ _ (h c (by omega) hc) (ih ((c - 1) / 2) (by omega) (by omega))
def UpOk (d : α) (lt : α → α → Prop) (l : List α) (i : Nat) : Prop :=
  (∀ c, 0 < c → c < l.length → c ≠ i → ¬ lt (A d l c) (A d l ((c - 1) / 2))) ∧ ∀ c, 0 < c → c < l.length → (c - 1) / 2 = i → 0 < i → ¬ lt (A d l c) (A d l ((i - 1) / 2))
theorem UpOk.swap (hw : Wo lt) {l : List α} {i : Nat} (h0 : 0 < i) (hi : i < l.length) (hc : lt (A d l i) (A d l ((i - 1) / 2))) (h : UpOk d lt l i) : UpOk d lt (swp d l ((i - 1) / 2) i) ((i - 1) / 2) := by
  have hp : (i - 1) / 2 < l.length := by omega
  have hA := A_swp (d := d) hp hi
  refine ⟨fun c h1 h2 h3 => ?_, fun c h1 h2 h3 h4 => ?_⟩
  · rw [swp_len] at h2
    rw [hA, hA, if_neg h3]
    by_cases hci : c = i
    · subst hci
      rw [if_pos rfl, if_pos rfl]
      exact hw.asymm _ _ hc
    · rw [if_neg hci]
      by_cases e1 : (c - 1) / 2 = (i - 1) / 2
      · rw [if_pos e1]
        intro hlt
        have h5 := h.1 c h1 h2 hci
        rw [e1] at h5
        exact h5 (hw.lt_le hlt (hw.asymm _ _ hc))
      · rw [if_neg e1]
        by_cases e2 : (c - 1) / 2 = i
        · rw [if_pos e2]
          exact h.2 c h1 h2 e2 h0
        · rw [if_neg e2]
          exact h.1 c h1 h2 hci
  · rw [swp_len] at h2
    rw [hA, hA, if_neg (show ¬ ((i - 1) / 2 - 1) / 2 = (i - 1) / 2 by omega), if_neg (show ¬ ((i - 1) / 2 - 1) / 2 = i by omega), if_neg (show ¬ c = (i - 1) / 2 by omega)]
    have hpp := h.1 ((i - 1) / 2) h4 hp (by omega)
    by_cases hci : c = i
    · rw [if_pos hci]; exact hpp
    · rw [if_neg hci]
      have h5 := h.1 c h1 h2 hci
      rw [h3] at h5
      exact hw.neg _ _ _ h5 hpp
theorem up_eq {γ R : Type} (hw : Wo lt) (P : α → Prop) (n : Nat) (F : γ → Nat → List α → Int → Option R) (J : γ → List α → Option R)
    (hF : ∀ g k l (i : Nat), 4 ≤ k → l.length = n → i < n → (∀ x ∈ l, P x) → F g (k + 1) l i = if 0 < i then (if lt (A d l i) (A d l ((i - 1) / 2)) then F g k (swp d l ((i - 1) / 2) i) (((i - 1) / 2 : Nat) : Int) else J g l) else J g l) :
    ∀ (i : Nat) (l : List α), l.length = n → i < n → (∀ x ∈ l, P x) → UpOk d lt l i → ∃ l' n0, l.Perm l' ∧ Heap d lt l' ∧ ∀ g k, n0 ≤ k → F g k l i = J g l' := by
  intro i
  induction i using Nat.strongRecOn with
  | _ i ih =>
    intro l hl hi hP hu
    have stop : (∀ g k, 4 ≤ k → F g (k + 1) l i = J g l) → Heap d lt l → ∃ l' n0, l.Perm l' ∧ Heap d lt l' ∧ ∀ g k, n0 ≤ k → F g k l i = J g l' := fun h1 h2 => by
      refine ⟨l, 5, .refl _, h2, fun g k hk => ?_⟩
      obtain ⟨j, rfl⟩ : ∃ j, k = j + 1 := ⟨k - 1, by omega⟩
      exact h1 g j (by omega)
    by_cases h0 : 0 < i
    · by_cases hc : lt (A d l i) (A d l ((i - 1) / 2))
      · have hp : (i - 1) / 2 < l.length := by omega
        have hsp := swp_perm (d := d) hp (show i < l.length by omega)
        obtain ⟨l', n0, p1, p2, p3⟩ := ih ((i - 1) / 2) (by omega) (swp d l ((i - 1) / 2) i) (by rw [swp_len]; exact hl) (by omega) (fun x hx => hP x (hsp.mem_iff.2 hx)) (hu.swap hw h0 (by omega) hc)
        refine ⟨l', max n0 4 + 1, hsp.trans p1, p2, fun g k hk => ?_⟩
        obtain ⟨j, rfl⟩ : ∃ j, k = j + 1 := ⟨k - 1, by omega⟩
        rw [hF g j l i (by omega) hl hi hP, if_pos h0, if_pos hc]
        exact p3 g j (by omega)
      · refine stop (fun g k hk => by rw [hF g k l i hk hl hi hP, if_pos h0, if_neg hc]) fun c h1 h2 => ?_
        by_cases e : c = i
        · subst e; exact hc
        · exact hu.1 c h1 h2 e
    · refine stop (fun g k hk => by rw [hF g k l i hk hl hi hP, if_neg h0]) fun c h1 h2 => hu.1 c h1 h2 (by omega)
/-- One more goes in. -/
theorem A_app {l : List α} {x : α} {c : Nat} (h : c < l.length) : A d (l ++ [x]) c = A d l c := A_congr (by rw [List.getElem?_append_left h])
theorem upOk_push {l : List α} {x : α} (h : Heap d lt l) : UpOk d lt (l ++ [x]) l.length := by
  refine ⟨fun c h1 h2 h3 => ?_, fun c h1 h2 h3 => ?_⟩
  · rw [List.length_append, List.length_singleton] at h2
    rw [A_app (by omega), A_app (by omega)]
    exact h c h1 (by omega)
  · rw [List.length_append, List.length_singleton] at h2
    omega
def DownOk (d : α) (lt : α → α → Prop) (l : List α) (i : Nat) : Prop :=
  (∀ c, 0 < c → c < l.length → (c - 1) / 2 ≠ i → ¬ lt (A d l c) (A d l ((c - 1) / 2))) ∧ ∀ c, 0 < c → c < l.length → (c - 1) / 2 = i → 0 < i → ¬ lt (A d l c) (A d l ((i - 1) / 2))
theorem DownOk.swap (hw : Wo lt) {l : List α} {i m : Nat} (hm : 0 < m) (hml : m < l.length) (hpm : (m - 1) / 2 = i) (hlt : lt (A d l m) (A d l i)) (hb : ∀ c, 0 < c → c < l.length → (c - 1) / 2 = i → ¬ lt (A d l c) (A d l m)) (h : DownOk d lt l i) :
    DownOk d lt (swp d l m i) m := by
  have hi : i < l.length := by omega
  have hA := A_swp (d := d) hml hi
  refine ⟨fun c h1 h2 h3 => ?_, fun c h1 h2 h3 h4 => ?_⟩
  · rw [swp_len] at h2
    rw [hA, hA]
    by_cases hcm : c = m
    · subst hcm
      rw [if_pos rfl, hpm, if_neg (by omega), if_pos rfl]
      exact hw.asymm _ _ hlt
    · rw [if_neg hcm, if_neg h3]
      by_cases hci : c = i
      · subst hci
        rw [if_pos rfl, if_neg (by omega)]
        exact h.2 m hm hml hpm h1
      · rw [if_neg hci]
        by_cases e : (c - 1) / 2 = i
        · rw [if_pos e]; exact hb c h1 h2 e
        · rw [if_neg e]; exact h.1 c h1 h2 e
  · rw [swp_len] at h2
    rw [hA, hA, hpm, if_neg (show ¬ i = m by omega), if_pos rfl, if_neg (show ¬ c = m by omega), if_neg (show ¬ c = i by omega)]
    have := h.1 c h1 h2 (by omega)
    rw [h3] at this
    exact this
end
def hd0 : merge_head := ⟨⟨ByteArray.mk #[], 0, 0, ByteArray.mk #[]⟩, 0⟩
def ltH (x y : merge_head) : Prop := ltE x.e y.e ∨ (¬ ltE y.e x.e ∧ x.from_ < y.from_)
instance (x y : merge_head) : Decidable (ltH x y) := inferInstanceAs (Decidable (_ ∨ _))
theorem wo_H : Wo ltH := by
  refine ⟨fun x y h k => ?_, fun x y z h k => ?_⟩
  · rcases h with h | ⟨h, h'⟩ <;> rcases k with k | ⟨k, k'⟩
    · exact wo_E.asymm _ _ h k
    · exact k h
    · exact h k
    · omega
  · unfold ltH at *
    rintro (g | ⟨g, g'⟩)
    · by_cases h1 : ltE x.e y.e
      · exact h (.inl h1)
      · by_cases h2 : ltE y.e z.e
        · exact k (.inl h2)
        · exact wo_E.neg _ _ _ h1 h2 g
    · have h1 : ¬ ltE x.e y.e := fun e => h (.inl e)
      have h2 : ¬ ltE y.e z.e := fun e => k (.inl e)
      have h3 : ¬ ltE y.e x.e := fun e => by
        exact g (wo_E.le_lt (x := z.e) (y := y.e) (z := x.e) h2 e)
      have h4 : ¬ ltE z.e y.e := fun e => by
        exact g (wo_E.lt_le (x := z.e) (y := y.e) (z := x.e) e h1)
      have h5 : ¬ x.from_ < y.from_ := fun e => h (.inr ⟨h3, e⟩)
      have h6 : ¬ y.from_ < z.from_ := fun e => k (.inr ⟨h4, e⟩)
      omega
def oH (a b : merge_head) : Int := if cE a.e b.e ≠ 0 then cE a.e b.e else a.from_ - b.from_
theorem oH_lt {a b : merge_head} : oH a b < 0 ↔ ltH a b := by
  unfold oH ltH
  by_cases h : cE a.e b.e = 0
  · have h1 : ¬ ltE a.e b.e := by show ¬ cE a.e b.e < 0; omega
    have h2 : ¬ ltE b.e a.e := by
      show ¬ cE b.e a.e < 0
      rw [← cE_anti]; omega
    simp only [h, ne_eq, not_true_eq_false, if_false, h1, h2, not_false_eq_true, true_and, false_or]
    omega
  · simp only [ne_eq, h, not_false_eq_true, if_true]
    constructor
    · intro g; exact .inl g
    · rintro (g | ⟨g, _⟩)
      · exact g
      · have : ¬ 0 < cE a.e b.e := by rw [cE_anti]; exact g
        omega
/-- What comes ahead, in a direction. -/
def bf (d : Bool) (x y : merge_head) : Prop := cond d (ltH y x) (ltH x y)
instance (d : Bool) (x y : merge_head) : Decidable (bf d x y) := by cases d <;> exact inferInstanceAs (Decidable (ltH _ _))
theorem wo_bf (d : Bool) : Wo (bf d) := by
  cases d
  · exact wo_H
  · exact ⟨fun x y h k => wo_H.asymm _ _ h k, fun x y z h k => wo_H.neg _ _ _ k h⟩
def small (x : merge_head) : Prop := 0 ≤ x.from_ ∧ x.from_ < 4194304
theorem order_eq (k : Nat) (hk : 4 ≤ k) {a b : merge_head} (ha : small a) (hb : small b) : merge_order k a b = some (oH a b) := by
  obtain ⟨j, rfl⟩ : ∃ j, k = j + 4 := ⟨k - 4, by omega⟩
  unfold small at ha hb
  simp only [merge_order, merge_keyOf, Option.bind_some, comp_eq]
  have e : cE (keyE ⟨a.e.Key, a.e.Seq, a.e.Kind⟩) (keyE ⟨b.e.Key, b.e.Seq, b.e.Kind⟩) = cE a.e b.e := rfl
  rw [e, w64_of (by omega) (by omega)]
  unfold oH
  by_cases h : cE a.e b.e = 0 <;> simp [h]
end Go.Proofs.Ytknedifgapgmbaa.Mo

set_option maxRecDepth 100000
namespace Go.Proofs.Ytknedifgapgmbaa.Mo
open Go Go.Proofs.Ytknedifgapgmbaa.Sy
theorem par_eq {i : Nat} (h0 : 0 < i) (h : i ≤ 8388608) : w64 (Int.tdiv (w64 ((i : Int) - 1)) 2) = (((i - 1) / 2 : Nat) : Int) := by
  rw [wP h0 (by omega)]
  exact w64_nat (n := (i - 1) / 2) (by omega) rfl
theorem sm_A {l : List merge_head} (h : ∀ x ∈ l, small x) {i : Nat} (hi : i < l.length) : small (A hd0 l i) := h _ (A_mem hi)
theorem up_first (l0 : List (Itf merge_List)) (i0 : Int) (J : List (Itf merge_List) → List merge_head → Option (Bool × merge_Merged)) (x0 : merge_List) (n : Nat) (hn : n ≤ 4194304) (k : Nat) (l : List merge_head) (i : Nat) (hk : 4 ≤ k) (hl : l.length = n) (hi : i < n) (hP : ∀ x ∈ l, small x) :
    merge_Merged_First.l1 l0 i0 J x0 (k + 1) l (i : Int) = if 0 < i then (if bf false (A hd0 l i) (A hd0 l ((i - 1) / 2)) then merge_Merged_First.l1 l0 i0 J x0 k (swp hd0 l ((i - 1) / 2) i) (((i - 1) / 2 : Nat) : Int) else J (List.set l0 (Int.toNat i0) (Itf.ptr x0)) l) else J (List.set l0 (Int.toNat i0) (Itf.ptr x0)) l := by
  by_cases h0 : 0 < i
  · have hpar := par_eq h0 (by omega)
    have e0 : decide ((0 : Int) < (i : Int)) = true := decide_eq_true (by omega)
    have hx := idx_A (d := hd0) (l := l) (k := i) (by omega)
    have hy := idx_A (d := hd0) (l := l) (k := (i - 1) / 2) (by omega)
    have ho := order_eq k hk (sm_A hP (i := i) (by omega)) (sm_A hP (i := (i - 1) / 2) (by omega))
    have hs := swp_eq (l := l) (i := (((i - 1) / 2 : Nat) : Int)) (j := (i : Int)) hd0 (fun l' => merge_Merged_First.l1 l0 i0 J x0 k l' (((i - 1) / 2 : Nat) : Int)) (by omega) (by omega) (by omega) (by omega)
    simp only [hx, hy, Option.bind_some, Int.toNat_natCast] at hs
    rw [if_pos h0]
    by_cases hb : bf false (A hd0 l i) (A hd0 l ((i - 1) / 2))
    · have e1 : decide (oH (A hd0 l i) (A hd0 l ((i - 1) / 2)) < 0) = true := decide_eq_true (oH_lt.2 hb)
      simp only [merge_Merged_First.l1, e0, hpar, hx, hy, Option.bind_some, ho, e1, Bool.not_true, if_pos hb, Bool.false_eq_true, if_false, if_true]
      exact hs
    · have e1 : decide (oH (A hd0 l i) (A hd0 l ((i - 1) / 2)) < 0) = false := decide_eq_false (fun h => hb (oH_lt.1 h))
      simp only [merge_Merged_First.l1, e0, hpar, hx, hy, Option.bind_some, ho, e1, Bool.not_false, if_neg hb, Bool.false_eq_true, if_false, if_true]
  · have e0 : decide ((0 : Int) < (i : Int)) = false := decide_eq_false (by omega)
    simp only [merge_Merged_First.l1, e0, Bool.false_eq_true, if_false, if_neg h0]
def src (S : List (List Entry)) (c : Nat → Int) : List (Itf merge_List) := (List.range S.length).map fun i => Itf.ptr ⟨S.getD i [], c i, true⟩
def hd (S : List (List Entry)) (i : Nat) (v : Int) : Option merge_head := (idx (S.getD i []) v).map fun e => ⟨e, (i : Int)⟩
def hds (S : List (List Entry)) (c : Nat → Int) (n : Nat) : List merge_head := (List.range n).filterMap fun i => hd S i (c i)
theorem hds_succ (S : List (List Entry)) (c : Nat → Int) (n : Nat) : hds S c (n + 1) = hds S c n ++ (hd S n (c n)).toList := by
  unfold hds
  rw [List.range_succ, List.filterMap_append]
  congr 1
theorem hds_len (S : List (List Entry)) (c : Nat → Int) (n : Nat) : (hds S c n).length ≤ n := by
  have := List.length_filterMap_le (fun i => hd S i (c i)) (List.range n)
  simpa [hds] using this
theorem hd_from {S : List (List Entry)} {i : Nat} {v : Int} {x : merge_head} (h : hd S i v = some x) : x.from_ = i := by
  unfold hd at h
  obtain ⟨e, _, rfl⟩ := Option.map_eq_some_iff.1 h
  rfl
theorem hds_small {S : List (List Entry)} {c : Nat → Int} {n : Nat} (hn : n ≤ 1048576) : ∀ x ∈ hds S c n, small x := fun x hx => by
  obtain ⟨i, hi, hx⟩ := List.mem_filterMap.1 hx
  rw [List.mem_range] at hi
  have := hd_from hx
  unfold small
  omega
/-- How a list stands: where it goes, and whether there is an entry. -/
def into (S : List (List Entry)) (i : Nat) (v : Int) : Bool := decide (0 ≤ v) && decide (v < ((S.getD i []).length : Int))
theorem hd_in {S : List (List Entry)} {i : Nat} {v : Int} (h : into S i v = true) : ∃ e, hd S i v = some ⟨e, (i : Int)⟩ ∧ merge_List_Here ⟨S.getD i [], v, true⟩ = some (e, true) := by
  simp only [into, Bool.and_eq_true, decide_eq_true_eq] at h
  obtain ⟨n, rfl⟩ := Int.eq_ofNat_of_zero_le h.1
  have hn : n < (S.getD i []).length := by omega
  have e1 : idx (S.getD i []) (n : Int) = some ((S.getD i [])[n]) := getD_idx hn
  refine ⟨(S.getD i [])[n], by unfold hd; rw [e1]; rfl, ?_⟩
  have c1 : ((!true || decide ((n : Int) < 0)) || decide (((S.getD i []).length : Int) ≤ (n : Int))) = false := by
    rw [decide_eq_false (by omega), decide_eq_false (by omega)]; rfl
  simp only [merge_List_Here, c1, Bool.false_eq_true, if_false, e1, Option.bind_some]
theorem hd_out {S : List (List Entry)} {i : Nat} {v : Int} (h : into S i v = false) : hd S i v = none := by
  unfold hd
  have : idx (S.getD i []) v = none := by
    unfold idx
    split
    · rename_i h0
      rw [List.getElem?_eq_none]
      have : ¬ (0 ≤ v ∧ v < ((S.getD i []).length : Int)) := fun hh => by
        rw [into, decide_eq_true hh.1, decide_eq_true hh.2] at h; cases h
      omega
    · rfl
  rw [this]; rfl
theorem src_len (S : List (List Entry)) (c : Nat → Int) : (src S c).length = S.length := by simp [src]
theorem src_at (S : List (List Entry)) (c : Nat → Int) {i : Nat} (h : i < S.length) : idx (src S c) (i : Int) = some (.ptr ⟨S.getD i [], c i, true⟩) := by
  rw [idx_nat]
  simp [src, h]
theorem src_set (S : List (List Entry)) (c : Nat → Int) {i : Nat} (v : Int) (h : i < S.length) : (src S c).set i (.ptr ⟨S.getD i [], v, true⟩) = src S (fun j => if j = i then v else c j) := by
  refine List.ext_getElem? fun q => ?_
  rw [List.getElem?_set]
  simp only [src_len]
  by_cases e : i = q
  · subst e
    simp [h, src]
  · simp only [e, if_false]
    by_cases hq : q < S.length
    · simp [src, hq, show ¬ q = i from fun x => e x.symm]
    · simp [src, hq]
theorem src_congr {S : List (List Entry)} {c c' : Nat → Int} (h : ∀ i, i < S.length → c i = c' i) : src S c = src S c' := by
  unfold src
  refine List.map_congr_left fun i hi => ?_
  rw [h i (List.mem_range.1 hi)]
/-- A heap made of nothing: each source goes where it goes, and its head goes in. -/
theorem load_eq {γ R : Type} (S : List (List Entry)) (hN : S.length ≤ 1048576) (d : Bool) (c c' : Nat → Int) (F : γ → Nat → List (Itf merge_List) → List merge_head → Int → Option R) (T : γ → List (Itf merge_List) → List merge_head → Option R)
    (hstep : ∀ (i : Nat) (l : List (Itf merge_List)) (h : List merge_head), i < S.length → l.length = S.length → idx l (i : Int) = some (.ptr ⟨S.getD i [], c i, true⟩) → Heap hd0 (bf d) h → (∀ x ∈ h, small x) → h.length ≤ i →
      ∃ h' q, Heap hd0 (bf d) h' ∧ (h ++ (hd S i (c' i)).toList).Perm h' ∧ ∀ g k, q ≤ k → F g (k + 1) l h (i : Int) = F g k (l.set i (.ptr ⟨S.getD i [], c' i, true⟩)) h' ((i + 1 : Nat) : Int))
    (hend : ∀ g k l h, F g (k + 1) l h (S.length : Int) = T g l h) :
    ∃ h' n0, Heap hd0 (bf d) h' ∧ (hds S c' S.length).Perm h' ∧ ∀ g k, n0 ≤ k → F g k (src S c) [] 0 = T g (src S c') h' := by
  have main : ∀ (w i : Nat) (h : List merge_head), S.length - i ≤ w → i ≤ S.length → Heap hd0 (bf d) h → (hds S c' i).Perm h →
      ∃ h' n0, Heap hd0 (bf d) h' ∧ (hds S c' S.length).Perm h' ∧ ∀ g k, n0 ≤ k → F g k (src S (fun j => if j < i then c' j else c j)) h (i : Int) = T g (src S c') h' := by
    intro w
    induction w with
    | zero =>
      intro i h hw hi hh hp
      obtain rfl : i = S.length := by omega
      refine ⟨h, 1, hh, hp, fun g k hk => ?_⟩
      obtain ⟨j, rfl⟩ : ∃ j, k = j + 1 := ⟨k - 1, by omega⟩
      rw [hend, src_congr (c' := c') (fun i hi => by simp [hi])]
    | succ w ih =>
      intro i h hw hi hh hp
      by_cases e : i = S.length
      · subst e
        refine ⟨h, 1, hh, hp, fun g k hk => ?_⟩
        obtain ⟨j, rfl⟩ : ∃ j, k = j + 1 := ⟨k - 1, by omega⟩
        rw [hend, src_congr (c' := c') (fun i hi => by simp [hi])]
      · have hi' : i < S.length := by omega
        obtain ⟨h', q, g1, g2, g3⟩ := hstep i (src S (fun j => if j < i then c' j else c j)) h hi' (src_len _ _) (by rw [src_at _ _ hi']; simp) hh (fun x hx => hds_small (by omega) x (hp.mem_iff.2 hx)) (by have := hp.length_eq; have := hds_len S c' i; omega)
        obtain ⟨h'', n0, k1, k2, k3⟩ := ih (i + 1) h' (by omega) (by omega) g1 (by
          rw [hds_succ]
          exact (hp.append_right _).trans g2)
        refine ⟨h'', max q n0 + 1, k1, k2, fun g k hk => ?_⟩
        obtain ⟨j, rfl⟩ : ∃ j, k = j + 1 := ⟨k - 1, by omega⟩
        rw [g3 g j (by omega), src_set _ _ _ hi', src_congr (c' := fun j => if j < i + 1 then c' j else c j) (fun q hq => ?_)]
        · exact k3 g j (by omega)
        · by_cases e1 : q = i
          · subst e1; simp
          · by_cases e2 : q < i
            · simp [e1, e2, show q < i + 1 by omega]
            · simp [e1, e2, show ¬ q < i + 1 by omega]
  have := main S.length 0 [] (by omega) (Nat.zero_le _) (fun c h1 h2 => by simp at h2) (by simp [hds])
  simpa using this
theorem first_step (S : List (List Entry)) (hN : S.length ≤ 1048576) (m : merge_Merged) (hm : m.sources.length = S.length) (c c' : Nat → Int)
    (hmv : ∀ i, i < S.length → merge_List_First ⟨S.getD i [], c i, true⟩ = some (into S i (c' i), ⟨S.getD i [], c' i, true⟩)) (i : Nat) (l : List (Itf merge_List)) (h : List merge_head) (hi : i < S.length) (hl : l.length = S.length) (hx : idx l (i : Int) = some (.ptr ⟨S.getD i [], c i, true⟩)) (hh : Heap hd0 (bf false) h) (hs : ∀ x ∈ h, small x) (hle : h.length ≤ i) :
    ∃ h' q, Heap hd0 (bf false) h' ∧ (h ++ (hd S i (c' i)).toList).Perm h' ∧ ∀ g k, q ≤ k → merge_Merged_First.l0 m g (k + 1) l h (i : Int) = merge_Merged_First.l0 m g k (l.set i (.ptr ⟨S.getD i [], c' i, true⟩)) h' ((i + 1 : Nat) : Int) := by
  have e0 : decide ((i : Int) < (m.sources.length : Int)) = true := by rw [hm]; exact decT hi
  have hw : w64 ((i : Int) + 1) = ((i + 1 : Nat) : Int) := wS (by omega)
  cases hin : into S i (c' i) with
  | false =>
    refine ⟨h, 0, hh, by rw [hd_out hin]; simp, fun g k hk => ?_⟩
    simp only [merge_Merged_First.l0, e0, if_true, Jn, hx, Option.bind_some, Itf.on, hmv i hi, hin, Bool.false_eq_true, if_false, hw, Int.toNat_natCast]
  | true =>
    obtain ⟨e, h1, h2⟩ := hd_in hin
    have hn : (h ++ [(⟨e, (i : Int)⟩ : merge_head)]).length = h.length + 1 := by simp
    have hsm : ∀ x ∈ h ++ [(⟨e, (i : Int)⟩ : merge_head)], small x := fun x hx => by
      rcases List.mem_append.1 hx with hx | hx
      · exact hs x hx
      · rw [List.mem_singleton] at hx; subst hx; unfold small; simp only; omega
    obtain ⟨h', n0, p1, p2, p3⟩ := up_eq (wo_bf false) small (h.length + 1) (fun (g : (List (Itf merge_List) → List merge_head → Option (Bool × merge_Merged)) × List (Itf merge_List)) k l' j => merge_Merged_First.l1 g.2 (i : Int) g.1 ⟨S.getD i [], c' i, true⟩ k l' j) (fun g l' => g.1 (List.set g.2 (Int.toNat (i : Int)) (Itf.ptr ⟨S.getD i [], c' i, true⟩)) l') (fun g k l' j hk hl' hj hP => up_first _ _ _ _ (h.length + 1) (by omega) k l' j hk hl' hj hP) h.length _ hn (by omega) hsm (upOk_push hh)
    refine ⟨h', n0, p2, by rw [h1]; exact p1, fun g k hk => ?_⟩
    have hlen : w64 ((((h ++ [(⟨e, (i : Int)⟩ : merge_head)]).length : Nat) : Int) - 1) = (h.length : Int) := by rw [hn]; exact w64_nat (n := h.length) (by omega) (by omega)
    have := p3 (fun l' h' => merge_Merged_First.l0 m g k l' h' ((i + 1 : Nat) : Int), l) k hk
    simp only [Int.toNat_natCast] at this
    simp only [merge_Merged_First.l0, e0, if_true, Jn, hx, Option.bind_some, Itf.on, hmv i hi, hin, h2, push_ok (show h.length < 4021071095713 by omega), hw, hlen]
    exact this
end Go.Proofs.Ytknedifgapgmbaa.Mo

set_option maxRecDepth 100000
namespace Go.Proofs.Ytknedifgapgmbaa.Mo
open Go Go.Proofs.Ytknedifgapgmbaa.Sy
structure Good (S : List (List Entry)) (m : merge_Merged) (c : Nat → Int) : Prop where
  made : m.made = true
  srcs : m.sources = src S c
theorem cut00 {α : Type} (l : List α) : cut l 0 0 = some [] := by
  unfold cut
  rw [if_pos ⟨by omega, by omega, by omega⟩]
  simp
theorem first_end (m : merge_Merged) (g : List (Itf merge_List) → List merge_head → Bool → Int → Bool → Option (Bool × merge_Merged)) (k : Nat) (l : List (Itf merge_List)) (h : List merge_head) {n : Nat} (hn : m.sources.length = n) :
    merge_Merged_First.l0 m g (k + 1) l h (n : Int) = if 0 < h.length then g l h false 1 true else g l h false 2 false := by
  have e0 : decide ((n : Int) < (m.sources.length : Int)) = false := by rw [hn]; exact decF (Nat.le_refl _)
  simp only [merge_Merged_First.l0, e0, Bool.false_eq_true, if_false, Jn]
  by_cases hl : 0 < h.length
  · have : decide ((0 : Int) < (h.length : Int)) = true := decide_eq_true (by omega)
    simp only [this, if_true, if_pos hl]; rfl
  · have : decide ((0 : Int) < (h.length : Int)) = false := decide_eq_false (by omega)
    simp only [this, Bool.false_eq_true, if_false, if_neg hl]; rfl
/-- Where it stands: at a heap's front, or past the end that lies in the direction. -/
def stnd (d : Bool) (h : List merge_head) : Int := if 0 < h.length then 1 else if d then 0 else 2
theorem first_eq {S : List (List Entry)} (hN : S.length ≤ 1048576) {m : merge_Merged} {c c' : Nat → Int} (hm : Good S m c) (hmv : ∀ i, i < S.length → merge_List_First ⟨S.getD i [], c i, true⟩ = some (into S i (c' i), ⟨S.getD i [], c' i, true⟩)) :
    ∃ h', Heap hd0 (bf false) h' ∧ (hds S c' S.length).Perm h' ∧ Ev (fun k => merge_Merged_First k m) (decide (0 < h'.length), ⟨src S c', h', false, stnd false h', true⟩) := by
  have hl : m.sources.length = S.length := by rw [hm.srcs, src_len]
  obtain ⟨h', n0, p1, p2, p3⟩ := load_eq S hN false c c' (fun g k l h i => merge_Merged_First.l0 m g k l h i) (fun g l h => if 0 < h.length then g l h false 1 true else g l h false 2 false) (fun i l h => first_step S hN m hl c c' hmv i l h) (fun g k l h => first_end m g k l h hl)
  refine ⟨h', p1, p2, n0, fun k hk => ?_⟩
  unfold merge_Merged_First
  simp only [Jn, hm.made, Bool.not_true, Bool.not_false, if_true, cut00, Option.bind_some]
  rw [hm.srcs]
  refine (p3 _ k hk).trans ?_
  unfold stnd
  by_cases h0 : 0 < h'.length <;> simp [h0]
end Go.Proofs.Ytknedifgapgmbaa.Mo

set_option maxRecDepth 100000
namespace Go.Proofs.Ytknedifgapgmbaa.Mo
open Go Go.Proofs.Ytknedifgapgmbaa.Sy
end Go.Proofs.Ytknedifgapgmbaa.Mo

set_option maxRecDepth 100000
namespace Go.Proofs.Ytknedifgapgmbaa.Mo
open Go Go.Proofs.Ytknedifgapgmbaa.Sy
/-- All entries of the sources, in their order. -/
structure AllOf (S : List (List Entry)) (Z : List merge_head) : Prop where
  flt : ∀ i, i < S.length → (Z.filter (fun x => x.from_ == (i : Int))).map (·.e) = S.getD i []
  rng : ∀ x ∈ Z, 0 ≤ x.from_ ∧ x.from_ < S.length
  srt : Z.Pairwise fun x y => ¬ ltH y x
def fi (i : Nat) (l : List merge_head) : List merge_head := l.filter (fun x => x.from_ == (i : Int))
def ct (Z : List merge_head) (p i : Nat) : Nat := (fi i (Z.take p)).length
theorem ltH_tot {x y : merge_head} (h : x.from_ ≠ y.from_) : ltH x y ∨ ltH y x := by
  unfold ltH
  by_cases h1 : ltE x.e y.e
  · exact .inl (.inl h1)
  · by_cases h2 : ltE y.e x.e
    · exact .inr (.inl h2)
    · rcases Int.lt_or_gt_of_ne h with h3 | h3
      · exact .inl (.inr ⟨h2, h3⟩)
      · exact .inr (.inr ⟨h1, h3⟩)
section
variable {S : List (List Entry)} {Z : List merge_head}
theorem fi_app (i : Nat) (a b : List merge_head) : fi i (a ++ b) = fi i a ++ fi i b := List.filter_append ..
theorem fi_mem {i : Nat} {l : List merge_head} {x : merge_head} (h : x ∈ fi i l) : x ∈ l ∧ x.from_ = i := by
  have := List.mem_filter.1 h
  exact ⟨this.1, by simpa using this.2⟩
theorem flt_at (hZ : AllOf S Z) (p : Nat) {i : Nat} (hi : i < S.length) : S.getD i [] = (fi i (Z.take p)).map (·.e) ++ (fi i (Z.drop p)).map (·.e) := by
  rw [← hZ.flt i hi, ← List.map_append, ← fi_app, List.take_append_drop]; rfl
theorem hd_fwd (hZ : AllOf S Z) (p : Nat) {i : Nat} (hi : i < S.length) : hd S i (ct Z p i : Int) = (fi i (Z.drop p)).head? := by
  unfold hd
  rw [idx_nat, flt_at hZ p hi, List.getElem?_append_right (by simp [ct])]
  have : ct Z p i - ((fi i (Z.take p)).map (·.e)).length = 0 := by simp [ct]
  rw [this]
  cases h : fi i (Z.drop p) with
  | nil => rfl
  | cons x r =>
    have hx := (fi_mem (i := i) (l := Z.drop p) (x := x) (by rw [h]; exact List.mem_cons_self ..)).2
    simp only [List.map_cons, List.getElem?_cons_zero, Option.map_some, List.head?_cons]
    rw [← hx]
theorem hd_bwd (hZ : AllOf S Z) (p : Nat) {i : Nat} (hi : i < S.length) : hd S i ((ct Z p i : Int) - 1) = (fi i (Z.take p)).getLast? := by
  rcases nil_or_snoc (fi i (Z.take p)) with h | ⟨q, x, h⟩
  · have hc : ct Z p i = 0 := by simp [ct, h]
    rw [hc, h]
    exact hd_out (by simp [into])
  · have hc : ct Z p i = q.length + 1 := by simp [ct, h]
    have hx := (fi_mem (i := i) (l := Z.take p) (x := x) (by rw [h]; simp)).2
    have e : ((ct Z p i : Int) - 1) = (q.length : Int) := by omega
    unfold hd
    rw [e, idx_nat, flt_at hZ p hi, h]
    simp only [List.map_append, List.map_cons, List.map_nil, List.append_assoc, List.cons_append, List.nil_append]
    rw [List.getElem?_append_right (by simp)]
    simp only [List.length_map, Nat.sub_self, List.getElem?_cons_zero, Option.map_some, List.getLast?_append, List.getLast?_singleton, Option.some_or]
    rw [← hx]
theorem drop_at {p : Nat} (hp : p < Z.length) : Z.drop p = Z[p] :: Z.drop (p + 1) := List.drop_eq_getElem_cons hp
theorem take_at {p : Nat} (hp : p < Z.length) : Z.take (p + 1) = Z.take p ++ [Z[p]] := by rw [List.take_add_one, List.getElem?_eq_getElem hp]; rfl
theorem ct_zero (i : Nat) : ct Z 0 i = 0 := by simp [ct, fi]
theorem srt_drop (hZ : AllOf S Z) {p : Nat} (hp : p < Z.length) {x : merge_head} (h : x ∈ Z.drop p) : ¬ ltH x Z[p] := by
  rw [drop_at hp] at h
  rcases List.mem_cons.1 h with rfl | h
  · exact wo_H.irr _
  · have := List.pairwise_iff_getElem.1 hZ.srt
    obtain ⟨j, hj, rfl⟩ := List.getElem_of_mem h
    rw [List.length_drop] at hj
    rw [List.getElem_drop]
    exact this p (p + 1 + j) hp (by omega) (by omega)
theorem srt_take (hZ : AllOf S Z) {p : Nat} (hp : p < Z.length) {x : merge_head} (h : x ∈ Z.take (p + 1)) : ¬ ltH Z[p] x := by
  rw [take_at hp] at h
  rcases List.mem_append.1 h with h | h
  · have := List.pairwise_iff_getElem.1 hZ.srt
    obtain ⟨j, hj, rfl⟩ := List.getElem_of_mem h
    rw [List.length_take] at hj
    rw [List.getElem_take]
    exact this j p (by omega) hp (by omega)
  · rw [List.mem_singleton] at h; subst h; exact wo_H.irr _
/-- Where the sources stand when the cursor stands at place q, forwards, or ahead of place q, backwards. -/
def cs (Z : List merge_head) (d : Bool) (q : Nat) (i : Nat) : Int := cond d ((ct Z q i : Int) - 1) (ct Z q i : Int)
theorem hd_cs (hZ : AllOf S Z) (d : Bool) (q : Nat) {i : Nat} (hi : i < S.length) : hd S i (cs Z d q i) = cond d (fi i (Z.take q)).getLast? (fi i (Z.drop q)).head? := by
  cases d
  · exact hd_fwd hZ q hi
  · exact hd_bwd hZ q hi
theorem hds_empty (hZ : AllOf S Z) (d : Bool) (q : Nat) (hq : q ≤ Z.length) (h : cond d q (Z.length - q) = 0) : hds S (cs Z d q) S.length = [] := by
  unfold hds
  rw [List.filterMap_eq_nil_iff]
  intro i hi
  have hi' := List.mem_range.1 hi
  rw [hd_cs hZ d q hi']
  cases d with
  | false =>
    have : Z.drop q = [] := List.drop_eq_nil_of_le (by simp at h; omega)
    rw [this]; rfl
  | true =>
    have : q = 0 := h
    subst this
    rfl
/-- The item at which it stands: place p. -/
structure Stand (S : List (List Entry)) (Z : List merge_head) (m : merge_Merged) (p : Nat) : Prop where
  lt : p < Z.length
  state : m.state = 1
  good : Good S m (cs Z m.back (cond m.back (p + 1) p))
  heap : Heap hd0 (bf m.back) m.heap
  perm : (hds S (cs Z m.back (cond m.back (p + 1) p)) S.length).Perm m.heap
theorem hd_now (hZ : AllOf S Z) (d : Bool) {p : Nat} (hp : p < Z.length) {f : Nat} (hf : Z[p].from_ = f) : hd S f (cs Z d (cond d (p + 1) p) f) = some Z[p] := by
  have hfl : f < S.length := by have := (hZ.rng Z[p] (List.getElem_mem hp)).2; omega
  rw [hd_cs hZ d _ hfl]
  cases d with
  | false =>
    simp only [cond_false]
    rw [drop_at hp]
    unfold fi
    rw [List.filter_cons_of_pos (by simp [hf])]
    rfl
  | true =>
    simp only [cond_true]
    rw [take_at hp, fi_app]
    simp [fi, hf]
theorem from_nat (hZ : AllOf S Z) {p : Nat} (hp : p < Z.length) : ∃ f : Nat, Z[p].from_ = f ∧ f < S.length := by
  have := hZ.rng Z[p] (List.getElem_mem hp)
  exact ⟨Z[p].from_.toNat, by omega, by omega⟩
theorem Stand.front {m : merge_Merged} {p : Nat} (h : Stand S Z m p) (hZ : AllOf S Z) : idx m.heap 0 = some (Z[p]'h.lt) := by
  have hp := h.lt
  obtain ⟨f, hf, hfl⟩ := from_nat hZ hp
  have hnow := hd_now hZ m.back hp hf
  have hmem : Z[p] ∈ m.heap := h.perm.mem_iff.1 (List.mem_filterMap.2 ⟨f, List.mem_range.2 hfl, hnow⟩)
  have hpos : 0 < m.heap.length := List.length_pos_of_mem hmem
  have hA := idx_A (d := hd0) (l := m.heap) (k := 0) hpos
  rw [show ((0 : Nat) : Int) = 0 from rfl] at hA
  rw [hA]
  congr 1
  obtain ⟨j, hj, hje⟩ := List.getElem_of_mem hmem
  have htop := h.heap.top (wo_bf _) j hj
  rw [A_get hj, hje] at htop
  have hin : A hd0 m.heap 0 ∈ hds S (cs Z m.back (cond m.back (p + 1) p)) S.length := h.perm.mem_iff.2 (A_mem hpos)
  obtain ⟨i, hi, hx⟩ := List.mem_filterMap.1 hin
  have hi' := List.mem_range.1 hi
  have hfr := hd_from hx
  by_cases e : i = f
  · subst e
    rw [hnow] at hx
    exact (Option.some.inj hx).symm
  · exfalso
    have hne : (A hd0 m.heap 0).from_ ≠ Z[p].from_ := by omega
    rw [hd_cs hZ _ _ hi'] at hx
    cases hb : m.back with
    | false =>
      rw [hb] at hx htop
      simp only [cond_false] at hx
      have hm := (fi_mem (List.mem_of_mem_head? hx)).1
      have h1 := srt_drop hZ hp hm
      rcases ltH_tot hne with h2 | h2
      · exact h1 h2
      · exact htop h2
    | true =>
      rw [hb] at hx htop
      simp only [cond_true] at hx
      have hm := (fi_mem (List.mem_of_getLast? hx)).1
      have h1 := srt_take hZ hp hm
      rcases ltH_tot hne with h2 | h2
      · exact htop h2
      · exact h1 h2
/-- The cursor's place: -1: ahead; the number of all: behind. -/
inductive At (S : List (List Entry)) (Z : List merge_head) (m : merge_Merged) : Int → Prop
  | ahead {c} (h : Good S m c) (hs : m.state = 0) : At S Z m (-1)
  | behind {c} (h : Good S m c) (hs : m.state = 2) : At S Z m Z.length
  | at_ (p : Nat) (h : Stand S Z m p) : At S Z m (p : Int)
theorem At.good {m : merge_Merged} {v : Int} (h : At S Z m v) : ∃ c, Good S m c := by
  cases h with
  | ahead h _ => exact ⟨_, h⟩
  | behind h _ => exact ⟨_, h⟩
  | at_ p h => exact ⟨_, h.good⟩
theorem At.mk (hZ : AllOf S Z) (d : Bool) (q : Nat) (hq : q ≤ Z.length) {h : List merge_head} (hh : Heap hd0 (bf d) h) (hp : (hds S (cs Z d q) S.length).Perm h) :
    decide (0 < h.length) = decide (0 < cond d q (Z.length - q)) ∧ At S Z ⟨src S (cs Z d q), h, d, stnd d h, true⟩ (cond d ((q : Int) - 1) (q : Int)) := by
  by_cases h0 : cond d q (Z.length - q) = 0
  · have hn := hds_empty hZ d q hq h0
    rw [hn] at hp
    obtain rfl : h = [] := hp.nil_eq.symm
    refine ⟨by rw [h0]; rfl, ?_⟩
    cases d with
    | false =>
      simp only [cond_false] at h0 ⊢
      obtain rfl : q = Z.length := by omega
      exact .behind (c := cs Z false Z.length) ⟨rfl, rfl⟩ rfl
    | true =>
      simp only [cond_true] at h0 ⊢
      subst h0
      exact .ahead (c := cs Z true 0) ⟨rfl, rfl⟩ rfl
  · have hpos : ∃ p : Nat, p < Z.length ∧ q = cond d (p + 1) p := by
      cases d with
      | false => exact ⟨q, by simp at h0; omega, rfl⟩
      | true => exact ⟨q - 1, by simp at h0; omega, by simp at h0 ⊢; omega⟩
    obtain ⟨p, hp1, rfl⟩ := hpos
    obtain ⟨f, hf, hfl⟩ := from_nat hZ hp1
    have hmem : Z[p] ∈ h := hp.mem_iff.1 (List.mem_filterMap.2 ⟨f, List.mem_range.2 hfl, hd_now hZ d hp1 hf⟩)
    have hpos := List.length_pos_of_mem hmem
    refine ⟨by rw [decide_eq_true hpos, decide_eq_true (by omega)], ?_⟩
    have e : (cond d (((cond d (p + 1) p : Nat) : Int) - 1) ((cond d (p + 1) p : Nat) : Int)) = (p : Int) := by cases d <;> simp
    rw [e]
    exact .at_ p ⟨hp1, by simp [stnd, hpos], ⟨rfl, rfl⟩, hh, hp⟩
end
theorem first_mv (s : List Entry) (c : Int) : merge_List_First ⟨s, c, true⟩ = some (decide (0 ≤ (0 : Int)) && decide ((0 : Int) < (s.length : Int)), ⟨s, 0, true⟩) := by
  have e : minI (maxI 0 (-1)) (s.length : Int) = 0 := clamp_in s.length 0 (by omega)
  simp only [merge_List_First, Jn, Bool.not_true, Bool.not_false, if_true, e]
end Go.Proofs.Ytknedifgapgmbaa.Mo

set_option maxRecDepth 100000
namespace Go.Proofs.Ytknedifgapgmbaa.Mo
open Go Go.Proofs.Ytknedifgapgmbaa.Sy
section
variable {S : List (List Entry)} {Z : List merge_head}
theorem here_eq {m : merge_Merged} {p : Nat} (hZ : AllOf S Z) (h : Stand S Z m p) : merge_Merged_Here m = some ((Z[p]'h.lt).e, true) ∧ merge_Merged_From m = some (Z[p]'h.lt).from_ := by
  have h1 := h.front hZ
  have c : (!m.made || (m.state != 1)) = false := by rw [h.good.made, h.state]; rfl
  simp only [merge_Merged_Here, merge_Merged_From, c, Bool.false_eq_true, if_false, h1, Option.bind_some, and_self]
theorem here_no {m : merge_Merged} (h : m.made = true) (hs : m.state ≠ 1) : merge_Merged_Here m = some (⟨ByteArray.mk #[], 0, 0, ByteArray.mk #[]⟩, false) ∧ merge_Merged_From m = some (-1) := by
  have c : (!m.made || (m.state != 1)) = true := by rw [h]; simp [hs]
  simp only [merge_Merged_Here, merge_Merged_From, c, if_true, and_self]
theorem At.no {m : merge_Merged} {v : Int} (h : At S Z m v) (hv : ¬ (0 ≤ v ∧ v < Z.length)) : merge_Merged_Here m = some (⟨ByteArray.mk #[], 0, 0, ByteArray.mk #[]⟩, false) ∧ merge_Merged_From m = some (-1) := by
  cases h with
  | ahead h hs => exact here_no h.made (by omega)
  | behind h hs => exact here_no h.made (by omega)
  | at_ p h => exact absurd ⟨by omega, by have := h.lt; omega⟩ hv
theorem At.yes {m : merge_Merged} {p : Nat} (h : At S Z m (p : Int)) (hp : p < Z.length) : Stand S Z m p := by
  generalize hv : (p : Int) = v at h
  cases h with
  | ahead _ _ => omega
  | behind _ _ => omega
  | at_ q h =>
    obtain rfl : p = q := by omega
    exact h
end
end Go.Proofs.Ytknedifgapgmbaa.Mo

set_option maxRecDepth 100000
namespace Go.Proofs.Ytknedifgapgmbaa.Mo
open Go Go.Proofs.Ytknedifgapgmbaa.Sy
def toH (o : R19_Item) : merge_head := ⟨o.Entry, o.From⟩
theorem mgA_mem (q : Int) : ∀ (s : List Entry) (r : List R19_Item) (z : R19_Item), z ∈ mgA q r s ↔ z ∈ r ∨ ∃ x ∈ s, z = itm q x
  | [], r, z => by rw [mgA_nil]; simp
  | x :: xs, r, z => by
    rw [mgA_cons, List.mem_append, List.mem_cons, mgA_mem q xs]
    conv => rhs; rw [← List.takeWhile_append_dropWhile (p := leB x) (l := r), List.mem_append]
    constructor
    · rintro (h | h | h | ⟨y, hy, h⟩)
      · exact .inl (.inl h)
      · exact .inr ⟨x, by simp, h⟩
      · exact .inl (.inr h)
      · exact .inr ⟨y, by simp [hy], h⟩
    · rintro ((h | h) | ⟨y, hy, h⟩)
      · exact .inl h
      · exact .inr (.inr (.inl h))
      · rcases List.mem_cons.1 hy with rfl | hy
        · exact .inr (.inl h)
        · exact .inr (.inr (.inr ⟨y, hy, h⟩))
theorem mgA_srt (q : Int) : ∀ (s : List Entry) (r : List R19_Item), r.Pairwise (fun x y => ¬ ltH (toH y) (toH x)) → (∀ x ∈ r, x.From < q) → Srt ltE s → (mgA q r s).Pairwise fun x y => ¬ ltH (toH y) (toH x)
  | [], r, hr, hq, hs => by rw [mgA_nil]; exact hr
  | x :: xs, r, hr, hq, hs => by
    have hs' := List.pairwise_cons.1 hs
    have hsp := List.takeWhile_append_dropWhile (p := leB x) (l := r)
    have hr2 := hr
    rw [← hsp] at hr2
    obtain ⟨a1, a2, a3⟩ := List.pairwise_append.1 hr2
    have hqd : ∀ z ∈ r.dropWhile (leB x), z.From < q := fun z hz => hq z (by rw [← hsp]; exact List.mem_append_right _ hz)
    have hqt : ∀ z ∈ r.takeWhile (leB x), z.From < q := fun z hz => hq z (by rw [← hsp]; exact List.mem_append_left _ hz)
    have ht : ∀ z ∈ r.takeWhile (leB x), ¬ ltE x z.Entry := fun z hz => cE_le.1 (of_decide_eq_true (tw_imp (f := leB x) hz))
    have hd : ∀ z ∈ r.dropWhile (leB x), ltE x z.Entry := by
      intro z hz
      cases hc : r.dropWhile (leB x) with
      | nil => rw [hc] at hz; simp at hz
      | cons w t =>
        have hw : ltE x w.Entry := by
          have := List.head?_dropWhile_not (p := leB x) r
          rw [hc] at this
          simp only [List.head?_cons] at this
          have h2 := of_decide_eq_false this
          rw [cE_le] at h2
          exact Classical.not_not.1 h2
        rw [hc] at hz a2
        rcases List.mem_cons.1 hz with rfl | hz
        · exact hw
        · have := (List.pairwise_cons.1 a2).1 z hz
          have h3 : ¬ ltE z.Entry w.Entry := fun k => this (.inl k)
          exact wo_E.lt_le hw h3
    have ih := mgA_srt q xs (r.dropWhile (leB x)) a2 hqd hs'.2
    rw [mgA_cons, List.pairwise_append]
    refine ⟨a1, List.pairwise_cons.2 ⟨fun z hz => ?_, ih⟩, fun z hz w hw => ?_⟩
    · rcases (mgA_mem q xs _ z).1 hz with h | ⟨y, hy, rfl⟩
      · have h1 := hd z h
        rintro (k | ⟨k, _⟩)
        · exact wo_E.asymm _ _ h1 k
        · exact k h1
      · have h1 := hs'.1 y hy
        rintro (k | ⟨_, k⟩)
        · exact h1 k
        · exact absurd k (by simp [toH, itm])
    · have hz1 := ht z hz
      have hz2 := hqt z hz
      rcases List.mem_cons.1 hw with rfl | hw
      · rintro (k | ⟨_, k⟩)
        · exact hz1 k
        · simp only [toH, itm] at k; omega
      · rcases (mgA_mem q xs _ w).1 hw with h | ⟨y, hy, rfl⟩
        · exact a3 z hz w h
        · have h1 := hs'.1 y hy
          have h2 : ¬ ltE y z.Entry := wo_E.neg _ _ _ h1 hz1
          rintro (k | ⟨_, k⟩)
          · exact h2 k
          · simp only [toH, itm] at k; omega
theorem mgA_flt (q : Int) (i : Int) : ∀ (s : List Entry) (r : List R19_Item), (∀ x ∈ r, x.From < q) → (mgA q r s).filter (fun x => x.From == i) = if i = q then s.map (itm q) else r.filter (fun x => x.From == i)
  | [], r, hq => by
    rw [mgA_nil]
    by_cases h : i = q
    · subst h
      rw [if_pos rfl, List.map_nil, List.filter_eq_nil_iff]
      intro x hx hc
      have := hq x hx
      simp at hc; omega
    · rw [if_neg h]
  | x :: xs, r, hq => by
    have hsp := List.takeWhile_append_dropWhile (p := leB x) (l := r)
    have hqd : ∀ z ∈ r.dropWhile (leB x), z.From < q := fun z hz => hq z (by rw [← hsp]; exact List.mem_append_right _ hz)
    have hqt : ∀ z ∈ r.takeWhile (leB x), z.From < q := fun z hz => hq z (by rw [← hsp]; exact List.mem_append_left _ hz)
    rw [mgA_cons, List.filter_append, List.filter_cons, mgA_flt q i xs _ hqd]
    by_cases h : i = q
    · subst h
      have : (r.takeWhile (leB x)).filter (fun x => x.From == i) = [] := by
        rw [List.filter_eq_nil_iff]
        intro z hz hc
        have := hqt z hz
        simp at hc; omega
      simp [this, itm]
    · have h' : ((itm q x).From == i) = false := by simp [itm]; omega
      simp only [if_neg h, h', Bool.false_eq_true, if_false]
      rw [← List.filter_append, hsp]
theorem allOut_all : ∀ (t P : List (List Entry)) (out : List R19_Item), out.Pairwise (fun x y => ¬ ltH (toH y) (toH x)) → (∀ x ∈ out, 0 ≤ x.From ∧ x.From < P.length) → (∀ i : Nat, i < P.length → (out.filter (fun x => x.From == (i : Int))).map (·.Entry) = P.getD i []) → (∀ s ∈ t, Srt ltE s) →
    (allOut (P.length : Int) out t).Pairwise (fun x y => ¬ ltH (toH y) (toH x)) ∧ (∀ x ∈ allOut (P.length : Int) out t, 0 ≤ x.From ∧ x.From < (P ++ t).length) ∧ ∀ i : Nat, i < (P ++ t).length → ((allOut (P.length : Int) out t).filter (fun x => x.From == (i : Int))).map (·.Entry) = (P ++ t).getD i []
  | [], P, out, h1, h2, h3, h4 => by
    simp only [allOut, List.append_nil]
    exact ⟨h1, h2, h3⟩
  | s :: t, P, out, h1, h2, h3, h4 => by
    have e : ((P ++ [s]).length : Int) = (P.length : Int) + 1 := by simp
    have hq : ∀ x ∈ out, x.From < (P.length : Int) := fun x hx => (h2 x hx).2
    have ih := allOut_all t (P ++ [s]) (mgA (P.length : Int) out s) (mgA_srt _ s out h1 hq (h4 s (by simp))) (fun x hx => by
      rcases (mgA_mem _ s out x).1 hx with h | ⟨y, hy, rfl⟩
      · have := h2 x h; omega
      · simp only [itm]; omega) (fun i hi => by
      rw [mgA_flt _ _ s out hq]
      rw [List.length_append, List.length_singleton] at hi
      by_cases e2 : i = P.length
      · subst e2
        rw [if_pos rfl, List.map_map]
        have : ((fun x : R19_Item => x.Entry) ∘ itm (P.length : Int)) = id := rfl
        rw [this, List.map_id]
        simp [List.getD_eq_getElem?_getD]
      · rw [if_neg (by omega), h3 i (by omega)]
        simp [List.getD_eq_getElem?_getD, List.getElem?_append_left (show i < P.length by omega)]) (fun s' hs' => h4 s' (by simp [hs']))
    rw [e] at ih
    simp only [List.append_assoc, List.cons_append, List.nil_append] at ih
    simp only [allOut]
    exact ih
theorem allOf_ref (ss : List (List Entry)) (hs : ∀ s ∈ ss, Srt ltE s) : AllOf ss ((allOut 0 [] ss).map toH) := by
  obtain ⟨h1, h2, h3⟩ := allOut_all ss [] [] List.Pairwise.nil (fun x hx => by simp at hx) (fun i hi => by simp at hi) hs
  simp only [List.length_nil, Int.natCast_zero, List.nil_append, Int.ofNat_zero] at h1 h2 h3
  refine ⟨fun i hi => ?_, fun x hx => ?_, ?_⟩
  · rw [← h3 i hi, List.filter_map, List.map_map]
    rfl
  · obtain ⟨o, ho, rfl⟩ := List.mem_map.1 hx
    exact h2 o ho
  · rw [List.pairwise_map]
    exact h1
end Go.Proofs.Ytknedifgapgmbaa.Mo

set_option maxRecDepth 100000
namespace Go.Proofs.Ytknedifgapgmbaa.Mo
open Go Go.Proofs.Ytknedifgapgmbaa.Sy
theorem no_moved (v : L19_Move) : ∀ k, ∃ b, l19_moved k ⟨[], [], false, 0, false⟩ v = some (false, b, ⟨[], [], false, 0, false⟩) := by
  intro k
  have f1 : merge_Merged_First k ⟨[], [], false, 0, false⟩ = some (false, ⟨[], [], false, 0, false⟩) := rfl
  have f2 : merge_Merged_Last k ⟨[], [], false, 0, false⟩ = some (false, ⟨[], [], false, 0, false⟩) := rfl
  have f3 : merge_Merged_Seek k ⟨[], [], false, 0, false⟩ v.Key = some (false, ⟨[], [], false, 0, false⟩) := rfl
  have f4 : merge_Merged_Next k ⟨[], [], false, 0, false⟩ = some (false, ⟨[], [], false, 0, false⟩) := rfl
  have f5 : merge_Merged_Prev k ⟨[], [], false, 0, false⟩ = some (false, ⟨[], [], false, 0, false⟩) := rfl
  unfold l19_moved
  rw [f1, f2, f3, f4, f5]
  simp only [Option.bind_some]
  split
  · exact ⟨_, rfl⟩
  · split
    · exact ⟨_, rfl⟩
    · split
      · exact ⟨_, rfl⟩
      · split
        · exact ⟨_, rfl⟩
        · split
          · exact ⟨_, rfl⟩
          · exact ⟨_, rfl⟩
theorem seekL_no (k : Nat) (y : IKey) (l : merge_List) (h : l.made = false) : merge_List_Seek k l y = some (false, l) := by
  simp only [merge_List_Seek, h, Bool.not_false, if_true]
theorem nobody_l0 (a m : List Entry) (hs : Srt ltE m) (hl : m.length = a.length) (hm : m.length ≤ 3518437208883) (hr : Ev (fun k => r03_Sorted k a) m) (he : Ev (fun k => ikey_Sorted k []) []) :
    Ev (fun k => l19_MergeNobody.l0 a m k [] [Itf.nil, (Itf.ptr (⟨m, (-1), true⟩ : merge_List)), Itf.nil] 0) true := by
  have w0 : w64 (0 + 1) = 1 := by decide
  have w1 : w64 (1 + 1) = 2 := by decide
  have w2 : w64 (2 + 1) = 3 := by decide
  have d0 : decide ((0 : Int) < (([Itf.nil, (Itf.ptr (⟨m, (-1), true⟩ : merge_List)), Itf.nil] : List (Itf merge_List)).length : Int)) = true := rfl
  have d1 : decide ((1 : Int) < (([Itf.nil, (Itf.ptr (⟨m, (-1), true⟩ : merge_List)), Itf.nil] : List (Itf merge_List)).length : Int)) = true := rfl
  have d2 : decide ((2 : Int) < (([Itf.nil, (Itf.ptr (⟨m, (-1), true⟩ : merge_List)), Itf.nil] : List (Itf merge_List)).length : Int)) = true := rfl
  have d3 : decide ((3 : Int) < (([Itf.nil, (Itf.ptr (⟨m, (-1), true⟩ : merge_List)), Itf.nil] : List (Itf merge_List)).length : Int)) = false := rfl
  have t0 : Int.toNat 0 = 0 := rfl
  have t1 : Int.toNat 1 = 1 := rfl
  have t2 : Int.toNat 2 = 2 := rfl
  -- the cursor
  have hZ : AllOf [[], m, []] (m.map fun e => (⟨e, 1⟩ : merge_head)) := by
    have h := allOf_ref [[], m, []] (fun s h => by
      simp only [List.mem_cons, List.not_mem_nil, or_false] at h
      rcases h with rfl | rfl | rfl
      · exact List.Pairwise.nil
      · exact hs
      · exact List.Pairwise.nil)
    have e : (allOut 0 [] [[], m, []]).map toH = m.map fun e => (⟨e, 1⟩ : merge_head) := by
      have h1 : ∀ s : List Entry, mgA 1 [] s = s.map (itm 1) := fun s => by
        induction s with
        | nil => rfl
        | cons x s ih => rw [mgA_cons]; simp [ih]
      simp only [allOut, mgA_nil, show (0 : Int) + 1 = 1 from rfl, h1, List.map_map]
      rfl
    rwa [e] at h
  have hG : Good [[], m, []] ⟨[Itf.ptr ⟨[], -1, true⟩, Itf.ptr ⟨m, -1, true⟩, Itf.ptr ⟨[], -1, true⟩], [], false, 0, true⟩ (fun _ => -1) := ⟨rfl, rfl⟩
  obtain ⟨h', p1, p2, p3⟩ := first_eq (S := [[], m, []]) (c' := cs (m.map fun e => (⟨e, 1⟩ : merge_head)) false 0) (by simp) hG (fun i hi => by
    have e : cs (m.map fun e => (⟨e, 1⟩ : merge_head)) false 0 i = 0 := by simp [cs, ct_zero]
    rw [e]
    exact first_mv _ _)
  obtain ⟨q1, q2⟩ := At.mk hZ false 0 (Nat.zero_le _) p1 p2
  simp only [cond_false, Nat.sub_zero, List.length_map] at q1 q2
  rw [q1, hl] at p3
  have d4 : decide (0 < a.length) = decide ((0 : Int) < (a.length : Int)) := decide_eq_decide.2 (by omega)
  rw [d4] at p3
  refine Ev.succ ?_
  simp only [l19_MergeNobody.l0, d0, if_true, Jn, show idx [Itf.nil, (Itf.ptr (⟨m, (-1), true⟩ : merge_List)), Itf.nil] 0 = some Itf.nil from rfl, Option.bind_some, Itf.on, w0, t0, List.set_cons_zero]
  refine Ev.bind he ?_
  simp only [push_ok (show ([] : List (Itf merge_List)).length < 14073748835379 by simp), Option.bind_some, List.nil_append]
  refine Ev.succ ?_
  simp only [l19_MergeNobody.l0, d1, if_true, Jn, show idx [Itf.nil, (Itf.ptr (⟨m, (-1), true⟩ : merge_List)), Itf.nil] 1 = some (Itf.ptr ⟨m, -1, true⟩) from rfl, Option.bind_some, Itf.on, w1, t1, List.set_cons_succ, List.set_cons_zero, push_ok (show ([Itf.ptr (⟨[], -1, true⟩ : merge_List)] : List (Itf merge_List)).length < 14073748835379 by simp)]
  refine Ev.succ ?_
  simp only [l19_MergeNobody.l0, d2, if_true, Jn, show idx [Itf.nil, (Itf.out : Itf merge_List), Itf.nil] 2 = some Itf.nil from rfl, Option.bind_some, Itf.on, w2, t2, List.set_cons_succ, List.set_cons_zero]
  refine Ev.bind he ?_
  simp only [push_ok (show ([Itf.ptr (⟨[], -1, true⟩ : merge_List)] ++ [Itf.ptr (⟨m, -1, true⟩ : merge_List)] : List (Itf merge_List)).length < 14073748835379 by simp), Option.bind_some]
  refine Ev.succ ?_
  simp only [l19_MergeNobody.l0, d3, Bool.false_eq_true, if_false]
  refine Ev.bind p3 ?_
  simp only [beq_self_eq_true, Bool.not_true, Bool.false_eq_true, if_false]
  by_cases h0 : 0 < a.length
  · have hp : 0 < (m.map fun e => (⟨e, 1⟩ : merge_head)).length := by rw [List.length_map]; omega
    obtain ⟨H1, F1⟩ := here_eq hZ (At.yes (p := 0) q2 hp)
    have hz : (m.map fun e => (⟨e, 1⟩ : merge_head))[0]'hp = ⟨m[0]'(by omega), 1⟩ := by simp
    rw [hz] at H1 F1
    have d5 : decide ((0 : Int) < (a.length : Int)) = true := decide_eq_true (by omega)
    have i0 : idx m 0 = some (m[0]'(by omega)) := getD_idx (l := m) (i := 0) (by omega)
    simp only [H1, F1, Option.bind_some, d5]
    refine Ev.bind hr ?_
    simp only [Jn, beq_self_eq_true, if_true, Bool.not_true, Bool.false_eq_true, if_false, i0, Option.bind_some, enq]
    exact Ev.ret
  · obtain ⟨H1, F1⟩ := At.no q2 (by rw [List.length_map]; omega)
    have d5 : decide ((0 : Int) < (a.length : Int)) = false := decide_eq_false (by omega)
    simp only [H1, F1, Option.bind_some, d5]
    refine Ev.bind hr ?_
    simp only [Jn, beq_self_eq_true, if_true, Bool.not_false]
    exact Ev.ret
theorem nobody_law (a : List Entry) (ha : a.length ≤ 3518437208883) (v : L19_Move) : Ev (fun k => l19_MergeNobody k a v) true := by
  obtain ⟨m, m1, m2, m3, m4⟩ := sort_both a (by omega)
  obtain ⟨m', n1, n2, n3⟩ := isort_ev [] (by simp)
  obtain rfl : m' = [] := List.eq_nil_of_length_eq_zero n2.len.symm
  have main := nobody_l0 a m m1 m2.len.symm (by rw [← m2.len]; exact ha) m4 n3
  have z : Entry.eqb (⟨ByteArray.mk #[], 0, 0, ByteArray.mk #[]⟩ : Entry) (⟨ByteArray.mk #[], 0, 0, ByteArray.mk #[]⟩ : Entry) = true := enq _
  have l1 : merge_List_Here ⟨[], 0, false⟩ = some (⟨ByteArray.mk #[], 0, 0, ByteArray.mk #[]⟩, false) := rfl
  have l2 : merge_List_First ⟨[], 0, false⟩ = some (false, ⟨[], 0, false⟩) := rfl
  have l3 : merge_List_Last ⟨[], 0, false⟩ = some (false, ⟨[], 0, false⟩) := rfl
  have l4 : merge_List_Next ⟨[], 0, false⟩ = some (false, ⟨[], 0, false⟩) := rfl
  have l5 : merge_List_Prev ⟨[], 0, false⟩ = some (false, ⟨[], 0, false⟩) := rfl
  have g1 : merge_Merged_Here ⟨[], [], false, 0, false⟩ = some (⟨ByteArray.mk #[], 0, 0, ByteArray.mk #[]⟩, false) := rfl
  have g2 : merge_Merged_From ⟨[], [], false, 0, false⟩ = some (-1) := rfl
  have inner : Ev (fun k => (ikey_Sorted k a).bind fun r1010 => l19_MergeNobody.l0 a r1010 k ([]) ([Itf.nil, (Itf.ptr (⟨r1010, (-1), true⟩ : merge_List)), Itf.nil]) 0) true := Ev.bind m3 main
  refine Ev.congr (fun k => ?_) inner
  obtain ⟨b, hb⟩ := no_moved v k
  unfold l19_MergeNobody
  simp only [Jn, z, hb, g1, g2, l1, l2, l3, l4, l5, seekL_no k v.Key ⟨[], 0, false⟩ rfl, Option.bind_some, Bool.not_true, Bool.or_self, Bool.false_eq_true, if_false, bne_self_eq_false]
  (repeat' split) <;> rfl
end Go.Proofs.Ytknedifgapgmbaa.Mo
