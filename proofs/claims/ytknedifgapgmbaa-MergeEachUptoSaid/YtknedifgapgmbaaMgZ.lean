import Derived.Test.YtknedifgapgmbaaMgSt
import Derived.Test.YtknedifgapgmbaaSyEv
import Derived.Test.YtknedifgapgmbaaSyUq
import Derived.Test.YtknedifgapgmbaaSyArr
set_option linter.unusedVariables false
set_option linter.unusedSectionVars false
set_option linter.unusedSimpArgs false
set_option maxRecDepth 100000
namespace Go.Proofs.Ytknedifgapgmbaa.Mo
open Go Go.Proofs.Ytknedifgapgmbaa.Sy
def cE (a b : Entry) : Int := if slt a.Key b.Key then -1 else if slt b.Key a.Key then 1 else if b.Seq < a.Seq then -1 else if a.Seq < b.Seq then 1 else if b.Kind < a.Kind then -1 else if a.Kind < b.Kind then 1 else 0
abbrev ltE : Entry → Entry → Prop := ltcEntry cE
theorem ltE_iff {a b : Entry} : ltE a b ↔ slt a.Key b.Key ∨ (a.Key = b.Key ∧ (b.Seq < a.Seq ∨ (a.Seq = b.Seq ∧ b.Kind < a.Kind))) := by
  show cE a b < 0 ↔ _
  unfold cE
  rcases slt_tri a.Key b.Key with h | h | h
  · simp [h]
  · rw [h]
    simp only [slt_irrefl, if_false, false_or, true_and]
    split
    · simp [*]
    · split
      · constructor
        · intro h; omega
        · rintro (h | ⟨h, _⟩) <;> omega
      · split
        · constructor
          · intro _; exact .inr ⟨by omega, by assumption⟩
          · intro _; omega
        · split
          · constructor
            · intro h; omega
            · rintro (h | ⟨_, h⟩) <;> omega
          · constructor
            · intro h; omega
            · rintro (h | ⟨_, h⟩) <;> omega
  · have h1 := slt_asymm h
    have h2 : a.Key ≠ b.Key := fun e => by rw [e] at h; exact slt_irrefl _ h
    simp [h, h1, h2]
theorem wo_E : Wo ltE := by
  refine ⟨fun x y h k => ?_, fun x y z h k => ?_⟩
  · rw [ltE_iff] at h k
    rcases h with h | ⟨e, h⟩
    · rcases k with k | ⟨e, _⟩
      · exact slt_asymm h k
      · rw [e] at h; exact slt_irrefl _ h
    · rcases k with k | ⟨_, k⟩
      · rw [e] at k; exact slt_irrefl _ k
      · omega
  · rw [ltE_iff] at h k ⊢
    rintro (g | ⟨e, g⟩)
    · rcases slt_tri x.Key y.Key with h1 | h1 | h1
      · exact h (.inl h1)
      · rw [h1] at g; exact k (.inl g)
      · exact k (.inl (slt_trans h1 g))
    · rcases slt_tri x.Key y.Key with h1 | h1 | h1
      · exact h (.inl h1)
      · have h2 : ¬ (y.Seq < x.Seq ∨ (x.Seq = y.Seq ∧ y.Kind < x.Kind)) := fun c => h (.inr ⟨h1, c⟩)
        have k2 : ¬ (z.Seq < y.Seq ∨ (y.Seq = z.Seq ∧ z.Kind < y.Kind)) := fun c => k (.inr ⟨h1.symm.trans e, c⟩)
        omega
      · rw [e] at h1; exact k (.inl h1)
theorem entries_eq (k : Nat) (a b : Entry) : ikey_entries (k + 4) a b = some (cE a b) := by
  have w1 : w64 (0 + 1) = 1 := by decide
  have w2 : w64 (1 + 1) = 2 := by decide
  have w3 : w64 (2 + 1) = 3 := by decide
  have key : ∀ p q r : Int, cmp_Or_int (k + 4) [p, q, r] = some (if p ≠ 0 then p else if q ≠ 0 then q else if r ≠ 0 then r else 0) := by
    intro p q r
    have i0 : idx [p, q, r] 0 = some p := rfl
    have i1 : idx [p, q, r] 1 = some q := rfl
    have i2 : idx [p, q, r] 2 = some r := rfl
    have l0 : decide ((0 : Int) < ([p, q, r].length : Int)) = true := rfl
    have l1 : decide ((1 : Int) < ([p, q, r].length : Int)) = true := rfl
    have l2 : decide ((2 : Int) < ([p, q, r].length : Int)) = true := rfl
    have l3 : decide ((3 : Int) < ([p, q, r].length : Int)) = false := rfl
    simp only [cmp_Or_int, cmp_Or_int.l0, i0, i1, i2, l0, l1, l2, l3, if_true, Option.bind_some, w1, w2, w3, bne_iff_ne, Bool.false_eq_true, if_false]
    split
    · rfl
    · split
      · rfl
      · split <;> rfl
  unfold ikey_entries ikey_Compare
  simp only [strings_Compare, internal_bytealg_CompareString, Option.bind_some]
  have hu : cmp_Compare_uint64 b.Seq a.Seq = some (if b.Seq < a.Seq then -1 else if a.Seq < b.Seq then 1 else 0) := by
    simp only [cmp_Compare_uint64, cmp_isNaN_uint64, bne_self_eq_false, Option.bind_some, Bool.false_eq_true, if_false, decide_eq_true_eq]
    split
    · rfl
    · split <;> rfl
  have hi : cmp_Compare_int b.Kind a.Kind = some (if b.Kind < a.Kind then -1 else if a.Kind < b.Kind then 1 else 0) := by
    simp only [cmp_Compare_int, cmp_isNaN_int, bne_self_eq_false, Option.bind_some, Bool.false_eq_true, if_false, decide_eq_true_eq]
    split
    · rfl
    · split <;> rfl
  rw [hu, hi]
  simp only [Option.bind_some, key]
  congr 1
  unfold cE ordS
  simp only [sLt_iff]
  by_cases h1 : slt a.Key b.Key
  · simp [h1]
  · by_cases h2 : slt b.Key a.Key
    · simp [h1, h2]
    · by_cases h3 : b.Seq < a.Seq
      · simp [h1, h2, h3]
      · by_cases h4 : a.Seq < b.Seq
        · simp [h1, h2, h3, h4]
        · by_cases h5 : b.Kind < a.Kind
          · simp [h1, h2, h3, h4, h5]
          · by_cases h6 : a.Kind < b.Kind
            · simp [h1, h2, h3, h4, h5, h6]
            · simp [h1, h2, h3, h4, h5, h6]
theorem rcomp_eq (a b : Entry) : r03_Compare (⟨a.Key, a.Seq, a.Kind⟩ : IKey) (⟨b.Key, b.Seq, b.Kind⟩ : IKey) = some (cE a b) := by
  unfold r03_Compare cE
  rcases slt_tri a.Key b.Key with h | h | h
  · have hne : sEq a.Key b.Key = false := by
      rw [Bool.eq_false_iff, ne_eq, sEq_iff]
      intro e; rw [e] at h; exact slt_irrefl _ h
    simp [hne, h, sLt_iff.2 h]
  · have he : sEq a.Key b.Key = true := sEq_iff.2 h
    rw [h] at he ⊢
    simp only [he, slt_irrefl, Bool.not_true, Bool.false_eq_true, if_false]
    by_cases h3 : b.Seq < a.Seq
    · have : a.Seq ≠ b.Seq := by omega
      simp [this, h3]
    · by_cases h4 : a.Seq < b.Seq
      · have : a.Seq ≠ b.Seq := by omega
        simp [this, h3, h4]
      · have e2 : a.Seq = b.Seq := by omega
        by_cases h5 : b.Kind < a.Kind
        · have : a.Kind ≠ b.Kind := by omega
          simp [e2, this, h5]
        · by_cases h6 : a.Kind < b.Kind
          · have : a.Kind ≠ b.Kind := by omega
            simp [e2, this, h5, h6]
          · have e3 : a.Kind = b.Kind := by omega
            simp [e2, e3]
  · have hne : sEq a.Key b.Key = false := by
      rw [Bool.eq_false_iff, ne_eq, sEq_iff]
      intro e; rw [e] at h; exact slt_irrefl _ h
    have h1 := slt_asymm h
    simp [hne, h, h1, sLt_false.2 h1]
theorem isort_ev (l : List Entry) (hl : l.length ≤ 4691249611691) : ∃ m, Srt ltE m ∧ Sst ltE l m ∧ Ev (fun k => ikey_Sorted k l) m := by
  obtain ⟨m, h1, h2, n, h3⟩ := stable_Entry (cmp := fun x y => some (cE x y)) (c := cE) (fun _ _ => rfl) wo_E l (by omega)
  refine ⟨m, h1, h2, n + 4, fun k hk => ?_⟩
  obtain ⟨j, rfl⟩ : ∃ j, k = j + 4 := ⟨k - 4, by omega⟩
  have e : (fun x0 x1 => ikey_entries (j + 4) x0 x1) = fun x y => some (cE x y) := by
    funext x y; exact entries_eq j x y
  unfold ikey_Sorted
  simp only [slices_Clone_Entry, pushN_ok (show ([] : List Entry).length + l.length ≤ 4691249611691 by rw [List.length_nil]; omega), Option.bind_some, List.nil_append, e]
  have := h3 (j + 4) (by omega)
  simp only at this
  rw [this]
  rfl
theorem merge_ev : ∀ (n : Nat) (a b out : List Entry), a.length + b.length = n → out.length + a.length + b.length ≤ 4691249611691 → Srt ltE a → Srt ltE b →
    ∃ m, Srt ltE m ∧ Sst ltE (a ++ b) m ∧ Ev (fun k => r03_Sorted.l0 (fun l_34 l_37 l_41 => (pushN 4691249611691 l_41 l_34).bind fun l114 => (pushN 4691249611691 l114 l_37).bind fun l117 => some l117) k a b out) (out ++ m) := by
  have stop : ∀ (a b out : List Entry), (a = [] ∨ b = []) → out.length + a.length + b.length ≤ 4691249611691 → Ev (fun k => r03_Sorted.l0 (fun l_34 l_37 l_41 => (pushN 4691249611691 l_41 l_34).bind fun l114 => (pushN 4691249611691 l114 l_37).bind fun l117 => some l117) k a b out) (out ++ (a ++ b)) := by
    intro a b out h hl
    refine Ev.succ ?_
    have hc : (decide (0 < (a.length : Int)) && decide (0 < (b.length : Int))) = false := by
      rcases h with rfl | rfl <;> simp
    simp only [r03_Sorted.l0, hc, Bool.false_eq_true, if_false, pushN_ok (show out.length + a.length ≤ 4691249611691 by omega), Option.bind_some, pushN_ok (show (out ++ a).length + b.length ≤ 4691249611691 by rw [List.length_append]; omega)]
    rw [List.append_assoc]
    exact Ev.ret
  intro n
  induction n with
  | zero =>
    intro a b out hn hl ha hb
    have : a = [] := List.eq_nil_of_length_eq_zero (by omega)
    subst this
    exact ⟨b, hb, Sst.refl b, stop [] b out (.inl rfl) hl⟩
  | succ n ih =>
    intro a b out hn hl ha hb
    cases a with
    | nil => exact ⟨b, hb, Sst.refl b, stop [] b out (.inl rfl) hl⟩
    | cons x a =>
      cases b with
      | nil => exact ⟨x :: a, ha, by rw [List.append_nil]; exact Sst.refl _, by have := stop (x :: a) [] out (.inr rfl) hl; rwa [List.append_nil] at this⟩
      | cons y b =>
        have ha' := List.pairwise_cons.1 ha
        have hb' := List.pairwise_cons.1 hb
        simp only [List.length_cons] at hn hl
        have hc : (decide (0 < ((x :: a).length : Int)) && decide (0 < ((y :: b).length : Int))) = true := by simp
        have i1 : idx (x :: a) 0 = some x := rfl
        have i2 : idx (y :: b) 0 = some y := rfl
        have c1 : ∀ (z : Entry) (t : List Entry), cut (z :: t) 1 ((z :: t).length : Int) = some t := fun z t => by
          unfold cut
          rw [if_pos ⟨by omega, by simp; omega, by omega⟩]
          simp
        by_cases hle : cE x y ≤ 0
        · have hyx : ¬ ltE y x := by
            intro h
            have := wo_E.asymm _ _ h
            rw [ltE_iff] at h this
            by_cases e : cE x y = 0
            · unfold cE at e
              rcases h with h | ⟨h0, h⟩
              · have := slt_asymm h
                simp [h, this] at e
              · rw [h0] at e
                simp only [slt_irrefl, if_false] at e
                split at e
                · omega
                · split at e
                  · omega
                  · split at e
                    · omega
                    · split at e <;> omega
            · exact wo_E.asymm _ _ (show ltE x y from (by show cE x y < 0; omega)) (ltE_iff.2 h)
          obtain ⟨m, m1, m2, m3⟩ := ih a (y :: b) (out ++ [x]) (by simp; omega) (by simp; omega) ha'.2 hb
          refine ⟨x :: m, List.pairwise_cons.2 ⟨fun z hz => ?_, m1⟩, by have := (Sst.refl [x]).app m2; simpa using this, Ev.succ ?_⟩
          · have hz' := m2.1.mem_iff.2 hz
            rcases List.mem_append.1 hz' with hz' | hz'
            · exact ha'.1 z hz'
            · rcases List.mem_cons.1 hz' with rfl | hz'
              · exact hyx
              · exact wo_E.neg z y x (hb'.1 z hz') hyx
          · simp only [r03_Sorted.l0, hc, if_true, i1, i2, r03_Key, Option.bind_some, rcomp_eq, hle, decide_true, push_ok (show out.length < 4691249611691 by omega), c1]
            simpa using m3
        · have hyx : ltE y x := by
            rw [ltE_iff]
            unfold cE at hle
            rcases slt_tri x.Key y.Key with h | h | h
            · simp [h] at hle
            · right
              rw [h] at hle
              simp only [slt_irrefl, if_false] at hle
              refine ⟨h.symm, ?_⟩
              split at hle
              · omega
              · split at hle
                · left; assumption
                · split at hle
                  · omega
                  · split at hle
                    · right; exact ⟨by omega, by assumption⟩
                    · omega
            · exact .inl h
          obtain ⟨m, m1, m2, m3⟩ := ih (x :: a) b (out ++ [y]) (by simp; omega) (by simp; omega) ha hb'.2
          have hall : ∀ z ∈ x :: a, ltE y z := fun z hz => by
            rcases List.mem_cons.1 hz with rfl | hz
            · exact hyx
            · exact wo_E.lt_le hyx (ha'.1 z hz)
          refine ⟨y :: m, List.pairwise_cons.2 ⟨fun z hz => ?_, m1⟩, ?_, Ev.succ ?_⟩
          · have hz' := m2.1.mem_iff.2 hz
            rcases List.mem_append.1 hz' with hz' | hz'
            · exact wo_E.asymm _ _ (hall z hz')
            · exact hb'.1 z hz'
          · have h1 : Sst ltE ((x :: a) ++ [y]) ([y] ++ (x :: a)) := Sst.swap wo_E (fun z hz w hw => by simp at hw; subst hw; exact hall z hz)
            have h2 := h1.app (Sst.refl b)
            have h3 := (Sst.refl [y]).app m2
            refine Sst.trans (b := [y] ++ (x :: a) ++ b) (by simpa using h2) (by simpa using h3)
          · simp only [r03_Sorted.l0, hc, if_true, i1, i2, r03_Key, Option.bind_some, rcomp_eq, hle, decide_false, Bool.false_eq_true, if_false, push_ok (show out.length < 4691249611691 by omega), c1]
            simpa using m3
theorem rsort_ev : ∀ (n : Nat) (l : List Entry), l.length ≤ n → l.length ≤ 4691249611691 → ∃ m, Srt ltE m ∧ Sst ltE l m ∧ Ev (fun k => r03_Sorted k l) m := by
  intro n
  induction n with
  | zero =>
    intro l hn hl
    have : l = [] := List.eq_nil_of_length_eq_zero (by omega)
    subst this
    exact ⟨[], Srt.nil, Sst.refl _, Ev.succ Ev.ret⟩
  | succ n ih =>
    intro l hn hl
    by_cases h2 : l.length < 2
    · refine ⟨l, ?_, Sst.refl l, Ev.succ ?_⟩
      · match l, h2 with
        | [], _ => exact Srt.nil
        | [x], _ => exact Srt.one x
      · have hd : decide ((l.length : Int) < 2) = true := decide_eq_true (by omega)
        simp only [r03_Sorted, hd, if_true, pushN_ok (show ([] : List Entry).length + l.length ≤ 4691249611691 by rw [List.length_nil]; omega), Option.bind_some, List.nil_append]
        exact Ev.ret
    · have hd : decide ((l.length : Int) < 2) = false := decide_eq_false (by omega)
      have hm : w64 (Int.tdiv (l.length : Int) 2) = ((l.length / 2 : Nat) : Int) := by
        have : Int.tdiv (l.length : Int) 2 = ((l.length / 2 : Nat) : Int) := by
          rw [Int.tdiv_eq_ediv_of_nonneg (by omega)]; omega
        rw [this]; exact w64_of (by omega) (by omega)
      have hc1 : cut l 0 ((l.length / 2 : Nat) : Int) = some (l.take (l.length / 2)) := by
        unfold cut
        rw [if_pos ⟨by omega, by omega, by omega⟩, Int.toNat_natCast]
        rfl
      have hc2 : cut l ((l.length / 2 : Nat) : Int) (l.length : Int) = some (l.drop (l.length / 2)) := by
        unfold cut
        rw [if_pos ⟨by omega, by omega, by omega⟩, Int.toNat_natCast, Int.toNat_natCast, List.take_length]
      obtain ⟨a, a1, a2, a3⟩ := ih (l.take (l.length / 2)) (by rw [List.length_take]; omega) (by rw [List.length_take]; omega)
      obtain ⟨b, b1, b2, b3⟩ := ih (l.drop (l.length / 2)) (by rw [List.length_drop]; omega) (by rw [List.length_drop]; omega)
      have la := a2.len
      have lb := b2.len
      rw [List.length_take] at la
      rw [List.length_drop] at lb
      obtain ⟨m, m1, m2, m3⟩ := merge_ev _ a b [] rfl (by rw [List.length_nil]; omega) a1 b1
      refine ⟨m, m1, Sst.trans ?_ m2, Ev.succ ?_⟩
      · have := a2.app b2
        rwa [List.take_append_drop] at this
      · simp only [r03_Sorted, hd, Bool.false_eq_true, if_false, hm, hc1, hc2, Option.bind_some, Jn]
        refine Ev.bind a3 ?_
        refine Ev.bind b3 ?_
        simpa using m3
theorem sort_both (l : List Entry) (hl : l.length ≤ 4691249611691) : ∃ m, Srt ltE m ∧ Sst ltE l m ∧ Ev (fun k => ikey_Sorted k l) m ∧ Ev (fun k => r03_Sorted k l) m := by
  obtain ⟨m, h1, h2, h3⟩ := isort_ev l hl
  obtain ⟨m', g1, g2, g3⟩ := rsort_ev _ l (Nat.le_refl _) hl
  have : m = m' := Sst.uniq wo_E h1 g1 (h2.symm.trans g2)
  subst this
  exact ⟨m, h1, h2, h3, g3⟩
end Go.Proofs.Ytknedifgapgmbaa.Mo

set_option maxRecDepth 100000
namespace Go.Proofs.Ytknedifgapgmbaa.Mo
open Go Go.Proofs.Ytknedifgapgmbaa.Sy
def itm (q : Int) (e : Entry) : R19_Item := ⟨e, q⟩
def keyE (k : IKey) : Entry := ⟨k.Key, k.Seq, k.Kind, ByteArray.mk #[]⟩
theorem comp_eq (k : Nat) (x y : IKey) : ikey_Compare (k + 4) x y = some (cE (keyE x) (keyE y)) := by
  have := entries_eq k (keyE x) (keyE y)
  unfold ikey_entries at this
  have e : (⟨(keyE x).Key, (keyE x).Seq, (keyE x).Kind⟩ : IKey) = x := by cases x; rfl
  have e2 : (⟨(keyE y).Key, (keyE y).Seq, (keyE y).Kind⟩ : IKey) = y := by cases y; rfl
  rw [e, e2] at this
  cases h : ikey_Compare (k + 4) x y with
  | none => rw [h] at this; cases this
  | some v => rw [h] at this; exact this
theorem rcomp (x y : IKey) : r03_Compare x y = some (cE (keyE x) (keyE y)) := by
  have := rcomp_eq (keyE x) (keyE y)
  cases x; cases y; exact this
theorem tw_imp {α : Type} {f : α → Bool} {x : α} : ∀ {l : List α}, x ∈ l.takeWhile f → f x = true
  | [], h => by simp at h
  | a :: l, h => by
    rw [List.takeWhile_cons] at h
    split at h
    · rcases List.mem_cons.1 h with e | e
      · subst e; assumption
      · exact tw_imp e
    · simp at h
def clampI (n : Nat) (x : Int) : Int := minI (maxI x (-1)) (n : Int)
theorem enq (x : Entry) : Entry.eqb x x = true := by cases x; simp [Entry.eqb, sEq_refl]
theorem clamp_in (n : Nat) (x : Int) (h : -1 ≤ x ∧ x ≤ n) : clampI n x = x := by unfold clampI minI maxI; (repeat' split) <;> omega
end Go.Proofs.Ytknedifgapgmbaa.Mo

set_option maxRecDepth 100000
namespace Go.Proofs.Ytknedifgapgmbaa.Mo
open Go Go.Proofs.Ytknedifgapgmbaa.Sy
theorem cE_anti (a b : Entry) : 0 < cE a b ↔ cE b a < 0 := by
  unfold cE
  rcases slt_tri a.Key b.Key with h | h | h
  · have h1 := slt_asymm h
    simp [h, h1]
  · rw [h]
    simp only [slt_irrefl, if_false]
    by_cases h3 : b.Seq < a.Seq
    · have : ¬ a.Seq < b.Seq := by omega
      simp [h3, this]
    · by_cases h4 : a.Seq < b.Seq
      · simp [h3, h4]
      · by_cases h5 : b.Kind < a.Kind
        · have : ¬ a.Kind < b.Kind := by omega
          simp [h3, h4, h5, this]
        · by_cases h6 : a.Kind < b.Kind
          · simp [h3, h4, h5, h6]
          · simp [h3, h4, h5, h6]
  · have h1 := slt_asymm h
    simp [h, h1]
theorem cE_le {a b : Entry} : cE a b ≤ 0 ↔ ¬ ltE b a := by
  show _ ↔ ¬ cE b a < 0
  rw [← cE_anti]
  omega
def leB (x : Entry) (o : R19_Item) : Bool := decide (cE o.Entry x ≤ 0)
/-- A list's entries go in among those that are there. -/
def mg (q : Int) : List R19_Item → List Entry → List R19_Item × List R19_Item
  | r, [] => ([], r)
  | r, x :: xs => (r.takeWhile (leB x) ++ itm q x :: (mg q (r.dropWhile (leB x)) xs).1, (mg q (r.dropWhile (leB x)) xs).2)
def mgA (q : Int) (r : List R19_Item) (s : List Entry) : List R19_Item := (mg q r s).1 ++ (mg q r s).2
theorem mgA_nil (q : Int) (r : List R19_Item) : mgA q r [] = r := rfl
theorem mgA_cons (q : Int) (r : List R19_Item) (x : Entry) (xs : List Entry) : mgA q r (x :: xs) = r.takeWhile (leB x) ++ itm q x :: mgA q (r.dropWhile (leB x)) xs := by
  unfold mgA
  rw [mg]
  simp
theorem mgA_sst (q : Int) : ∀ (s : List Entry) (r : List R19_Item), Srt ltE (r.map (·.Entry)) → Srt ltE s → Srt ltE ((mgA q r s).map (·.Entry)) ∧ Sst ltE (r.map (·.Entry) ++ s) ((mgA q r s).map (·.Entry))
  | [], r, hr, hs => by
    rw [mgA_nil, List.append_nil]
    exact ⟨hr, Sst.refl _⟩
  | x :: xs, r, hr, hs => by
    have hs' := List.pairwise_cons.1 hs
    have hsplit := List.takeWhile_append_dropWhile (p := leB x) (l := r)
    have hr2 : Srt ltE ((r.takeWhile (leB x)).map (·.Entry) ++ (r.dropWhile (leB x)).map (·.Entry)) := by rw [← List.map_append, hsplit]; exact hr
    obtain ⟨p1, p2, p3⟩ := Srt.app.1 hr2
    obtain ⟨i1, i2⟩ := mgA_sst q xs (r.dropWhile (leB x)) p2 hs'.2
    have hgt : ∀ y ∈ (r.dropWhile (leB x)).map (·.Entry), ltE x y := by
      intro y hy
      obtain ⟨o, ho, rfl⟩ := List.mem_map.1 hy
      cases hd : r.dropWhile (leB x) with
      | nil => rw [hd] at ho; simp at ho
      | cons f d =>
        have hf : leB x f = false := by
          have := List.head_dropWhile_not (leB x) (l := r) (by rw [hd]; simp)
          simpa [hd] using this
        have hxf : ltE x f.Entry := by
          have h0 : ¬ cE f.Entry x ≤ 0 := of_decide_eq_false hf
          rw [cE_le] at h0
          exact Classical.not_not.1 h0
        rw [hd] at ho p2
        rcases List.mem_cons.1 ho with e | e
        · subst e; exact hxf
        · have := (List.pairwise_cons.1 p2).1 o.Entry (List.mem_map.2 ⟨o, e, rfl⟩)
          exact wo_E.lt_le hxf this
    have hle : ∀ y ∈ (r.takeWhile (leB x)).map (·.Entry), ¬ ltE x y := by
      intro y hy
      obtain ⟨o, ho, rfl⟩ := List.mem_map.1 hy
      have := tw_imp ho
      exact cE_le.1 (of_decide_eq_true this)
    have hrest : ∀ z ∈ (mgA q (r.dropWhile (leB x)) xs).map (·.Entry), z ∈ (r.dropWhile (leB x)).map (·.Entry) ∨ z ∈ xs := fun z hz => List.mem_append.1 (i2.1.mem_iff.2 hz)
    rw [mgA_cons, List.map_append, List.map_cons]
    refine ⟨Srt.app.2 ⟨p1, List.pairwise_cons.2 ⟨fun z hz => ?_, i1⟩, fun y hy z hz => ?_⟩, ?_⟩
    · rcases hrest z hz with h | h
      · exact wo_E.asymm _ _ (hgt z h)
      · exact hs'.1 z h
    · rcases List.mem_cons.1 hz with h | h
      · subst h; exact hle y hy
      · rcases hrest z h with h | h
        · exact p3 y hy z h
        · exact wo_E.neg z x y (hs'.1 z h) (hle y hy)
    · have e1 : r.map (·.Entry) ++ x :: xs = (r.takeWhile (leB x)).map (·.Entry) ++ ((r.dropWhile (leB x)).map (·.Entry) ++ [x]) ++ xs := by
        have e0 : r.map (·.Entry) = (r.takeWhile (leB x)).map (·.Entry) ++ (r.dropWhile (leB x)).map (·.Entry) := by rw [← List.map_append, hsplit]
        rw [e0]
        simp only [List.append_assoc, List.singleton_append]
      rw [e1]
      have h1 : Sst ltE ((r.dropWhile (leB x)).map (·.Entry) ++ [x]) ([x] ++ (r.dropWhile (leB x)).map (·.Entry)) := Sst.swap wo_E (fun z hz w hw => by simp at hw; subst hw; exact hgt z hz)
      have h2 := ((Sst.refl ((r.takeWhile (leB x)).map (·.Entry))).app h1).app (Sst.refl xs)
      have h3 := (Sst.refl ((r.takeWhile (leB x)).map (·.Entry) ++ [x])).app i2
      refine Sst.trans h2 ?_
      have e2 : (r.takeWhile (leB x)).map (·.Entry) ++ ([x] ++ (r.dropWhile (leB x)).map (·.Entry)) ++ xs = (r.takeWhile (leB x)).map (·.Entry) ++ [x] ++ ((r.dropWhile (leB x)).map (·.Entry) ++ xs) := by simp
      rw [e2]
      have e3 : (r.takeWhile (leB x)).map (·.Entry) ++ [x] ++ (mgA q (r.dropWhile (leB x)) xs).map (·.Entry) = (r.takeWhile (leB x)).map (·.Entry) ++ (itm q x).Entry :: (mgA q (r.dropWhile (leB x)) xs).map (·.Entry) := by simp [itm]
      rw [e3] at h3
      exact h3
theorem mgA_len (q : Int) (s : List Entry) (r : List R19_Item) : (mgA q r s).length = r.length + s.length := by
  induction s generalizing r with
  | nil => rw [mgA_nil]; rfl
  | cons x xs ih =>
    rw [mgA_cons, List.length_append, List.length_cons, ih]
    have := congrArg List.length (List.takeWhile_append_dropWhile (p := leB x) (l := r))
    rw [List.length_append] at this
    simp only [List.length_cons]
    omega
theorem all_l2 (l : List R19_Item) (s : List Entry) (hl : l.length ≤ 3518437208883) (j : Nat) (x : Entry) (hx : s[j]? = some x) (R : List R19_Item) : ∀ (r p now : List R19_Item) (J : Nat → List R19_Item → Int → Option (List R19_Item)), l = p ++ r → now.length + r.length ≤ 4021071095712 →
    Ev (fun k => J k (now ++ r.takeWhile (leB x)) ((p ++ r.takeWhile (leB x)).length : Int)) R → Ev (fun k => r19_All.l2 l s (j : Int) (J k) k now (p.length : Int)) R
  | [], p, now, J, hp, hn, hJ => by
    have e1 : decide ((p.length : Int) < (l.length : Int)) = false := by rw [hp]; exact lt_end p
    refine Ev.succ ?_
    simp only [r19_All.l2, Jn, e1, Bool.false_eq_true, if_false]
    simpa using hJ.shift
  | o :: r, p, now, J, hp, hn, hJ => by
    have e1 : decide ((p.length : Int) < (l.length : Int)) = true := by rw [hp]; exact lt_at p r o
    have e2 : idx l (p.length : Int) = some o := by rw [hp]; exact idx_at p o r
    have e3 : idx s (j : Int) = some x := by rw [idx_nat, hx]
    have hw := step_at p r o (by rw [← hp, maxLen_val]; omega)
    have hc : cE (keyE (⟨o.Entry.Key, o.Entry.Seq, o.Entry.Kind⟩ : IKey)) (keyE (⟨x.Key, x.Seq, x.Kind⟩ : IKey)) = cE o.Entry x := rfl
    refine Ev.succ ?_
    simp only [r19_All.l2, Jn, e1, if_true, e2, e3, Option.bind_some, r03_Key, rcomp, hc, hw]
    rw [List.takeWhile_cons] at hJ
    by_cases h : leB x o = true
    · have h' : cE o.Entry x ≤ 0 := of_decide_eq_true h
      rw [if_pos h] at hJ
      simp only [decide_eq_true h', if_true, push_ok (show now.length < 4021071095713 by simp only [List.length_cons] at hn; omega), Option.bind_some]
      refine all_l2 l s hl j x hx R r (p ++ [o]) (now ++ [o]) (fun k => J (k + 1)) (by simp [hp]) (by simp at hn ⊢; omega) ?_
      simpa using hJ.shift
    · have h' : ¬ cE o.Entry x ≤ 0 := of_decide_eq_false (Bool.eq_false_iff.2 h)
      rw [if_neg h] at hJ
      simp only [decide_eq_false h', Bool.false_eq_true, if_false]
      simpa using hJ.shift
theorem all_l1' (l : List R19_Item) (s : List Entry) (hl : l.length ≤ 3518437208883) (hs : s.length ≤ 3518437208883) (q : Int) (R : List R19_Item) : ∀ (xs ps : List Entry) (r p now : List R19_Item) (J : Nat → List R19_Item → Int → Option (List R19_Item)), s = ps ++ xs → l = p ++ r → now.length + r.length + xs.length ≤ 4021071095712 →
    (∀ p', l = p' ++ (mg q r xs).2 → Ev (fun k => J k (now ++ (mg q r xs).1) (p'.length : Int)) R) → Ev (fun k => r19_All.l1 l q s (J k) k now (p.length : Int) (ps.length : Int)) R
  | [], ps, r, p, now, J, hps, hp, hn, hJ => by
    have e1 : decide ((ps.length : Int) < (s.length : Int)) = false := by rw [hps]; exact lt_end ps
    refine Ev.succ ?_
    simp only [r19_All.l1, e1, Bool.false_eq_true, if_false]
    have := (hJ p hp).shift
    simpa [mg] using this
  | x :: xs, ps, r, p, now, J, hps, hp, hn, hJ => by
    have e1 : decide ((ps.length : Int) < (s.length : Int)) = true := by rw [hps]; exact lt_at ps xs x
    have e2 : idx s (ps.length : Int) = some x := by rw [hps]; exact idx_at ps x xs
    have hx : s[ps.length]? = some x := by rw [hps]; simp
    have hw := step_at ps xs x (by rw [← hps, maxLen_val]; omega)
    have hlen := congrArg List.length (List.takeWhile_append_dropWhile (p := leB x) (l := r))
    rw [List.length_append] at hlen
    simp only [List.length_cons] at hn
    refine Ev.succ ?_
    simp only [r19_All.l1, e1, if_true, Jn]
    refine all_l2 l s hl ps.length x hx R r p now (fun k l_9297 i_9298 => (idx s (ps.length : Int)).bind fun x28660 => (push 4021071095713 l_9297 (⟨x28660, q⟩ : R19_Item)).bind fun l28663 => r19_All.l1 l q s (J (k + 1)) k l28663 i_9298 (w64 ((ps.length : Int) + 1))) hp (by omega) ?_
    simp only [e2, Option.bind_some, push_ok (show (now ++ r.takeWhile (leB x)).length < 4021071095713 by rw [List.length_append]; omega), hw]
    refine all_l1' l s hl hs q R xs (ps ++ [x]) (r.dropWhile (leB x)) (p ++ r.takeWhile (leB x)) (now ++ r.takeWhile (leB x) ++ [(⟨x, q⟩ : R19_Item)]) (fun k => J (k + 1)) (by simp [hps]) (by rw [List.append_assoc, List.takeWhile_append_dropWhile]; exact hp) (by simp only [List.length_append, List.length_singleton]; omega) ?_
    intro p' hp'
    have := (hJ p' hp').shift
    simpa [mg, itm] using this
def allOut : Int → List R19_Item → List (List Entry) → List R19_Item
  | _, out, [] => out
  | q, out, s :: r => allOut (q + 1) (mgA q out s) r
theorem all_l0 (a : List (List Entry)) (ss : List (List Entry)) (ha : a.length ≤ 1048576) (tot : Nat) (ht : tot ≤ 1048576) : ∀ (t p : List (List Entry)) (t' : List (List Entry)) (out : List R19_Item), a = p ++ t → t.length = t'.length → (∀ (i : Nat) (l m : List Entry), t[i]? = some l → t'[i]? = some m → Ev (fun k => r03_Sorted k l) m) →
    out.length + (t'.map List.length).sum ≤ tot → Ev (fun k => r19_All.l0 a k out (p.length : Int)) (allOut (p.length : Int) out t')
  | [], p, t', out, hp, ht', hs, hl => by
    have e1 : decide ((p.length : Int) < (a.length : Int)) = false := by rw [hp]; exact lt_end p
    have : t' = [] := List.eq_nil_of_length_eq_zero ht'.symm
    subst this
    refine Ev.succ ?_
    simp only [r19_All.l0, e1, Bool.false_eq_true, if_false, allOut]
    exact Ev.ret
  | l :: t, p, t', out, hp, ht', hs, hl => by
    cases t' with
    | nil => simp at ht'
    | cons m t' =>
      have e1 : decide ((p.length : Int) < (a.length : Int)) = true := by rw [hp]; exact lt_at p t l
      have e2 : idx a (p.length : Int) = some l := by rw [hp]; exact idx_at p l t
      have hpl : p.length + 1 ≤ a.length := by rw [hp]; simp
      have hw := step_at p t l (by rw [← hp, maxLen_val]; omega)
      simp only [List.map_cons, List.sum_cons] at hl
      refine Ev.succ ?_
      simp only [r19_All.l0, e1, if_true, e2, Option.bind_some, Jn, hw]
      refine Ev.bind (hs 0 l m rfl rfl) ?_
      refine all_l1' out m (by omega) (by omega) (p.length : Int) _ m [] out [] [] (fun k l_8865 i_8866 => (cut out i_8866 (out.length : Int)).bind fun l27160 => (pushN 4021071095713 l_8865 l27160).bind fun l27161 => r19_All.l0 a k l27161 ((p ++ [l]).length : Int)) rfl rfl (by simp; omega) ?_
      intro p' hp'
      have hple : p'.length ≤ out.length := by have := congrArg List.length hp'; rw [List.length_append] at this; omega
      have hcut : cut out (p'.length : Int) (out.length : Int) = some (mg (p.length : Int) out m).2 := by
        rw [cut_drop rfl hple]
        congr 1
        conv => lhs; rw [hp']
        exact List.drop_left
      have hml := mgA_len (p.length : Int) m out
      have hml2 := hml
      unfold mgA at hml2
      rw [List.length_append] at hml2
      simp only [hcut, Option.bind_some, List.nil_append, pushN_ok (show (mg (p.length : Int) out m).1.length + (mg (p.length : Int) out m).2.length ≤ 4021071095713 by omega)]
      have := all_l0 a ss ha tot ht t (p ++ [l]) t' (mgA (p.length : Int) out m) (by simp [hp]) (by simpa using ht') (fun i l' m' h1 h2 => hs (i + 1) l' m' (by simpa using h1) (by simpa using h2)) (by omega)
      have e3 : ((p ++ [l]).length : Int) = (p.length : Int) + 1 := by simp
      rw [e3] at this
      rw [e3, allOut]
      exact this
theorem allOut_sst : ∀ (t' : List (List Entry)) (q : Int) (out : List R19_Item) (t : List (List Entry)), t.length = t'.length → (∀ (i : Nat) (l m : List Entry), t[i]? = some l → t'[i]? = some m → Srt ltE m ∧ Sst ltE l m) → Srt ltE (out.map (·.Entry)) → Srt ltE ((allOut q out t').map (·.Entry)) ∧ Sst ltE (out.map (·.Entry) ++ t.flatten) ((allOut q out t').map (·.Entry))
  | [], q, out, t, ht, h, ho => by
    have : t = [] := List.eq_nil_of_length_eq_zero ht
    subst this
    simp only [allOut, List.flatten_nil, List.append_nil]
    exact ⟨ho, Sst.refl _⟩
  | m :: t', q, out, [], ht, h, ho => by simp at ht
  | m :: t', q, out, l :: t, ht, h, ho => by
    obtain ⟨h1, h2⟩ := h 0 l m rfl rfl
    obtain ⟨g1, g2⟩ := mgA_sst q m out ho h1
    obtain ⟨k1, k2⟩ := allOut_sst t' (q + 1) (mgA q out m) t (by simpa using ht) (fun i l' m' a b => h (i + 1) l' m' (by simpa using a) (by simpa using b)) g1
    refine ⟨k1, ?_⟩
    rw [List.flatten_cons, ← List.append_assoc]
    refine Sst.trans ?_ k2
    exact (((Sst.refl _).app h2).trans g2).app (Sst.refl _)
theorem lent_l0 (a : List (List Entry)) (ha : a.length ≤ 1048576) (hs : ∀ l ∈ a, l.length ≤ 1048576) : ∀ (t p : List (List Entry)), a = p ++ t → Ev (fun k => l19_lent.l0 a k p (p.length : Int)) a
  | [], p, hp => by
    have e1 : decide ((p.length : Int) < (a.length : Int)) = false := by rw [hp]; exact lt_end p
    refine Ev.succ ?_
    simp only [l19_lent.l0, e1, Bool.false_eq_true, if_false]
    exact Ev.ret.to (by rw [hp]; simp)
  | l :: t, p, hp => by
    have e1 : decide ((p.length : Int) < (a.length : Int)) = true := by rw [hp]; exact lt_at p t l
    have e2 : idx a (p.length : Int) = some l := by rw [hp]; exact idx_at p l t
    have hpl : p.length + 1 ≤ a.length := by rw [hp]; simp
    have hw := step_at p t l (by rw [← hp, maxLen_val]; omega)
    have hl := hs l (by rw [hp]; simp)
    refine Ev.succ ?_
    simp only [l19_lent.l0, e1, if_true, e2, Option.bind_some, pushN_ok (show ([] : List Entry).length + l.length ≤ 4691249611691 by rw [List.length_nil]; omega), List.nil_append, push_ok (show p.length < 9382499223535 by omega), hw]
    exact lent_l0 a ha hs t (p ++ [l]) (by simp [hp])
end Go.Proofs.Ytknedifgapgmbaa.Mo

set_option maxRecDepth 100000
namespace Go.Proofs.Ytknedifgapgmbaa.Mo
open Go Go.Proofs.Ytknedifgapgmbaa.Sy
section
variable {α : Type} {d : α} {lt : α → α → Prop} [DecidableRel lt]
/-- The first one at the front. -/
def Heap (d : α) (lt : α → α → Prop) (l : List α) : Prop := ∀ c, 0 < c → c < l.length → ¬ lt (A d l c) (A d l ((c - 1) / 2))
theorem Heap.top (hw : Wo lt) {l : List α} (h : Heap d lt l) : ∀ c, c < l.length → ¬ lt (A d l c) (A d l 0) := by
  intro c
  induction c using Nat.strongRecOn with
  | _ c ih =>
    intro hc
    by_cases h0 : c = 0
    · subst h0; exact hw.irr _
    · exact hw.neg _ _ _ (h c (by omega) hc) (ih ((c - 1) / 2) (by omega) (by omega))
def UpOk (d : α) (lt : α → α → Prop) (l : List α) (i : Nat) : Prop :=
  (∀ c, 0 < c → c < l.length → c ≠ i → ¬ lt (A d l c) (A d l ((c - 1) / 2))) ∧ ∀ c, 0 < c → c < l.length → (c - 1) / 2 = i → 0 < i → ¬ lt (A d l c) (A d l ((i - 1) / 2))
theorem UpOk.swap (hw : Wo lt) {l : List α} {i : Nat} (h0 : 0 < i) (hi : i < l.length) (hc : lt (A d l i) (A d l ((i - 1) / 2))) (h : UpOk d lt l i) : UpOk d lt (swp d l ((i - 1) / 2) i) ((i - 1) / 2) := by
  have hp : (i - 1) / 2 < l.length := by omega
  have hA := A_swp (d := d) hp hi
  refine ⟨fun c h1 h2 h3 => ?_, fun c h1 h2 h3 h4 => ?_⟩
  · rw [swp_len] at h2
    rw [hA, hA, if_neg h3]
    by_cases hci : c = i
    · subst hci
      rw [if_pos rfl, if_pos rfl]
      exact hw.asymm _ _ hc
    · rw [if_neg hci]
      by_cases e1 : (c - 1) / 2 = (i - 1) / 2
      · rw [if_pos e1]
        intro hlt
        have h5 := h.1 c h1 h2 hci
        rw [e1] at h5
        exact h5 (hw.lt_le hlt (hw.asymm _ _ hc))
      · rw [if_neg e1]
        by_cases e2 : (c - 1) / 2 = i
        · rw [if_pos e2]
          exact h.2 c h1 h2 e2 h0
        · rw [if_neg e2]
          exact h.1 c h1 h2 hci
  · rw [swp_len] at h2
    rw [hA, hA, if_neg (show ¬ ((i - 1) / 2 - 1) / 2 = (i - 1) / 2 by omega), if_neg (show ¬ ((i - 1) / 2 - 1) / 2 = i by omega), if_neg (show ¬ c = (i - 1) / 2 by omega)]
    have hpp := h.1 ((i - 1) / 2) h4 hp (by omega)
    by_cases hci : c = i
    · rw [if_pos hci]; exact hpp
    · rw [if_neg hci]
      have h5 := h.1 c h1 h2 hci
      rw [h3] at h5
      exact hw.neg _ _ _ h5 hpp
theorem up_eq {γ R : Type} (hw : Wo lt) (P : α → Prop) (n : Nat) (F : γ → Nat → List α → Int → Option R) (J : γ → List α → Option R)
    (hF : ∀ g k l (i : Nat), 4 ≤ k → l.length = n → i < n → (∀ x ∈ l, P x) → F g (k + 1) l i = if 0 < i then (if lt (A d l i) (A d l ((i - 1) / 2)) then F g k (swp d l ((i - 1) / 2) i) (((i - 1) / 2 : Nat) : Int) else J g l) else J g l) :
    ∀ (i : Nat) (l : List α), l.length = n → i < n → (∀ x ∈ l, P x) → UpOk d lt l i → ∃ l' n0, l.Perm l' ∧ Heap d lt l' ∧ ∀ g k, n0 ≤ k → F g k l i = J g l' := by
  intro i
  induction i using Nat.strongRecOn with
  | _ i ih =>
    intro l hl hi hP hu
    have stop : (∀ g k, 4 ≤ k → F g (k + 1) l i = J g l) → Heap d lt l → ∃ l' n0, l.Perm l' ∧ Heap d lt l' ∧ ∀ g k, n0 ≤ k → F g k l i = J g l' := fun h1 h2 => by
      refine ⟨l, 5, .refl _, h2, fun g k hk => ?_⟩
      obtain ⟨j, rfl⟩ : ∃ j, k = j + 1 := ⟨k - 1, by omega⟩
      exact h1 g j (by omega)
    by_cases h0 : 0 < i
    · by_cases hc : lt (A d l i) (A d l ((i - 1) / 2))
      · have hp : (i - 1) / 2 < l.length := by omega
        have hsp := swp_perm (d := d) hp (show i < l.length by omega)
        obtain ⟨l', n0, p1, p2, p3⟩ := ih ((i - 1) / 2) (by omega) (swp d l ((i - 1) / 2) i) (by rw [swp_len]; exact hl) (by omega) (fun x hx => hP x (hsp.mem_iff.2 hx)) (hu.swap hw h0 (by omega) hc)
        refine ⟨l', max n0 4 + 1, hsp.trans p1, p2, fun g k hk => ?_⟩
        obtain ⟨j, rfl⟩ : ∃ j, k = j + 1 := ⟨k - 1, by omega⟩
        rw [hF g j l i (by omega) hl hi hP, if_pos h0, if_pos hc]
        exact p3 g j (by omega)
      · refine stop (fun g k hk => by rw [hF g k l i hk hl hi hP, if_pos h0, if_neg hc]) fun c h1 h2 => ?_
        by_cases e : c = i
        · subst e; exact hc
        · exact hu.1 c h1 h2 e
    · refine stop (fun g k hk => by rw [hF g k l i hk hl hi hP, if_neg h0]) fun c h1 h2 => hu.1 c h1 h2 (by omega)
/-- One more goes in. -/
theorem A_app {l : List α} {x : α} {c : Nat} (h : c < l.length) : A d (l ++ [x]) c = A d l c := A_congr (by rw [List.getElem?_append_left h])
theorem upOk_push {l : List α} {x : α} (h : Heap d lt l) : UpOk d lt (l ++ [x]) l.length := by
  refine ⟨fun c h1 h2 h3 => ?_, fun c h1 h2 h3 => ?_⟩
  · rw [List.length_append, List.length_singleton] at h2
    rw [A_app (by omega), A_app (by omega)]
    exact h c h1 (by omega)
  · rw [List.length_append, List.length_singleton] at h2
    omega
def DownOk (d : α) (lt : α → α → Prop) (l : List α) (i : Nat) : Prop :=
  (∀ c, 0 < c → c < l.length → (c - 1) / 2 ≠ i → ¬ lt (A d l c) (A d l ((c - 1) / 2))) ∧ ∀ c, 0 < c → c < l.length → (c - 1) / 2 = i → 0 < i → ¬ lt (A d l c) (A d l ((i - 1) / 2))
theorem DownOk.swap (hw : Wo lt) {l : List α} {i m : Nat} (hm : 0 < m) (hml : m < l.length) (hpm : (m - 1) / 2 = i) (hlt : lt (A d l m) (A d l i)) (hb : ∀ c, 0 < c → c < l.length → (c - 1) / 2 = i → ¬ lt (A d l c) (A d l m)) (h : DownOk d lt l i) :
    DownOk d lt (swp d l m i) m := by
  have hi : i < l.length := by omega
  have hA := A_swp (d := d) hml hi
  refine ⟨fun c h1 h2 h3 => ?_, fun c h1 h2 h3 h4 => ?_⟩
  · rw [swp_len] at h2
    rw [hA, hA]
    by_cases hcm : c = m
    · subst hcm
      rw [if_pos rfl, hpm, if_neg (by omega), if_pos rfl]
      exact hw.asymm _ _ hlt
    · rw [if_neg hcm, if_neg h3]
      by_cases hci : c = i
      · subst hci
        rw [if_pos rfl, if_neg (by omega)]
        exact h.2 m hm hml hpm h1
      · rw [if_neg hci]
        by_cases e : (c - 1) / 2 = i
        · rw [if_pos e]; exact hb c h1 h2 e
        · rw [if_neg e]; exact h.1 c h1 h2 e
  · rw [swp_len] at h2
    rw [hA, hA, hpm, if_neg (show ¬ i = m by omega), if_pos rfl, if_neg (show ¬ c = m by omega), if_neg (show ¬ c = i by omega)]
    have := h.1 c h1 h2 (by omega)
    rw [h3] at this
    exact this
theorem down_eq {γ R : Type} (hw : Wo lt) (P : α → Prop) (n : Nat) (F : γ → Nat → List α → Int → Option R) (T : γ → Nat → List α → Option R)
    (hF : ∀ l (i : Nat), l.length = n → (i < n ∨ i = 0) → (∀ x ∈ l, P x) → ∃ m c, (m = i ∨ (0 < m ∧ m < n ∧ (m - 1) / 2 = i ∧ lt (A d l m) (A d l i))) ∧ (∀ c, 0 < c → c < n → (c - 1) / 2 = i → ¬ lt (A d l c) (A d l m)) ∧
      ∀ g k, c ≤ k → F g (k + 1) l i = if m = i then T g k l else F g k (swp d l m i) (m : Int)) :
    ∀ (w i : Nat) (l : List α), n - i ≤ w → l.length = n → (i < n ∨ i = 0) → (∀ x ∈ l, P x) → DownOk d lt l i → ∃ l' n0 j, l.Perm l' ∧ Heap d lt l' ∧ j ≤ n0 ∧ ∀ g k, n0 ≤ k → F g k l i = T g (k - j) l' := by
  intro w
  induction w with
  | zero =>
    intro i l hw' hl hi hP hu
    obtain ⟨m, c, h1, h2, h3⟩ := hF l i hl hi hP
    have hm : m = i := by rcases h1 with h | ⟨_, h, h', _⟩ <;> omega
    refine ⟨l, c + 1, 1, .refl _, fun q q1 q2 => by omega, by omega, fun g k hk => ?_⟩
    obtain ⟨j, rfl⟩ : ∃ j, k = j + 1 := ⟨k - 1, by omega⟩
    rw [h3 g j (by omega), if_pos hm]; rfl
  | succ w ih =>
    intro i l hw' hl hi hP hu
    obtain ⟨m, c, h1, h2, h3⟩ := hF l i hl hi hP
    by_cases hm : m = i
    · refine ⟨l, c + 1, 1, .refl _, fun q q1 q2 => ?_, by omega, fun g k hk => ?_⟩
      · by_cases e : (q - 1) / 2 = i
        · have := h2 q q1 (by omega) e
          rw [hm] at this
          rw [e]; exact this
        · exact hu.1 q q1 q2 e
      · obtain ⟨j, rfl⟩ : ∃ j, k = j + 1 := ⟨k - 1, by omega⟩
        rw [h3 g j (by omega), if_pos hm]; rfl
    · obtain ⟨g1, g2, g3, g4⟩ := h1.resolve_left hm
      have hsp := swp_perm (d := d) (show m < l.length by omega) (show i < l.length by omega)
      obtain ⟨l', n0, j, p1, p2, pj, p3⟩ := ih m (swp d l m i) (by omega) (by rw [swp_len]; exact hl) (.inl g2) (fun x hx => hP x (hsp.mem_iff.2 hx)) (hu.swap hw g1 (by omega) g3 g4 (fun q q1 q2 q3 => h2 q q1 (by omega) q3))
      refine ⟨l', max n0 c + 1, j + 1, hsp.trans p1, p2, by omega, fun g k hk => ?_⟩
      obtain ⟨q, rfl⟩ : ∃ q, k = q + 1 := ⟨k - 1, by omega⟩
      rw [h3 g q (by omega), if_neg hm, p3 g q (by omega)]
      congr 1
      omega
/-- The front one goes out, the last one comes in its place. -/
theorem pop_perm {l : List α} (h : 0 < l.length) : (A d l 0 :: (l.set 0 (A d l (l.length - 1))).take (l.length - 1)).Perm l := by
  rcases nil_or_snoc l with e | ⟨p, z, rfl⟩
  · subst e; simp at h
  · have hz : A d (p ++ [z]) ((p ++ [z]).length - 1) = z := by
      unfold A
      rw [List.getD_eq_getElem?_getD, List.length_append, List.length_singleton, Nat.add_sub_cancel, List.getElem?_append_right (Nat.le_refl _)]
      simp
    rw [hz, List.length_append, List.length_singleton, Nat.add_sub_cancel]
    cases p with
    | nil => simp [A]
    | cons x p =>
      have : A d (x :: p ++ [z]) 0 = x := rfl
      rw [this]
      simp only [List.cons_append, List.set_cons_zero, List.length_cons, List.take_succ_cons, List.take_left]
      refine List.Perm.cons x ?_
      exact (List.perm_append_singleton z p).symm
theorem pop_ok {l : List α} (h : Heap d lt l) : DownOk d lt ((l.set 0 (A d l (l.length - 1))).take (l.length - 1)) 0 := by
  refine ⟨fun c h1 h2 h3 => ?_, fun c h1 h2 h3 h4 => by omega⟩
  rw [List.length_take, List.length_set] at h2
  have e : ∀ q, 0 < q → q < l.length - 1 → A d ((l.set 0 (A d l (l.length - 1))).take (l.length - 1)) q = A d l q := fun q q1 q2 => by
    refine A_congr ?_
    rw [List.getElem?_take, if_pos q2, List.getElem?_set, if_neg (by omega)]
  rw [e c h1 (by omega), e _ (by omega) (by omega)]
  exact h c h1 (by omega)
end
def hd0 : merge_head := ⟨⟨ByteArray.mk #[], 0, 0, ByteArray.mk #[]⟩, 0⟩
def ltH (x y : merge_head) : Prop := ltE x.e y.e ∨ (¬ ltE y.e x.e ∧ x.from_ < y.from_)
instance (x y : merge_head) : Decidable (ltH x y) := inferInstanceAs (Decidable (_ ∨ _))
theorem wo_H : Wo ltH := by
  refine ⟨fun x y h k => ?_, fun x y z h k => ?_⟩
  · rcases h with h | ⟨h, h'⟩ <;> rcases k with k | ⟨k, k'⟩
    · exact wo_E.asymm _ _ h k
    · exact k h
    · exact h k
    · omega
  · unfold ltH at *
    rintro (g | ⟨g, g'⟩)
    · by_cases h1 : ltE x.e y.e
      · exact h (.inl h1)
      · by_cases h2 : ltE y.e z.e
        · exact k (.inl h2)
        · exact wo_E.neg _ _ _ h1 h2 g
    · have h1 : ¬ ltE x.e y.e := fun e => h (.inl e)
      have h2 : ¬ ltE y.e z.e := fun e => k (.inl e)
      have h3 : ¬ ltE y.e x.e := fun e => by
        exact g (wo_E.le_lt (x := z.e) (y := y.e) (z := x.e) h2 e)
      have h4 : ¬ ltE z.e y.e := fun e => by
        exact g (wo_E.lt_le (x := z.e) (y := y.e) (z := x.e) e h1)
      have h5 : ¬ x.from_ < y.from_ := fun e => h (.inr ⟨h3, e⟩)
      have h6 : ¬ y.from_ < z.from_ := fun e => k (.inr ⟨h4, e⟩)
      omega
def oH (a b : merge_head) : Int := if cE a.e b.e ≠ 0 then cE a.e b.e else a.from_ - b.from_
theorem oH_lt {a b : merge_head} : oH a b < 0 ↔ ltH a b := by
  unfold oH ltH
  by_cases h : cE a.e b.e = 0
  · have h1 : ¬ ltE a.e b.e := by show ¬ cE a.e b.e < 0; omega
    have h2 : ¬ ltE b.e a.e := by
      show ¬ cE b.e a.e < 0
      rw [← cE_anti]; omega
    simp only [h, ne_eq, not_true_eq_false, if_false, h1, h2, not_false_eq_true, true_and, false_or]
    omega
  · simp only [ne_eq, h, not_false_eq_true, if_true]
    constructor
    · intro g; exact .inl g
    · rintro (g | ⟨g, _⟩)
      · exact g
      · have : ¬ 0 < cE a.e b.e := by rw [cE_anti]; exact g
        omega
theorem oH_gt {a b : merge_head} : 0 < oH a b ↔ ltH b a := by
  unfold oH ltH
  by_cases h : cE a.e b.e = 0
  · have h1 : ¬ ltE a.e b.e := by show ¬ cE a.e b.e < 0; omega
    have h2 : ¬ ltE b.e a.e := by
      show ¬ cE b.e a.e < 0
      rw [← cE_anti]; omega
    simp only [h, ne_eq, not_true_eq_false, if_false, h1, h2, not_false_eq_true, true_and, false_or]
    omega
  · simp only [ne_eq, h, not_false_eq_true, if_true]
    rw [cE_anti]
    constructor
    · intro g; exact .inl g
    · rintro (g | ⟨g, _⟩)
      · exact g
      · have g' : ¬ cE a.e b.e < 0 := g
        exact (cE_anti a.e b.e).1 (by omega)
/-- What comes ahead, in a direction. -/
def bf (d : Bool) (x y : merge_head) : Prop := cond d (ltH y x) (ltH x y)
instance (d : Bool) (x y : merge_head) : Decidable (bf d x y) := by cases d <;> exact inferInstanceAs (Decidable (ltH _ _))
theorem wo_bf (d : Bool) : Wo (bf d) := by
  cases d
  · exact wo_H
  · exact ⟨fun x y h k => wo_H.asymm _ _ h k, fun x y z h k => wo_H.neg _ _ _ k h⟩
def small (x : merge_head) : Prop := 0 ≤ x.from_ ∧ x.from_ < 4194304
theorem order_eq (k : Nat) (hk : 4 ≤ k) {a b : merge_head} (ha : small a) (hb : small b) : merge_order k a b = some (oH a b) := by
  obtain ⟨j, rfl⟩ : ∃ j, k = j + 4 := ⟨k - 4, by omega⟩
  unfold small at ha hb
  simp only [merge_order, merge_keyOf, Option.bind_some, comp_eq]
  have e : cE (keyE ⟨a.e.Key, a.e.Seq, a.e.Kind⟩) (keyE ⟨b.e.Key, b.e.Seq, b.e.Kind⟩) = cE a.e b.e := rfl
  rw [e, w64_of (by omega) (by omega)]
  unfold oH
  by_cases h : cE a.e b.e = 0 <;> simp [h]
end Go.Proofs.Ytknedifgapgmbaa.Mo

set_option maxRecDepth 100000
namespace Go.Proofs.Ytknedifgapgmbaa.Mo
open Go Go.Proofs.Ytknedifgapgmbaa.Sy
theorem par_eq {i : Nat} (h0 : 0 < i) (h : i ≤ 8388608) : w64 (Int.tdiv (w64 ((i : Int) - 1)) 2) = (((i - 1) / 2 : Nat) : Int) := by
  rw [wP h0 (by omega)]
  exact w64_nat (n := (i - 1) / 2) (by omega) rfl
theorem sm_A {l : List merge_head} (h : ∀ x ∈ l, small x) {i : Nat} (hi : i < l.length) : small (A hd0 l i) := h _ (A_mem hi)
theorem up_first (l0 : List (Itf merge_List)) (i0 : Int) (J : List (Itf merge_List) → List merge_head → Option (Bool × merge_Merged)) (x0 : merge_List) (n : Nat) (hn : n ≤ 4194304) (k : Nat) (l : List merge_head) (i : Nat) (hk : 4 ≤ k) (hl : l.length = n) (hi : i < n) (hP : ∀ x ∈ l, small x) :
    merge_Merged_First.l1 l0 i0 J x0 (k + 1) l (i : Int) = if 0 < i then (if bf false (A hd0 l i) (A hd0 l ((i - 1) / 2)) then merge_Merged_First.l1 l0 i0 J x0 k (swp hd0 l ((i - 1) / 2) i) (((i - 1) / 2 : Nat) : Int) else J (List.set l0 (Int.toNat i0) (Itf.ptr x0)) l) else J (List.set l0 (Int.toNat i0) (Itf.ptr x0)) l := by
  by_cases h0 : 0 < i
  · have hpar := par_eq h0 (by omega)
    have e0 : decide ((0 : Int) < (i : Int)) = true := decide_eq_true (by omega)
    have hx := idx_A (d := hd0) (l := l) (k := i) (by omega)
    have hy := idx_A (d := hd0) (l := l) (k := (i - 1) / 2) (by omega)
    have ho := order_eq k hk (sm_A hP (i := i) (by omega)) (sm_A hP (i := (i - 1) / 2) (by omega))
    have hs := swp_eq (l := l) (i := (((i - 1) / 2 : Nat) : Int)) (j := (i : Int)) hd0 (fun l' => merge_Merged_First.l1 l0 i0 J x0 k l' (((i - 1) / 2 : Nat) : Int)) (by omega) (by omega) (by omega) (by omega)
    simp only [hx, hy, Option.bind_some, Int.toNat_natCast] at hs
    rw [if_pos h0]
    by_cases hb : bf false (A hd0 l i) (A hd0 l ((i - 1) / 2))
    · have e1 : decide (oH (A hd0 l i) (A hd0 l ((i - 1) / 2)) < 0) = true := decide_eq_true (oH_lt.2 hb)
      simp only [merge_Merged_First.l1, e0, hpar, hx, hy, Option.bind_some, ho, e1, Bool.not_true, if_pos hb, Bool.false_eq_true, if_false, if_true]
      exact hs
    · have e1 : decide (oH (A hd0 l i) (A hd0 l ((i - 1) / 2)) < 0) = false := decide_eq_false (fun h => hb (oH_lt.1 h))
      simp only [merge_Merged_First.l1, e0, hpar, hx, hy, Option.bind_some, ho, e1, Bool.not_false, if_neg hb, Bool.false_eq_true, if_false, if_true]
  · have e0 : decide ((0 : Int) < (i : Int)) = false := decide_eq_false (by omega)
    simp only [merge_Merged_First.l1, e0, Bool.false_eq_true, if_false, if_neg h0]
theorem up_last (l0 : List (Itf merge_List)) (i0 : Int) (J : List (Itf merge_List) → List merge_head → Option (Bool × merge_Merged)) (x0 : merge_List) (n : Nat) (hn : n ≤ 4194304) (k : Nat) (l : List merge_head) (i : Nat) (hk : 4 ≤ k) (hl : l.length = n) (hi : i < n) (hP : ∀ x ∈ l, small x) :
    merge_Merged_Last.l1 l0 i0 J x0 (k + 1) l (i : Int) = if 0 < i then (if bf true (A hd0 l i) (A hd0 l ((i - 1) / 2)) then merge_Merged_Last.l1 l0 i0 J x0 k (swp hd0 l ((i - 1) / 2) i) (((i - 1) / 2 : Nat) : Int) else J (List.set l0 (Int.toNat i0) (Itf.ptr x0)) l) else J (List.set l0 (Int.toNat i0) (Itf.ptr x0)) l := by
  by_cases h0 : 0 < i
  · have hpar := par_eq h0 (by omega)
    have e0 : decide ((0 : Int) < (i : Int)) = true := decide_eq_true (by omega)
    have hx := idx_A (d := hd0) (l := l) (k := i) (by omega)
    have hy := idx_A (d := hd0) (l := l) (k := (i - 1) / 2) (by omega)
    have ho := order_eq k hk (sm_A hP (i := i) (by omega)) (sm_A hP (i := (i - 1) / 2) (by omega))
    have hs := swp_eq (l := l) (i := (((i - 1) / 2 : Nat) : Int)) (j := (i : Int)) hd0 (fun l' => merge_Merged_Last.l1 l0 i0 J x0 k l' (((i - 1) / 2 : Nat) : Int)) (by omega) (by omega) (by omega) (by omega)
    simp only [hx, hy, Option.bind_some, Int.toNat_natCast] at hs
    rw [if_pos h0]
    by_cases hb : bf true (A hd0 l i) (A hd0 l ((i - 1) / 2))
    · have e1 : decide (0 < oH (A hd0 l i) (A hd0 l ((i - 1) / 2))) = true := decide_eq_true (oH_gt.2 hb)
      simp only [merge_Merged_Last.l1, e0, hpar, hx, hy, Option.bind_some, ho, e1, Bool.not_true, if_pos hb, Bool.false_eq_true, if_false, if_true]
      exact hs
    · have e1 : decide (0 < oH (A hd0 l i) (A hd0 l ((i - 1) / 2))) = false := decide_eq_false (fun h => hb (oH_gt.1 h))
      simp only [merge_Merged_Last.l1, e0, hpar, hx, hy, Option.bind_some, ho, e1, Bool.not_false, if_neg hb, Bool.false_eq_true, if_false, if_true]
  · have e0 : decide ((0 : Int) < (i : Int)) = false := decide_eq_false (by omega)
    simp only [merge_Merged_Last.l1, e0, Bool.false_eq_true, if_false, if_neg h0]
theorem up_turn (a0 : merge_Merged) (l0 : List (Itf merge_List)) (i0 : Int) (J : List (Itf merge_List) → List merge_head → Option merge_Merged) (x0 : merge_List) (d : Bool) (hd : (!a0.back) = d) (n : Nat) (hn : n ≤ 4194304) (k : Nat) (l : List merge_head) (i : Nat) (hk : 4 ≤ k) (hl : l.length = n) (hi : i < n) (hP : ∀ x ∈ l, small x) :
    merge_Merged_turn.l1 a0 l0 i0 J x0 (k + 1) l (i : Int) = if 0 < i then (if bf d (A hd0 l i) (A hd0 l ((i - 1) / 2)) then merge_Merged_turn.l1 a0 l0 i0 J x0 k (swp hd0 l ((i - 1) / 2) i) (((i - 1) / 2 : Nat) : Int) else J (List.set l0 (Int.toNat i0) (Itf.ptr x0)) l) else J (List.set l0 (Int.toNat i0) (Itf.ptr x0)) l := by
  by_cases h0 : 0 < i
  · have hpar := par_eq h0 (by omega)
    have e0 : decide ((0 : Int) < (i : Int)) = true := decide_eq_true (by omega)
    have hx := idx_A (d := hd0) (l := l) (k := i) (by omega)
    have hy := idx_A (d := hd0) (l := l) (k := (i - 1) / 2) (by omega)
    have ho := order_eq k hk (sm_A hP (i := i) (by omega)) (sm_A hP (i := (i - 1) / 2) (by omega))
    have hs := swp_eq (l := l) (i := (((i - 1) / 2 : Nat) : Int)) (j := (i : Int)) hd0 (fun l' => merge_Merged_turn.l1 a0 l0 i0 J x0 k l' (((i - 1) / 2 : Nat) : Int)) (by omega) (by omega) (by omega) (by omega)
    simp only [hx, hy, Option.bind_some, Int.toNat_natCast] at hs
    rw [if_pos h0]
    cases d with
    | false =>
      by_cases hb : bf false (A hd0 l i) (A hd0 l ((i - 1) / 2))
      · have e1 : decide (oH (A hd0 l i) (A hd0 l ((i - 1) / 2)) < 0) = true := decide_eq_true (oH_lt.2 hb)
        simp only [merge_Merged_turn.l1, e0, hd, hpar, hx, hy, Option.bind_some, ho, e1, Bool.not_true, if_pos hb, Bool.false_eq_true, if_false, if_true, Jn]
        exact hs
      · have e1 : decide (oH (A hd0 l i) (A hd0 l ((i - 1) / 2)) < 0) = false := decide_eq_false (fun h => hb (oH_lt.1 h))
        simp only [merge_Merged_turn.l1, e0, hd, hpar, hx, hy, Option.bind_some, ho, e1, Bool.not_false, if_neg hb, Bool.false_eq_true, if_false, if_true, Jn]
    | true =>
      by_cases hb : bf true (A hd0 l i) (A hd0 l ((i - 1) / 2))
      · have e1 : decide (0 < oH (A hd0 l i) (A hd0 l ((i - 1) / 2))) = true := decide_eq_true (oH_gt.2 hb)
        simp only [merge_Merged_turn.l1, e0, hd, hpar, hx, hy, Option.bind_some, ho, e1, Bool.not_true, if_pos hb, Bool.false_eq_true, if_false, if_true, Jn]
        exact hs
      · have e1 : decide (0 < oH (A hd0 l i) (A hd0 l ((i - 1) / 2))) = false := decide_eq_false (fun h => hb (oH_gt.1 h))
        simp only [merge_Merged_turn.l1, e0, hd, hpar, hx, hy, Option.bind_some, ho, e1, Bool.not_false, if_neg hb, Bool.false_eq_true, if_false, if_true, Jn]
  · have e0 : decide ((0 : Int) < (i : Int)) = false := decide_eq_false (by omega)
    simp only [merge_Merged_turn.l1, e0, Bool.false_eq_true, if_false, if_neg h0]
theorem up_step3 (a0 : merge_Merged) (J : List merge_head → merge_List → Option (Bool × merge_Merged)) (r0 : Bool × merge_List) (d : Bool) (hd : a0.back = d) (n : Nat) (hn : n ≤ 4194304) (k : Nat) (l : List merge_head) (i : Nat) (hk : 4 ≤ k) (hl : l.length = n) (hi : i < n) (hP : ∀ x ∈ l, small x) :
    merge_Merged_step.l3 a0 J r0 (k + 1) l (i : Int) = if 0 < i then (if bf d (A hd0 l i) (A hd0 l ((i - 1) / 2)) then merge_Merged_step.l3 a0 J r0 k (swp hd0 l ((i - 1) / 2) i) (((i - 1) / 2 : Nat) : Int) else J l r0.2) else J l r0.2 := by
  by_cases h0 : 0 < i
  · have hpar := par_eq h0 (by omega)
    have e0 : decide ((0 : Int) < (i : Int)) = true := decide_eq_true (by omega)
    have hx := idx_A (d := hd0) (l := l) (k := i) (by omega)
    have hy := idx_A (d := hd0) (l := l) (k := (i - 1) / 2) (by omega)
    have ho := order_eq k hk (sm_A hP (i := i) (by omega)) (sm_A hP (i := (i - 1) / 2) (by omega))
    have hs := swp_eq (l := l) (i := (((i - 1) / 2 : Nat) : Int)) (j := (i : Int)) hd0 (fun l' => merge_Merged_step.l3 a0 J r0 k l' (((i - 1) / 2 : Nat) : Int)) (by omega) (by omega) (by omega) (by omega)
    simp only [hx, hy, Option.bind_some, Int.toNat_natCast] at hs
    rw [if_pos h0]
    cases d with
    | false =>
      by_cases hb : bf false (A hd0 l i) (A hd0 l ((i - 1) / 2))
      · have e1 : decide (oH (A hd0 l i) (A hd0 l ((i - 1) / 2)) < 0) = true := decide_eq_true (oH_lt.2 hb)
        simp only [merge_Merged_step.l3, e0, hd, hpar, hx, hy, Option.bind_some, ho, e1, Bool.not_true, if_pos hb, Bool.false_eq_true, if_false, if_true, Jn]
        exact hs
      · have e1 : decide (oH (A hd0 l i) (A hd0 l ((i - 1) / 2)) < 0) = false := decide_eq_false (fun h => hb (oH_lt.1 h))
        simp only [merge_Merged_step.l3, e0, hd, hpar, hx, hy, Option.bind_some, ho, e1, Bool.not_false, if_neg hb, Bool.false_eq_true, if_false, if_true, Jn]
    | true =>
      by_cases hb : bf true (A hd0 l i) (A hd0 l ((i - 1) / 2))
      · have e1 : decide (0 < oH (A hd0 l i) (A hd0 l ((i - 1) / 2))) = true := decide_eq_true (oH_gt.2 hb)
        simp only [merge_Merged_step.l3, e0, hd, hpar, hx, hy, Option.bind_some, ho, e1, Bool.not_true, if_pos hb, Bool.false_eq_true, if_false, if_true, Jn]
        exact hs
      · have e1 : decide (0 < oH (A hd0 l i) (A hd0 l ((i - 1) / 2))) = false := decide_eq_false (fun h => hb (oH_gt.1 h))
        simp only [merge_Merged_step.l3, e0, hd, hpar, hx, hy, Option.bind_some, ho, e1, Bool.not_false, if_neg hb, Bool.false_eq_true, if_false, if_true, Jn]
  · have e0 : decide ((0 : Int) < (i : Int)) = false := decide_eq_false (by omega)
    simp only [merge_Merged_step.l3, e0, Bool.false_eq_true, if_false, if_neg h0]
theorem up_step4 (a0 : merge_Merged) (J : List merge_head → merge_List → Option (Bool × merge_Merged)) (r0 : Bool × merge_List) (d : Bool) (hd : a0.back = d) (n : Nat) (hn : n ≤ 4194304) (k : Nat) (l : List merge_head) (i : Nat) (hk : 4 ≤ k) (hl : l.length = n) (hi : i < n) (hP : ∀ x ∈ l, small x) :
    merge_Merged_step.l4 a0 J r0 (k + 1) l (i : Int) = if 0 < i then (if bf d (A hd0 l i) (A hd0 l ((i - 1) / 2)) then merge_Merged_step.l4 a0 J r0 k (swp hd0 l ((i - 1) / 2) i) (((i - 1) / 2 : Nat) : Int) else J l r0.2) else J l r0.2 := by
  by_cases h0 : 0 < i
  · have hpar := par_eq h0 (by omega)
    have e0 : decide ((0 : Int) < (i : Int)) = true := decide_eq_true (by omega)
    have hx := idx_A (d := hd0) (l := l) (k := i) (by omega)
    have hy := idx_A (d := hd0) (l := l) (k := (i - 1) / 2) (by omega)
    have ho := order_eq k hk (sm_A hP (i := i) (by omega)) (sm_A hP (i := (i - 1) / 2) (by omega))
    have hs := swp_eq (l := l) (i := (((i - 1) / 2 : Nat) : Int)) (j := (i : Int)) hd0 (fun l' => merge_Merged_step.l4 a0 J r0 k l' (((i - 1) / 2 : Nat) : Int)) (by omega) (by omega) (by omega) (by omega)
    simp only [hx, hy, Option.bind_some, Int.toNat_natCast] at hs
    rw [if_pos h0]
    cases d with
    | false =>
      by_cases hb : bf false (A hd0 l i) (A hd0 l ((i - 1) / 2))
      · have e1 : decide (oH (A hd0 l i) (A hd0 l ((i - 1) / 2)) < 0) = true := decide_eq_true (oH_lt.2 hb)
        simp only [merge_Merged_step.l4, e0, hd, hpar, hx, hy, Option.bind_some, ho, e1, Bool.not_true, if_pos hb, Bool.false_eq_true, if_false, if_true, Jn]
        exact hs
      · have e1 : decide (oH (A hd0 l i) (A hd0 l ((i - 1) / 2)) < 0) = false := decide_eq_false (fun h => hb (oH_lt.1 h))
        simp only [merge_Merged_step.l4, e0, hd, hpar, hx, hy, Option.bind_some, ho, e1, Bool.not_false, if_neg hb, Bool.false_eq_true, if_false, if_true, Jn]
    | true =>
      by_cases hb : bf true (A hd0 l i) (A hd0 l ((i - 1) / 2))
      · have e1 : decide (0 < oH (A hd0 l i) (A hd0 l ((i - 1) / 2))) = true := decide_eq_true (oH_gt.2 hb)
        simp only [merge_Merged_step.l4, e0, hd, hpar, hx, hy, Option.bind_some, ho, e1, Bool.not_true, if_pos hb, Bool.false_eq_true, if_false, if_true, Jn]
        exact hs
      · have e1 : decide (0 < oH (A hd0 l i) (A hd0 l ((i - 1) / 2))) = false := decide_eq_false (fun h => hb (oH_gt.1 h))
        simp only [merge_Merged_step.l4, e0, hd, hpar, hx, hy, Option.bind_some, ho, e1, Bool.not_false, if_neg hb, Bool.false_eq_true, if_false, if_true, Jn]
  · have e0 : decide ((0 : Int) < (i : Int)) = false := decide_eq_false (by omega)
    simp only [merge_Merged_step.l4, e0, Bool.false_eq_true, if_false, if_neg h0]
def src (S : List (List Entry)) (c : Nat → Int) : List (Itf merge_List) := (List.range S.length).map fun i => Itf.ptr ⟨S.getD i [], c i, true⟩
def hd (S : List (List Entry)) (i : Nat) (v : Int) : Option merge_head := (idx (S.getD i []) v).map fun e => ⟨e, (i : Int)⟩
def hds (S : List (List Entry)) (c : Nat → Int) (n : Nat) : List merge_head := (List.range n).filterMap fun i => hd S i (c i)
theorem hds_succ (S : List (List Entry)) (c : Nat → Int) (n : Nat) : hds S c (n + 1) = hds S c n ++ (hd S n (c n)).toList := by
  unfold hds
  rw [List.range_succ, List.filterMap_append]
  congr 1
theorem hds_len (S : List (List Entry)) (c : Nat → Int) (n : Nat) : (hds S c n).length ≤ n := by
  have := List.length_filterMap_le (fun i => hd S i (c i)) (List.range n)
  simpa [hds] using this
theorem hd_from {S : List (List Entry)} {i : Nat} {v : Int} {x : merge_head} (h : hd S i v = some x) : x.from_ = i := by
  unfold hd at h
  obtain ⟨e, _, rfl⟩ := Option.map_eq_some_iff.1 h
  rfl
theorem hds_small {S : List (List Entry)} {c : Nat → Int} {n : Nat} (hn : n ≤ 1048576) : ∀ x ∈ hds S c n, small x := fun x hx => by
  obtain ⟨i, hi, hx⟩ := List.mem_filterMap.1 hx
  rw [List.mem_range] at hi
  have := hd_from hx
  unfold small
  omega
/-- How a list stands: where it goes, and whether there is an entry. -/
def into (S : List (List Entry)) (i : Nat) (v : Int) : Bool := decide (0 ≤ v) && decide (v < ((S.getD i []).length : Int))
theorem hd_in {S : List (List Entry)} {i : Nat} {v : Int} (h : into S i v = true) : ∃ e, hd S i v = some ⟨e, (i : Int)⟩ ∧ merge_List_Here ⟨S.getD i [], v, true⟩ = some (e, true) := by
  simp only [into, Bool.and_eq_true, decide_eq_true_eq] at h
  obtain ⟨n, rfl⟩ := Int.eq_ofNat_of_zero_le h.1
  have hn : n < (S.getD i []).length := by omega
  have e1 : idx (S.getD i []) (n : Int) = some ((S.getD i [])[n]) := getD_idx hn
  refine ⟨(S.getD i [])[n], by unfold hd; rw [e1]; rfl, ?_⟩
  have c1 : ((!true || decide ((n : Int) < 0)) || decide (((S.getD i []).length : Int) ≤ (n : Int))) = false := by
    rw [decide_eq_false (by omega), decide_eq_false (by omega)]; rfl
  simp only [merge_List_Here, c1, Bool.false_eq_true, if_false, e1, Option.bind_some]
theorem hd_out {S : List (List Entry)} {i : Nat} {v : Int} (h : into S i v = false) : hd S i v = none := by
  unfold hd
  have : idx (S.getD i []) v = none := by
    unfold idx
    split
    · rename_i h0
      rw [List.getElem?_eq_none]
      have : ¬ (0 ≤ v ∧ v < ((S.getD i []).length : Int)) := fun hh => by
        rw [into, decide_eq_true hh.1, decide_eq_true hh.2] at h; cases h
      omega
    · rfl
  rw [this]; rfl
theorem src_len (S : List (List Entry)) (c : Nat → Int) : (src S c).length = S.length := by simp [src]
theorem src_at (S : List (List Entry)) (c : Nat → Int) {i : Nat} (h : i < S.length) : idx (src S c) (i : Int) = some (.ptr ⟨S.getD i [], c i, true⟩) := by
  rw [idx_nat]
  simp [src, h]
theorem src_set (S : List (List Entry)) (c : Nat → Int) {i : Nat} (v : Int) (h : i < S.length) : (src S c).set i (.ptr ⟨S.getD i [], v, true⟩) = src S (fun j => if j = i then v else c j) := by
  refine List.ext_getElem? fun q => ?_
  rw [List.getElem?_set]
  simp only [src_len]
  by_cases e : i = q
  · subst e
    simp [h, src]
  · simp only [e, if_false]
    by_cases hq : q < S.length
    · simp [src, hq, show ¬ q = i from fun x => e x.symm]
    · simp [src, hq]
theorem src_congr {S : List (List Entry)} {c c' : Nat → Int} (h : ∀ i, i < S.length → c i = c' i) : src S c = src S c' := by
  unfold src
  refine List.map_congr_left fun i hi => ?_
  rw [h i (List.mem_range.1 hi)]
/-- A heap made of nothing: each source goes where it goes, and its head goes in. -/
theorem load_eq {γ R : Type} (S : List (List Entry)) (hN : S.length ≤ 1048576) (d : Bool) (c c' : Nat → Int) (F : γ → Nat → List (Itf merge_List) → List merge_head → Int → Option R) (T : γ → List (Itf merge_List) → List merge_head → Option R)
    (hstep : ∀ (i : Nat) (l : List (Itf merge_List)) (h : List merge_head), i < S.length → l.length = S.length → idx l (i : Int) = some (.ptr ⟨S.getD i [], c i, true⟩) → Heap hd0 (bf d) h → (∀ x ∈ h, small x) → h.length ≤ i →
      ∃ h' q, Heap hd0 (bf d) h' ∧ (h ++ (hd S i (c' i)).toList).Perm h' ∧ ∀ g k, q ≤ k → F g (k + 1) l h (i : Int) = F g k (l.set i (.ptr ⟨S.getD i [], c' i, true⟩)) h' ((i + 1 : Nat) : Int))
    (hend : ∀ g k l h, F g (k + 1) l h (S.length : Int) = T g l h) :
    ∃ h' n0, Heap hd0 (bf d) h' ∧ (hds S c' S.length).Perm h' ∧ ∀ g k, n0 ≤ k → F g k (src S c) [] 0 = T g (src S c') h' := by
  have main : ∀ (w i : Nat) (h : List merge_head), S.length - i ≤ w → i ≤ S.length → Heap hd0 (bf d) h → (hds S c' i).Perm h →
      ∃ h' n0, Heap hd0 (bf d) h' ∧ (hds S c' S.length).Perm h' ∧ ∀ g k, n0 ≤ k → F g k (src S (fun j => if j < i then c' j else c j)) h (i : Int) = T g (src S c') h' := by
    intro w
    induction w with
    | zero =>
      intro i h hw hi hh hp
      obtain rfl : i = S.length := by omega
      refine ⟨h, 1, hh, hp, fun g k hk => ?_⟩
      obtain ⟨j, rfl⟩ : ∃ j, k = j + 1 := ⟨k - 1, by omega⟩
      rw [hend, src_congr (c' := c') (fun i hi => by simp [hi])]
    | succ w ih =>
      intro i h hw hi hh hp
      by_cases e : i = S.length
      · subst e
        refine ⟨h, 1, hh, hp, fun g k hk => ?_⟩
        obtain ⟨j, rfl⟩ : ∃ j, k = j + 1 := ⟨k - 1, by omega⟩
        rw [hend, src_congr (c' := c') (fun i hi => by simp [hi])]
      · have hi' : i < S.length := by omega
        obtain ⟨h', q, g1, g2, g3⟩ := hstep i (src S (fun j => if j < i then c' j else c j)) h hi' (src_len _ _) (by rw [src_at _ _ hi']; simp) hh (fun x hx => hds_small (by omega) x (hp.mem_iff.2 hx)) (by have := hp.length_eq; have := hds_len S c' i; omega)
        obtain ⟨h'', n0, k1, k2, k3⟩ := ih (i + 1) h' (by omega) (by omega) g1 (by
          rw [hds_succ]
          exact (hp.append_right _).trans g2)
        refine ⟨h'', max q n0 + 1, k1, k2, fun g k hk => ?_⟩
        obtain ⟨j, rfl⟩ : ∃ j, k = j + 1 := ⟨k - 1, by omega⟩
        rw [g3 g j (by omega), src_set _ _ _ hi', src_congr (c' := fun j => if j < i + 1 then c' j else c j) (fun q hq => ?_)]
        · exact k3 g j (by omega)
        · by_cases e1 : q = i
          · subst e1; simp
          · by_cases e2 : q < i
            · simp [e1, e2, show q < i + 1 by omega]
            · simp [e1, e2, show ¬ q < i + 1 by omega]
  have := main S.length 0 [] (by omega) (Nat.zero_le _) (fun c h1 h2 => by simp at h2) (by simp [hds])
  simpa using this
theorem first_step (S : List (List Entry)) (hN : S.length ≤ 1048576) (m : merge_Merged) (hm : m.sources.length = S.length) (c c' : Nat → Int)
    (hmv : ∀ i, i < S.length → merge_List_First ⟨S.getD i [], c i, true⟩ = some (into S i (c' i), ⟨S.getD i [], c' i, true⟩)) (i : Nat) (l : List (Itf merge_List)) (h : List merge_head) (hi : i < S.length) (hl : l.length = S.length) (hx : idx l (i : Int) = some (.ptr ⟨S.getD i [], c i, true⟩)) (hh : Heap hd0 (bf false) h) (hs : ∀ x ∈ h, small x) (hle : h.length ≤ i) :
    ∃ h' q, Heap hd0 (bf false) h' ∧ (h ++ (hd S i (c' i)).toList).Perm h' ∧ ∀ g k, q ≤ k → merge_Merged_First.l0 m g (k + 1) l h (i : Int) = merge_Merged_First.l0 m g k (l.set i (.ptr ⟨S.getD i [], c' i, true⟩)) h' ((i + 1 : Nat) : Int) := by
  have e0 : decide ((i : Int) < (m.sources.length : Int)) = true := by rw [hm]; exact decT hi
  have hw : w64 ((i : Int) + 1) = ((i + 1 : Nat) : Int) := wS (by omega)
  cases hin : into S i (c' i) with
  | false =>
    refine ⟨h, 0, hh, by rw [hd_out hin]; simp, fun g k hk => ?_⟩
    simp only [merge_Merged_First.l0, e0, if_true, Jn, hx, Option.bind_some, Itf.on, hmv i hi, hin, Bool.false_eq_true, if_false, hw, Int.toNat_natCast]
  | true =>
    obtain ⟨e, h1, h2⟩ := hd_in hin
    have hn : (h ++ [(⟨e, (i : Int)⟩ : merge_head)]).length = h.length + 1 := by simp
    have hsm : ∀ x ∈ h ++ [(⟨e, (i : Int)⟩ : merge_head)], small x := fun x hx => by
      rcases List.mem_append.1 hx with hx | hx
      · exact hs x hx
      · rw [List.mem_singleton] at hx; subst hx; unfold small; simp only; omega
    obtain ⟨h', n0, p1, p2, p3⟩ := up_eq (wo_bf false) small (h.length + 1) (fun (g : (List (Itf merge_List) → List merge_head → Option (Bool × merge_Merged)) × List (Itf merge_List)) k l' j => merge_Merged_First.l1 g.2 (i : Int) g.1 ⟨S.getD i [], c' i, true⟩ k l' j) (fun g l' => g.1 (List.set g.2 (Int.toNat (i : Int)) (Itf.ptr ⟨S.getD i [], c' i, true⟩)) l') (fun g k l' j hk hl' hj hP => up_first _ _ _ _ (h.length + 1) (by omega) k l' j hk hl' hj hP) h.length _ hn (by omega) hsm (upOk_push hh)
    refine ⟨h', n0, p2, by rw [h1]; exact p1, fun g k hk => ?_⟩
    have hlen : w64 ((((h ++ [(⟨e, (i : Int)⟩ : merge_head)]).length : Nat) : Int) - 1) = (h.length : Int) := by rw [hn]; exact w64_nat (n := h.length) (by omega) (by omega)
    have := p3 (fun l' h' => merge_Merged_First.l0 m g k l' h' ((i + 1 : Nat) : Int), l) k hk
    simp only [Int.toNat_natCast] at this
    simp only [merge_Merged_First.l0, e0, if_true, Jn, hx, Option.bind_some, Itf.on, hmv i hi, hin, h2, push_ok (show h.length < 4021071095713 by omega), hw, hlen]
    exact this
theorem last_step (S : List (List Entry)) (hN : S.length ≤ 1048576) (m : merge_Merged) (hm : m.sources.length = S.length) (c c' : Nat → Int)
    (hmv : ∀ i, i < S.length → merge_List_Last ⟨S.getD i [], c i, true⟩ = some (into S i (c' i), ⟨S.getD i [], c' i, true⟩)) (i : Nat) (l : List (Itf merge_List)) (h : List merge_head) (hi : i < S.length) (hl : l.length = S.length) (hx : idx l (i : Int) = some (.ptr ⟨S.getD i [], c i, true⟩)) (hh : Heap hd0 (bf true) h) (hs : ∀ x ∈ h, small x) (hle : h.length ≤ i) :
    ∃ h' q, Heap hd0 (bf true) h' ∧ (h ++ (hd S i (c' i)).toList).Perm h' ∧ ∀ g k, q ≤ k → merge_Merged_Last.l0 m g (k + 1) l h (i : Int) = merge_Merged_Last.l0 m g k (l.set i (.ptr ⟨S.getD i [], c' i, true⟩)) h' ((i + 1 : Nat) : Int) := by
  have e0 : decide ((i : Int) < (m.sources.length : Int)) = true := by rw [hm]; exact decT hi
  have hw : w64 ((i : Int) + 1) = ((i + 1 : Nat) : Int) := wS (by omega)
  cases hin : into S i (c' i) with
  | false =>
    refine ⟨h, 0, hh, by rw [hd_out hin]; simp, fun g k hk => ?_⟩
    simp only [merge_Merged_Last.l0, e0, if_true, Jn, hx, Option.bind_some, Itf.on, hmv i hi, hin, Bool.false_eq_true, if_false, hw, Int.toNat_natCast]
  | true =>
    obtain ⟨e, h1, h2⟩ := hd_in hin
    have hn : (h ++ [(⟨e, (i : Int)⟩ : merge_head)]).length = h.length + 1 := by simp
    have hsm : ∀ x ∈ h ++ [(⟨e, (i : Int)⟩ : merge_head)], small x := fun x hx => by
      rcases List.mem_append.1 hx with hx | hx
      · exact hs x hx
      · rw [List.mem_singleton] at hx; subst hx; unfold small; simp only; omega
    obtain ⟨h', n0, p1, p2, p3⟩ := up_eq (wo_bf true) small (h.length + 1) (fun (g : (List (Itf merge_List) → List merge_head → Option (Bool × merge_Merged)) × List (Itf merge_List)) k l' j => merge_Merged_Last.l1 g.2 (i : Int) g.1 ⟨S.getD i [], c' i, true⟩ k l' j) (fun g l' => g.1 (List.set g.2 (Int.toNat (i : Int)) (Itf.ptr ⟨S.getD i [], c' i, true⟩)) l') (fun g k l' j hk hl' hj hP => up_last _ _ _ _ (h.length + 1) (by omega) k l' j hk hl' hj hP) h.length _ hn (by omega) hsm (upOk_push hh)
    refine ⟨h', n0, p2, by rw [h1]; exact p1, fun g k hk => ?_⟩
    have hlen : w64 ((((h ++ [(⟨e, (i : Int)⟩ : merge_head)]).length : Nat) : Int) - 1) = (h.length : Int) := by rw [hn]; exact w64_nat (n := h.length) (by omega) (by omega)
    have := p3 (fun l' h' => merge_Merged_Last.l0 m g k l' h' ((i + 1 : Nat) : Int), l) k hk
    simp only [Int.toNat_natCast] at this
    simp only [merge_Merged_Last.l0, e0, if_true, Jn, hx, Option.bind_some, Itf.on, hmv i hi, hin, h2, push_ok (show h.length < 4021071095713 by omega), hw, hlen]
    exact this
end Go.Proofs.Ytknedifgapgmbaa.Mo

set_option maxRecDepth 100000
namespace Go.Proofs.Ytknedifgapgmbaa.Mo
open Go Go.Proofs.Ytknedifgapgmbaa.Sy
theorem push_small {S : List (List Entry)} {i : Nat} (hi : i < S.length) (hN : S.length ≤ 1048576) {h : List merge_head} {e : Entry} (hs : ∀ x ∈ h, small x) : ∀ x ∈ h ++ [(⟨e, (i : Int)⟩ : merge_head)], small x := fun x hx => by
  rcases List.mem_append.1 hx with hx | hx
  · exact hs x hx
  · rw [List.mem_singleton] at hx; subst hx; unfold small; simp only; omega
structure Good (S : List (List Entry)) (m : merge_Merged) (c : Nat → Int) : Prop where
  made : m.made = true
  srcs : m.sources = src S c
theorem cut00 {α : Type} (l : List α) : cut l 0 0 = some [] := by
  unfold cut
  rw [if_pos ⟨by omega, by omega, by omega⟩]
  simp
theorem first_end (m : merge_Merged) (g : List (Itf merge_List) → List merge_head → Bool → Int → Bool → Option (Bool × merge_Merged)) (k : Nat) (l : List (Itf merge_List)) (h : List merge_head) {n : Nat} (hn : m.sources.length = n) :
    merge_Merged_First.l0 m g (k + 1) l h (n : Int) = if 0 < h.length then g l h false 1 true else g l h false 2 false := by
  have e0 : decide ((n : Int) < (m.sources.length : Int)) = false := by rw [hn]; exact decF (Nat.le_refl _)
  simp only [merge_Merged_First.l0, e0, Bool.false_eq_true, if_false, Jn]
  by_cases hl : 0 < h.length
  · have : decide ((0 : Int) < (h.length : Int)) = true := decide_eq_true (by omega)
    simp only [this, if_true, if_pos hl]; rfl
  · have : decide ((0 : Int) < (h.length : Int)) = false := decide_eq_false (by omega)
    simp only [this, Bool.false_eq_true, if_false, if_neg hl]; rfl
theorem last_end (m : merge_Merged) (g : List (Itf merge_List) → List merge_head → Bool → Int → Bool → Option (Bool × merge_Merged)) (k : Nat) (l : List (Itf merge_List)) (h : List merge_head) {n : Nat} (hn : m.sources.length = n) :
    merge_Merged_Last.l0 m g (k + 1) l h (n : Int) = if 0 < h.length then g l h true 1 true else g l h true 0 false := by
  have e0 : decide ((n : Int) < (m.sources.length : Int)) = false := by rw [hn]; exact decF (Nat.le_refl _)
  simp only [merge_Merged_Last.l0, e0, Bool.false_eq_true, if_false, Jn]
  by_cases hl : 0 < h.length
  · have : decide ((0 : Int) < (h.length : Int)) = true := decide_eq_true (by omega)
    simp only [this, if_true, if_pos hl]; rfl
  · have : decide ((0 : Int) < (h.length : Int)) = false := decide_eq_false (by omega)
    simp only [this, Bool.false_eq_true, if_false, if_neg hl]; rfl
/-- Where it stands: at a heap's front, or past the end that lies in the direction. -/
def stnd (d : Bool) (h : List merge_head) : Int := if 0 < h.length then 1 else if d then 0 else 2
theorem first_eq {S : List (List Entry)} (hN : S.length ≤ 1048576) {m : merge_Merged} {c c' : Nat → Int} (hm : Good S m c) (hmv : ∀ i, i < S.length → merge_List_First ⟨S.getD i [], c i, true⟩ = some (into S i (c' i), ⟨S.getD i [], c' i, true⟩)) :
    ∃ h', Heap hd0 (bf false) h' ∧ (hds S c' S.length).Perm h' ∧ Ev (fun k => merge_Merged_First k m) (decide (0 < h'.length), ⟨src S c', h', false, stnd false h', true⟩) := by
  have hl : m.sources.length = S.length := by rw [hm.srcs, src_len]
  obtain ⟨h', n0, p1, p2, p3⟩ := load_eq S hN false c c' (fun g k l h i => merge_Merged_First.l0 m g k l h i) (fun g l h => if 0 < h.length then g l h false 1 true else g l h false 2 false) (fun i l h => first_step S hN m hl c c' hmv i l h) (fun g k l h => first_end m g k l h hl)
  refine ⟨h', p1, p2, n0, fun k hk => ?_⟩
  unfold merge_Merged_First
  simp only [Jn, hm.made, Bool.not_true, Bool.not_false, if_true, cut00, Option.bind_some]
  rw [hm.srcs]
  refine (p3 _ k hk).trans ?_
  unfold stnd
  by_cases h0 : 0 < h'.length <;> simp [h0]
theorem last_eq {S : List (List Entry)} (hN : S.length ≤ 1048576) {m : merge_Merged} {c c' : Nat → Int} (hm : Good S m c) (hmv : ∀ i, i < S.length → merge_List_Last ⟨S.getD i [], c i, true⟩ = some (into S i (c' i), ⟨S.getD i [], c' i, true⟩)) :
    ∃ h', Heap hd0 (bf true) h' ∧ (hds S c' S.length).Perm h' ∧ Ev (fun k => merge_Merged_Last k m) (decide (0 < h'.length), ⟨src S c', h', true, stnd true h', true⟩) := by
  have hl : m.sources.length = S.length := by rw [hm.srcs, src_len]
  obtain ⟨h', n0, p1, p2, p3⟩ := load_eq S hN true c c' (fun g k l h i => merge_Merged_Last.l0 m g k l h i) (fun g l h => if 0 < h.length then g l h true 1 true else g l h true 0 false) (fun i l h => last_step S hN m hl c c' hmv i l h) (fun g k l h => last_end m g k l h hl)
  refine ⟨h', p1, p2, n0, fun k hk => ?_⟩
  unfold merge_Merged_Last
  simp only [Jn, hm.made, Bool.not_true, Bool.not_false, if_true, cut00, Option.bind_some]
  rw [hm.srcs]
  refine (p3 _ k hk).trans ?_
  unfold stnd
  by_cases h0 : 0 < h'.length <;> simp [h0]
theorem turn_step (S : List (List Entry)) (hN : S.length ≤ 1048576) (m : merge_Merged) (hm : m.sources.length = S.length) (now : merge_head) (hnow : small now) (d : Bool) (hd' : (!m.back) = d) (c c' : Nat → Int)
    (hst : ∀ i, i < S.length → (i : Int) = now.from_ → c' i = c i ∧ into S i (c i) = true)
    (hmv : ∀ i, i < S.length → (i : Int) ≠ now.from_ → (cond d merge_List_Prev merge_List_Next) ⟨S.getD i [], c i, true⟩ = some (into S i (c' i), ⟨S.getD i [], c' i, true⟩) ∧ ∀ x, hd S i (c' i) = some x → bf d now x)
    (i : Nat) (l : List (Itf merge_List)) (h : List merge_head) (hi : i < S.length) (hl : l.length = S.length) (hx : idx l (i : Int) = some (.ptr ⟨S.getD i [], c i, true⟩)) (hh : Heap hd0 (bf d) h) (hs : ∀ x ∈ h, small x) (hle : h.length ≤ i) :
    ∃ h' q, Heap hd0 (bf d) h' ∧ (h ++ (hd S i (c' i)).toList).Perm h' ∧ ∀ (g : Unit) k, q ≤ k → merge_Merged_turn.l0 m now (k + 1) l h (i : Int) = merge_Merged_turn.l0 m now k (l.set i (.ptr ⟨S.getD i [], c' i, true⟩)) h' ((i + 1 : Nat) : Int) := by
  have e0 : decide ((i : Int) < (m.sources.length : Int)) = true := by rw [hm]; exact decT hi
  have hw : w64 ((i : Int) + 1) = ((i + 1 : Nat) : Int) := wS (by omega)
  -- a head goes in
  have go : ∀ e, hd S i (c' i) = some ⟨e, (i : Int)⟩ → ∃ h' n0, Heap hd0 (bf d) h' ∧ (h ++ (hd S i (c' i)).toList).Perm h' ∧ ∀ (k : Nat), n0 ≤ k → merge_Merged_turn.l1 m l (i : Int) (fun l' h' => merge_Merged_turn.l0 m now k l' h' ((i + 1 : Nat) : Int)) ⟨S.getD i [], c' i, true⟩ k (h ++ [(⟨e, (i : Int)⟩ : merge_head)]) (w64 ((((h ++ [(⟨e, (i : Int)⟩ : merge_head)]).length : Nat) : Int) - 1)) = merge_Merged_turn.l0 m now k (l.set i (.ptr ⟨S.getD i [], c' i, true⟩)) h' ((i + 1 : Nat) : Int) := fun e h1 => by
    have hn : (h ++ [(⟨e, (i : Int)⟩ : merge_head)]).length = h.length + 1 := by simp
    have hlen : w64 ((((h ++ [(⟨e, (i : Int)⟩ : merge_head)]).length : Nat) : Int) - 1) = (h.length : Int) := by rw [hn]; exact w64_nat (n := h.length) (by omega) (by omega)
    obtain ⟨h', n0, p1, p2, p3⟩ := up_eq (wo_bf d) small (h.length + 1) (fun (g : (List (Itf merge_List) → List merge_head → Option merge_Merged)) k l' j => merge_Merged_turn.l1 m l (i : Int) g ⟨S.getD i [], c' i, true⟩ k l' j) (fun g l' => g (List.set l (Int.toNat (i : Int)) (Itf.ptr ⟨S.getD i [], c' i, true⟩)) l') (fun g k l' j hk hl' hj hP => up_turn m _ _ _ _ d hd' (h.length + 1) (by omega) k l' j hk hl' hj hP) h.length _ hn (by omega) (push_small hi hN hs) (upOk_push hh)
    refine ⟨h', n0, p2, by rw [h1]; exact p1, fun k hk => ?_⟩
    rw [hlen]
    have := p3 (fun l' h' => merge_Merged_turn.l0 m now k l' h' ((i + 1 : Nat) : Int)) k hk
    simp only [Int.toNat_natCast] at this
    exact this
  by_cases hf : (i : Int) = now.from_
  · obtain ⟨g1, g2⟩ := hst i hi hf
    obtain ⟨e, h1, h2⟩ := hd_in g2
    rw [← g1] at h1
    obtain ⟨h', n0, p1, p2, p3⟩ := go e h1
    refine ⟨h', n0, p1, p2, fun g k hk => ?_⟩
    have ef : ((i : Int) == now.from_) = true := by simp [hf]
    have := p3 k hk
    rw [g1] at this
    simp only [merge_Merged_turn.l0, e0, if_true, Jn, hx, Option.bind_some, Itf.on, ef, h2, push_ok (show h.length < 4021071095713 by omega), hw]
    rw [g1]
    exact this
  · obtain ⟨g1, g2⟩ := hmv i hi hf
    have ef : ((i : Int) == now.from_) = false := by simp [hf]
    cases hin : into S i (c' i) with
    | false =>
      refine ⟨h, 1, hh, by rw [hd_out hin]; simp, fun g k hk => ?_⟩
      obtain ⟨j, rfl⟩ : ∃ j, k = j + 1 := ⟨k - 1, by omega⟩
      rw [hin] at g1
      cases d with
      | false =>
        simp only [cond_false] at g1
        simp only [merge_Merged_turn.l0, e0, if_true, Jn, hx, Option.bind_some, Itf.on, ef, Bool.false_eq_true, if_false, hd', merge_Merged_turn.l3, g1, hw, Int.toNat_natCast]
      | true =>
        simp only [cond_true] at g1
        simp only [merge_Merged_turn.l0, e0, if_true, Jn, hx, Option.bind_some, Itf.on, ef, Bool.false_eq_true, if_false, hd', merge_Merged_turn.l2, g1, hw, Int.toNat_natCast]
    | true =>
      obtain ⟨e, h1, h2⟩ := hd_in hin
      obtain ⟨h', n0, p1, p2, p3⟩ := go e h1
      have hb := g2 _ h1
      refine ⟨h', max n0 5, p1, p2, fun g k hk => ?_⟩
      have := p3 k (by omega)
      rw [hin] at g1
      have ho : ∀ j, k = j + 1 → merge_order j now (⟨e, (i : Int)⟩ : merge_head) = some (oH now ⟨e, (i : Int)⟩) := fun j hj => order_eq j (by omega) hnow (by unfold small; simp only; omega)
      obtain ⟨j, hj⟩ : ∃ j, k = j + 1 := ⟨k - 1, by omega⟩
      cases d with
      | false =>
        simp only [cond_false] at g1
        have e1 : decide (oH now ⟨e, (i : Int)⟩ < 0) = true := decide_eq_true (oH_lt.2 hb)
        have hl3 : ∀ J2 J3, merge_Merged_turn.l3 m now (i : Int) J2 J3 k ⟨S.getD i [], c i, true⟩ = J2 ⟨S.getD i [], c' i, true⟩ true := fun J2 J3 => by
          rw [hj]
          simp only [merge_Merged_turn.l3, g1, Option.bind_some, if_true, h2, Jn, hd', Bool.false_eq_true, if_false, ho j hj, e1]
        simp only [merge_Merged_turn.l0, e0, if_true, Jn, hx, Option.bind_some, Itf.on, ef, Bool.false_eq_true, if_false, hd', hl3, h2, push_ok (show h.length < 4021071095713 by omega), hw]
        exact this
      | true =>
        simp only [cond_true] at g1
        have e1 : decide (0 < oH now ⟨e, (i : Int)⟩) = true := decide_eq_true (oH_gt.2 hb)
        have hl2 : ∀ J2 J3, merge_Merged_turn.l2 m now (i : Int) J2 J3 k ⟨S.getD i [], c i, true⟩ = J2 ⟨S.getD i [], c' i, true⟩ true := fun J2 J3 => by
          rw [hj]
          simp only [merge_Merged_turn.l2, g1, Option.bind_some, if_true, h2, Jn, hd', ho j hj, e1]
        simp only [merge_Merged_turn.l0, e0, if_true, Jn, hx, Option.bind_some, Itf.on, ef, Bool.false_eq_true, if_false, hd', hl2, h2, push_ok (show h.length < 4021071095713 by omega), hw]
        exact this
theorem turn_end (m : merge_Merged) (now : merge_head) (k : Nat) (l : List (Itf merge_List)) (h : List merge_head) {n : Nat} (hn : m.sources.length = n) :
    merge_Merged_turn.l0 m now (k + 1) l h (n : Int) = some ⟨l, h, !m.back, stnd (!m.back) h, m.made⟩ := by
  have e0 : decide ((n : Int) < (m.sources.length : Int)) = false := by rw [hn]; exact decF (Nat.le_refl _)
  simp only [merge_Merged_turn.l0, e0, Bool.false_eq_true, if_false, Jn]
  unfold stnd
  by_cases hl : 0 < h.length
  · have : decide ((0 : Int) < (h.length : Int)) = true := decide_eq_true (by omega)
    simp only [this, if_true, if_pos hl]
  · have : decide ((0 : Int) < (h.length : Int)) = false := decide_eq_false (by omega)
    simp only [this, Bool.false_eq_true, if_false, if_neg hl]
    cases (!m.back) <;> rfl
theorem turn_eq {S : List (List Entry)} (hN : S.length ≤ 1048576) {m : merge_Merged} {c c' : Nat → Int} (hm : Good S m c) (d : Bool) (hd' : (!m.back) = d) (now : merge_head) (hnow : small now) (h0 : idx m.heap 0 = some now)
    (hst : ∀ i, i < S.length → (i : Int) = now.from_ → c' i = c i ∧ into S i (c i) = true)
    (hmv : ∀ i, i < S.length → (i : Int) ≠ now.from_ → (cond d merge_List_Prev merge_List_Next) ⟨S.getD i [], c i, true⟩ = some (into S i (c' i), ⟨S.getD i [], c' i, true⟩) ∧ ∀ x, hd S i (c' i) = some x → bf d now x) :
    ∃ h', Heap hd0 (bf d) h' ∧ (hds S c' S.length).Perm h' ∧ Ev (fun k => merge_Merged_turn k m) ⟨src S c', h', d, stnd d h', true⟩ := by
  have hl : m.sources.length = S.length := by rw [hm.srcs, src_len]
  obtain ⟨h', n0, p1, p2, p3⟩ := load_eq S hN d c c' (fun (g : Unit) k l h i => merge_Merged_turn.l0 m now k l h i) (fun g l h => some ⟨l, h, !m.back, stnd (!m.back) h, m.made⟩) (fun i l h => turn_step S hN m hl now hnow d hd' c c' hst hmv i l h) (fun g k l h => turn_end m now k l h hl)
  refine ⟨h', p1, p2, n0, fun k hk => ?_⟩
  unfold merge_Merged_turn
  simp only [h0, cut00, Option.bind_some]
  rw [hm.srcs]
  refine (p3 () k hk).trans ?_
  rw [hd', hm.made]
end Go.Proofs.Ytknedifgapgmbaa.Mo

set_option maxRecDepth 100000
namespace Go.Proofs.Ytknedifgapgmbaa.Mo
open Go Go.Proofs.Ytknedifgapgmbaa.Sy
theorem l5_step (a0 : merge_Merged) (d : Bool) (hd' : a0.back = d) {n : Nat} (hn : n ≤ 1048576) (hH : a0.heap.length = n + 1) (l : List merge_head) (hl : l.length = n) (hs : ∀ x ∈ l, small x) (i b c : Nat) (hi : i ≤ n) (hb : b < n) (hc : c < n) (hc2 : c ≤ 2 * i + 2) (J : Int → Option (Bool × merge_Merged)) (k : Nat) (hk : 4 ≤ k) :
    merge_Merged_step.l5 a0 l (i : Int) J (k + 1) (b : Int) (c : Int) = merge_Merged_step.l5 a0 l (i : Int) J k ((if bf d (A hd0 l c) (A hd0 l b) then c else b : Nat) : Int) ((c + 1 : Nat) : Int) := by
  have w1 : w64 (2 * (i : Int)) = ((2 * i : Nat) : Int) := w64_nat (n := 2 * i) (by omega) (by omega)
  have w2 : w64 (((2 * i : Nat) : Int) + 2) = ((2 * i + 2 : Nat) : Int) := w64_nat (n := 2 * i + 2) (by omega) (by omega)
  have w3 : w64 ((a0.heap.length : Int) - 1) = (n : Int) := w64_nat (n := n) (by omega) (by omega)
  have w4 : w64 ((c : Int) + 1) = ((c + 1 : Nat) : Int) := wS (by omega)
  have e1 : (decide ((c : Int) ≤ ((2 * i + 2 : Nat) : Int)) && decide ((c : Int) < (n : Int))) = true := by rw [decide_eq_true (by omega), decide_eq_true (by omega)]; rfl
  have hx := idx_A (d := hd0) (l := l) (k := c) (by omega)
  have hy := idx_A (d := hd0) (l := l) (k := b) (by omega)
  have ho := order_eq k hk (sm_A hs (i := c) (by omega)) (sm_A hs (i := b) (by omega))
  cases d with
  | false =>
    by_cases h : bf false (A hd0 l c) (A hd0 l b)
    · have e2 : decide (oH (A hd0 l c) (A hd0 l b) < 0) = true := decide_eq_true (oH_lt.2 h)
      simp only [merge_Merged_step.l5, w1, w2, w3, w4, e1, if_true, Jn, hx, hy, Option.bind_some, hd', Bool.false_eq_true, if_false, ho, e2, if_pos h]
    · have e2 : decide (oH (A hd0 l c) (A hd0 l b) < 0) = false := decide_eq_false (fun q => h (oH_lt.1 q))
      simp only [merge_Merged_step.l5, w1, w2, w3, w4, e1, if_true, Jn, hx, hy, Option.bind_some, hd', Bool.false_eq_true, if_false, ho, e2, if_neg h]
  | true =>
    by_cases h : bf true (A hd0 l c) (A hd0 l b)
    · have e2 : decide (0 < oH (A hd0 l c) (A hd0 l b)) = true := decide_eq_true (oH_gt.2 h)
      simp only [merge_Merged_step.l5, w1, w2, w3, w4, e1, if_true, Jn, hx, hy, Option.bind_some, hd', Bool.false_eq_true, if_false, ho, e2, if_pos h]
    · have e2 : decide (0 < oH (A hd0 l c) (A hd0 l b)) = false := decide_eq_false (fun q => h (oH_gt.1 q))
      simp only [merge_Merged_step.l5, w1, w2, w3, w4, e1, if_true, Jn, hx, hy, Option.bind_some, hd', Bool.false_eq_true, if_false, ho, e2, if_neg h]
theorem l5_stop (a0 : merge_Merged) {n : Nat} (hn : n ≤ 1048576) (hH : a0.heap.length = n + 1) (l : List merge_head) (i b c : Nat) (hi : i ≤ n) (hc : ¬ (c ≤ 2 * i + 2 ∧ c < n)) (J : Int → Option (Bool × merge_Merged)) (k : Nat) :
    merge_Merged_step.l5 a0 l (i : Int) J (k + 1) (b : Int) (c : Int) = J (b : Int) := by
  have w1 : w64 (2 * (i : Int)) = ((2 * i : Nat) : Int) := w64_nat (n := 2 * i) (by omega) (by omega)
  have w2 : w64 (((2 * i : Nat) : Int) + 2) = ((2 * i + 2 : Nat) : Int) := w64_nat (n := 2 * i + 2) (by omega) (by omega)
  have w3 : w64 ((a0.heap.length : Int) - 1) = (n : Int) := w64_nat (n := n) (by omega) (by omega)
  have e1 : (decide ((c : Int) ≤ ((2 * i + 2 : Nat) : Int)) && decide ((c : Int) < (n : Int))) = false := by
    rw [Bool.eq_false_iff]
    intro h
    simp only [Bool.and_eq_true, decide_eq_true_eq] at h
    exact hc (by omega)
  simp only [merge_Merged_step.l5, w1, w2, w3, e1, Bool.false_eq_true, if_false]
theorem l5_eq (a0 : merge_Merged) (d : Bool) (hd' : a0.back = d) {n : Nat} (hn : n ≤ 1048576) (hH : a0.heap.length = n + 1) (l : List merge_head) (hl : l.length = n) (hs : ∀ x ∈ l, small x) (i : Nat) (hi : i < n ∨ i = 0) :
    ∃ m, (m = i ∨ (0 < m ∧ m < n ∧ (m - 1) / 2 = i ∧ bf d (A hd0 l m) (A hd0 l i))) ∧ (∀ c, 0 < c → c < n → (c - 1) / 2 = i → ¬ bf d (A hd0 l c) (A hd0 l m)) ∧
      ∀ J k, 7 ≤ k → merge_Merged_step.l5 a0 l (i : Int) J k (i : Int) (w64 ((w64 (2 * (i : Int))) + 1)) = J (m : Int) := by
  have w1 : w64 (2 * (i : Int)) = ((2 * i : Nat) : Int) := w64_nat (n := 2 * i) (by omega) (by omega)
  have w2 : w64 (((2 * i : Nat) : Int) + 1) = ((2 * i + 1 : Nat) : Int) := w64_nat (n := 2 * i + 1) (by omega) (by omega)
  have hw := wo_bf d
  simp only [w1, w2]
  by_cases h1 : 2 * i + 1 < n
  · have hi' : i < n := by omega
    by_cases h2 : 2 * i + 2 < n
    · -- two children
      have hb1 : (if bf d (A hd0 l (2 * i + 1)) (A hd0 l i) then 2 * i + 1 else i) < n := by split <;> omega
      refine ⟨if bf d (A hd0 l (2 * i + 2)) (A hd0 l (if bf d (A hd0 l (2 * i + 1)) (A hd0 l i) then 2 * i + 1 else i)) then 2 * i + 2 else (if bf d (A hd0 l (2 * i + 1)) (A hd0 l i) then 2 * i + 1 else i), ?_, ?_, fun J k hk => ?_⟩
      · by_cases g1 : bf d (A hd0 l (2 * i + 1)) (A hd0 l i)
        · simp only [if_pos g1]
          by_cases g2 : bf d (A hd0 l (2 * i + 2)) (A hd0 l (2 * i + 1))
          · simp only [if_pos g2]
            exact .inr ⟨by omega, h2, by omega, hw.lt_le g2 (hw.asymm _ _ g1)⟩
          · simp only [if_neg g2]
            exact .inr ⟨by omega, h1, by omega, g1⟩
        · simp only [if_neg g1]
          by_cases g2 : bf d (A hd0 l (2 * i + 2)) (A hd0 l i)
          · simp only [if_pos g2]
            exact .inr ⟨by omega, h2, by omega, g2⟩
          · simp only [if_neg g2]; exact .inl trivial
      · intro c c1 c2 c3
        have hc : c = 2 * i + 1 ∨ c = 2 * i + 2 := by omega
        by_cases g1 : bf d (A hd0 l (2 * i + 1)) (A hd0 l i)
        · simp only [if_pos g1]
          by_cases g2 : bf d (A hd0 l (2 * i + 2)) (A hd0 l (2 * i + 1))
          · simp only [if_pos g2]
            rcases hc with rfl | rfl
            · exact hw.asymm _ _ g2
            · exact hw.irr _
          · simp only [if_neg g2]
            rcases hc with rfl | rfl
            · exact hw.irr _
            · exact g2
        · simp only [if_neg g1]
          by_cases g2 : bf d (A hd0 l (2 * i + 2)) (A hd0 l i)
          · simp only [if_pos g2]
            rcases hc with rfl | rfl
            · exact fun q => g1 (hw.lt_le q (hw.asymm _ _ g2))
            · exact hw.irr _
          · simp only [if_neg g2]
            rcases hc with rfl | rfl
            · exact g1
            · exact g2
      · obtain ⟨j, rfl⟩ : ∃ j, k = j + 3 := ⟨k - 3, by omega⟩
        rw [l5_step a0 d hd' hn hH l hl hs i i (2 * i + 1) (by omega) hi' h1 (by omega) J (j + 2) (by omega),
          l5_step a0 d hd' hn hH l hl hs i _ (2 * i + 1 + 1) (by omega) hb1 h2 (by omega) J (j + 1) (by omega),
          l5_stop a0 hn hH l i _ (2 * i + 1 + 1 + 1) (by omega) (by omega) J j]
    · refine ⟨if bf d (A hd0 l (2 * i + 1)) (A hd0 l i) then 2 * i + 1 else i, ?_, ?_, fun J k hk => ?_⟩
      · by_cases g1 : bf d (A hd0 l (2 * i + 1)) (A hd0 l i)
        · simp only [if_pos g1]
          exact .inr ⟨by omega, h1, by omega, g1⟩
        · simp only [if_neg g1]; exact .inl trivial
      · intro c c1 c2 c3
        have hc : c = 2 * i + 1 := by omega
        subst hc
        by_cases g1 : bf d (A hd0 l (2 * i + 1)) (A hd0 l i)
        · simp only [if_pos g1]; exact hw.irr _
        · simp only [if_neg g1]; exact g1
      · obtain ⟨j, rfl⟩ : ∃ j, k = j + 2 := ⟨k - 2, by omega⟩
        rw [l5_step a0 d hd' hn hH l hl hs i i (2 * i + 1) (by omega) hi' h1 (by omega) J (j + 1) (by omega),
          l5_stop a0 hn hH l i _ (2 * i + 1 + 1) (by omega) (by omega) J j]
  · refine ⟨i, .inl rfl, fun c c1 c2 c3 => by omega, fun J k hk => ?_⟩
    obtain ⟨j, rfl⟩ : ∃ j, k = j + 1 := ⟨k - 1, by omega⟩
    exact l5_stop a0 hn hH l i i (2 * i + 1) (by omega) (by omega) J j
/-- What a step does once the heap is one again. -/
def tailS (a0 : merge_Merged) (x5 : merge_head) (y8 : merge_List) (k_922 : Nat) (l_837 : List merge_head) : Option (Bool × merge_Merged) :=
  if a0.back = true then (Jn (fun (l_994 : (List merge_head)) (x_995 : merge_List) => Jn (fun (i_1001 : Int) => some ((i_1001 == 1), (⟨(List.set a0.sources (Int.toNat x5.from_) (Itf.ptr x_995)), l_994, a0.back, i_1001, a0.made⟩ : merge_Merged))) (fun J_1003 => if (decide (0 < (l_994.length : Int))) = true then (J_1003 1) else (if a0.back = true then (J_1003 0) else (J_1003 2)))) (fun J_997 => (merge_List_Prev y8).bind fun r5586 => if r5586.1 = true then ((merge_List_Here r5586.2).bind fun r5590 => (push 4021071095713 l_837 (⟨r5590.1, x5.from_⟩ : merge_head)).bind fun l5602 => merge_Merged_step.l3 a0 J_997 r5586 k_922 l5602 (w64 ((l5602.length : Int) - 1))) else (J_997 l_837 r5586.2))) else (Jn (fun (l_1063 : (List merge_head)) (x_1064 : merge_List) => Jn (fun (i_1070 : Int) => some ((i_1070 == 1), (⟨(List.set a0.sources (Int.toNat x5.from_) (Itf.ptr x_1064)), l_1063, a0.back, i_1070, a0.made⟩ : merge_Merged))) (fun J_1072 => if (decide (0 < (l_1063.length : Int))) = true then (J_1072 1) else (if a0.back = true then (J_1072 0) else (J_1072 2)))) (fun J_1066 => (merge_List_Next y8).bind fun r6148 => if r6148.1 = true then ((merge_List_Here r6148.2).bind fun r6152 => (push 4021071095713 l_837 (⟨r6152.1, x5.from_⟩ : merge_head)).bind fun l6164 => merge_Merged_step.l4 a0 J_1066 r6148 k_922 l6164 (w64 ((l6164.length : Int) - 1))) else (J_1066 l_837 r6148.2)))
theorem stnd_eq (d : Bool) (h : List merge_head) (G : Int → Option (Bool × merge_Merged)) : (if decide ((0 : Int) < (h.length : Int)) = true then G 1 else if d = true then G 0 else G 2) = G (stnd d h) := by
  unfold stnd
  by_cases h0 : 0 < h.length
  · have : decide ((0 : Int) < (h.length : Int)) = true := decide_eq_true (by omega)
    simp only [this, if_true, if_pos h0]
  · have : decide ((0 : Int) < (h.length : Int)) = false := decide_eq_false (by omega)
    simp only [this, Bool.false_eq_true, if_false, if_neg h0]
    cases d <;> rfl
theorem stnd_one (d : Bool) (h : List merge_head) : (stnd d h == 1) = decide (0 < h.length) := by
  unfold stnd
  by_cases h0 : 0 < h.length
  · simp [h0]
  · simp only [h0, if_false, decide_false]
    cases d <;> rfl
theorem tail_eq {S : List (List Entry)} (hN : S.length ≤ 1048576) (m : merge_Merged) (d : Bool) (hd' : m.back = d) (f : Nat) (hf : f < S.length) (x5 : merge_head) (hx5 : x5.from_ = f) (y : merge_List) (v : Int) (hmv : (cond d merge_List_Prev merge_List_Next) y = some (into S f v, ⟨S.getD f [], v, true⟩))
    (l : List merge_head) (hl : l.length ≤ 1048576) (hh : Heap hd0 (bf d) l) (hs : ∀ x ∈ l, small x) :
    ∃ h' q, Heap hd0 (bf d) h' ∧ (l ++ (hd S f v).toList).Perm h' ∧ ∀ k, q ≤ k → tailS m x5 y k l = some (decide (0 < h'.length), ⟨m.sources.set f (.ptr ⟨S.getD f [], v, true⟩), h', d, stnd d h', m.made⟩) := by
  have hft : Int.toNat x5.from_ = f := by rw [hx5]; simp
  cases hin : into S f v with
  | false =>
    refine ⟨l, 0, hh, by rw [hd_out hin]; simp, fun k hk => ?_⟩
    rw [hin] at hmv
    cases d with
    | false =>
      simp only [cond_false] at hmv
      have := stnd_eq false l (fun q => some ((q == 1), (⟨m.sources.set f (.ptr ⟨S.getD f [], v, true⟩), l, false, q, m.made⟩ : merge_Merged)))
      simp only [Bool.false_eq_true, if_false] at this
      simp only [tailS, hd', Bool.false_eq_true, if_false, Jn, hmv, Option.bind_some, hft]
      rw [this, stnd_one]
    | true =>
      simp only [cond_true] at hmv
      have := stnd_eq true l (fun q => some ((q == 1), (⟨m.sources.set f (.ptr ⟨S.getD f [], v, true⟩), l, true, q, m.made⟩ : merge_Merged)))
      simp only [if_true] at this
      simp only [tailS, hd', if_true, Jn, hmv, Option.bind_some, Bool.false_eq_true, if_false, hft]
      rw [this, stnd_one]
  | true =>
    obtain ⟨e, h1, h2⟩ := hd_in hin
    have hn : (l ++ [(⟨e, (f : Int)⟩ : merge_head)]).length = l.length + 1 := by simp
    have hlen : w64 ((((l ++ [(⟨e, (f : Int)⟩ : merge_head)]).length : Nat) : Int) - 1) = (l.length : Int) := by rw [hn]; exact w64_nat (n := l.length) (by omega) (by omega)
    rw [hin] at hmv
    cases d with
    | false =>
      simp only [cond_false] at hmv
      obtain ⟨h', n0, p1, p2, p3⟩ := up_eq (wo_bf false) small (l.length + 1) (fun (g : (List merge_head → merge_List → Option (Bool × merge_Merged)) × (Bool × merge_List)) k l' j => merge_Merged_step.l4 m g.1 g.2 k l' j) (fun g l' => g.1 l' g.2.2) (fun g k l' j hk hl' hj hP => up_step4 m _ _ false hd' (l.length + 1) (by omega) k l' j hk hl' hj hP) l.length _ hn (by omega) (push_small hf hN hs) (upOk_push hh)
      refine ⟨h', n0, p2, by rw [h1]; exact p1, fun k hk => ?_⟩
      have q := stnd_eq false h' (fun q => some ((q == 1), (⟨m.sources.set f (.ptr ⟨S.getD f [], v, true⟩), h', false, q, m.made⟩ : merge_Merged)))
      simp only [Bool.false_eq_true, if_false] at q
      simp only [tailS, hd', Bool.false_eq_true, if_false, if_true, Jn, hmv, Option.bind_some, h2, hx5, push_ok (show l.length < 4021071095713 by omega), hlen]
      rw [stnd_one] at q
      exact (p3 (_, _) k hk).trans q
    | true =>
      simp only [cond_true] at hmv
      obtain ⟨h', n0, p1, p2, p3⟩ := up_eq (wo_bf true) small (l.length + 1) (fun (g : (List merge_head → merge_List → Option (Bool × merge_Merged)) × (Bool × merge_List)) k l' j => merge_Merged_step.l3 m g.1 g.2 k l' j) (fun g l' => g.1 l' g.2.2) (fun g k l' j hk hl' hj hP => up_step3 m _ _ true hd' (l.length + 1) (by omega) k l' j hk hl' hj hP) l.length _ hn (by omega) (push_small hf hN hs) (upOk_push hh)
      refine ⟨h', n0, p2, by rw [h1]; exact p1, fun k hk => ?_⟩
      have q := stnd_eq true h' (fun q => some ((q == 1), (⟨m.sources.set f (.ptr ⟨S.getD f [], v, true⟩), h', true, q, m.made⟩ : merge_Merged)))
      simp only [if_true] at q
      simp only [tailS, hd', if_true, Jn, hmv, Option.bind_some, h2, hx5, push_ok (show l.length < 4021071095713 by omega), hlen]
      rw [stnd_one] at q
      exact (p3 (_, _) k hk).trans q
theorem l2_eq (m : merge_Merged) (d : Bool) (hd' : m.back = d) {n : Nat} (hn : n ≤ 1048576) (hH : m.heap.length = n + 1) (x5 : merge_head) (y : merge_List) (l : List merge_head) (hl : l.length = n) (hs : ∀ x ∈ l, small x) (hu : DownOk hd0 (bf d) l 0) :
    ∃ l' n0 j, l.Perm l' ∧ Heap hd0 (bf d) l' ∧ j ≤ n0 ∧ ∀ k, n0 ≤ k → merge_Merged_step.l2 m x5 y k l 0 = tailS m x5 y (k - j) l' := by
  obtain ⟨l', n0, j, p1, p2, pj, p3⟩ := down_eq (wo_bf d) small n (fun (g : Unit) k l i => merge_Merged_step.l2 m x5 y k l i) (fun g k l => tailS m x5 y k l) (fun l i hl hi hP => by
    obtain ⟨b, g1, g2, g3⟩ := l5_eq m d hd' hn hH l hl hP i hi
    refine ⟨b, 7, g1, g2, fun g k hk => ?_⟩
    by_cases hb : b = i
    · have e : ((b : Int) == (i : Int)) = true := by simp [hb]
      simp only [merge_Merged_step.l2, Jn, g3 _ k hk, e, if_true, if_pos hb, tailS]
    · have e : ((b : Int) == (i : Int)) = false := by
        rw [beq_eq_false_iff_ne]; omega
      obtain ⟨_, h2, h3, _⟩ := g1.resolve_left hb
      have hx := idx_A (d := hd0) (l := l) (k := b) (by omega)
      have hy := idx_A (d := hd0) (l := l) (k := i) (by omega)
      have hs := swp_eq (l := l) (i := (b : Int)) (j := (i : Int)) hd0 (fun l' => merge_Merged_step.l2 m x5 y k l' (b : Int)) (by omega) (by omega) (by omega) (by omega)
      simp only [hx, hy, Option.bind_some, Int.toNat_natCast] at hs
      simp only [merge_Merged_step.l2, Jn, g3 _ k hk, e, Bool.false_eq_true, if_false, if_neg hb, hx, hy, Option.bind_some]
      exact hs) n 0 l (by omega) hl (.inr rfl) hs hu
  exact ⟨l', n0, j, p1, p2, pj, fun k hk => p3 () k hk⟩
theorem hds_congr {S : List (List Entry)} {c c' : Nat → Int} : ∀ {n : Nat}, (∀ j, j < n → c j = c' j) → hds S c n = hds S c' n
  | 0, _ => rfl
  | n + 1, h => by rw [hds_succ, hds_succ, hds_congr fun j hj => h j (by omega), h n (by omega)]
/-- One source moved. -/
theorem hds_upd (S : List (List Entry)) (c : Nat → Int) (f : Nat) (v : Int) : ∀ n, f < n → ∃ pre post, hds S c n = pre ++ (hd S f (c f)).toList ++ post ∧ hds S (fun j => if j = f then v else c j) n = pre ++ (hd S f v).toList ++ post
  | 0, h => by omega
  | n + 1, h => by
    rw [hds_succ, hds_succ]
    by_cases e : f = n
    · subst e
      refine ⟨hds S c f, [], by simp, ?_⟩
      have : hds S (fun j => if j = f then v else c j) f = hds S c f := hds_congr fun j hj => by simp [show j ≠ f by omega]
      rw [this]; simp
    · obtain ⟨pre, post, h1, h2⟩ := hds_upd S c f v n (by omega)
      refine ⟨pre, post ++ (hd S n (c n)).toList, by rw [h1]; simp, ?_⟩
      rw [h2]; simp [show ¬ n = f by omega]
theorem step_eq {S : List (List Entry)} (hN : S.length ≤ 1048576) {m : merge_Merged} {c : Nat → Int} (hm : Good S m c) (d : Bool) (hd' : m.back = d) (hh : Heap hd0 (bf d) m.heap) (hp : (hds S c S.length).Perm m.heap) (f : Nat) (hf : f < S.length) (now : merge_head) (hnow : now.from_ = f) (h0 : idx m.heap 0 = some now) (v : Int)
    (hmv : (cond d merge_List_Prev merge_List_Next) ⟨S.getD f [], c f, true⟩ = some (into S f v, ⟨S.getD f [], v, true⟩)) :
    ∃ h', Heap hd0 (bf d) h' ∧ (hds S (fun j => if j = f then v else c j) S.length).Perm h' ∧ Ev (fun k => merge_Merged_step k m) (decide (0 < h'.length), ⟨src S (fun j => if j = f then v else c j), h', d, stnd d h', true⟩) := by
  have hle : m.heap.length ≤ S.length := by rw [← hp.length_eq]; exact hds_len _ _ _
  have hpos : 0 < m.heap.length := by
    rcases Nat.eq_zero_or_pos m.heap.length with e | e
    · rw [List.eq_nil_of_length_eq_zero e] at h0; cases h0
    · exact e
  have hA0 : A hd0 m.heap 0 = now := by
    have := idx_A (d := hd0) (l := m.heap) (k := 0) hpos
    rw [show ((0 : Nat) : Int) = 0 from rfl, h0] at this
    exact (Option.some.inj this).symm
  have hsm : ∀ x ∈ m.heap, small x := fun x hx => hds_small hN x (hp.mem_iff.2 hx)
  -- the popped heap
  have w3 : w64 ((m.heap.length : Int) - 1) = ((m.heap.length - 1 : Nat) : Int) := w64_nat (n := m.heap.length - 1) (by omega) (by omega)
  have hlast := idx_A (d := hd0) (l := m.heap) (k := m.heap.length - 1) (by omega)
  have hupd : upd m.heap 0 (A hd0 m.heap (m.heap.length - 1)) = some (m.heap.set 0 (A hd0 m.heap (m.heap.length - 1))) := by
    unfold upd
    rw [if_pos ⟨by omega, by omega⟩]
    rfl
  have hcut : cut (m.heap.set 0 (A hd0 m.heap (m.heap.length - 1))) 0 ((m.heap.length - 1 : Nat) : Int) = some ((m.heap.set 0 (A hd0 m.heap (m.heap.length - 1))).take (m.heap.length - 1)) := by
    unfold cut
    rw [if_pos ⟨by omega, by omega, by rw [List.length_set]; omega⟩]
    simp
  have hpop := pop_perm (d := hd0) (l := m.heap) hpos
  rw [hA0] at hpop
  have hsm2 : ∀ x ∈ (m.heap.set 0 (A hd0 m.heap (m.heap.length - 1))).take (m.heap.length - 1), small x := fun x hx => hsm x (hpop.mem_iff.1 (List.mem_cons_of_mem _ hx))
  obtain ⟨l', n0, j, q1, q2, qj, q3⟩ := l2_eq m d hd' (n := m.heap.length - 1) (by omega) (by omega) now ⟨S.getD f [], c f, true⟩ _ (by rw [List.length_take, List.length_set]; omega) hsm2 (pop_ok hh)
  obtain ⟨h', q, r1, r2, r3⟩ := tail_eq hN m d hd' f hf now hnow ⟨S.getD f [], c f, true⟩ v hmv l' (by rw [← q1.length_eq, List.length_take, List.length_set]; omega) q2 (fun x hx => hsm2 x (q1.mem_iff.2 hx))
  refine ⟨h', r1, ?_, n0 + q + j, fun k hk => ?_⟩
  · -- the heads
    obtain ⟨pre, post, s1, s2⟩ := hds_upd S c f v S.length hf
    have hmem : now ∈ hds S c S.length := hp.mem_iff.2 (by rw [← hA0]; exact A_mem hpos)
    obtain ⟨i, hi, hx⟩ := List.mem_filterMap.1 hmem
    have hif : i = f := by
      have := hd_from hx
      omega
    subst hif
    rw [hx] at s1
    rw [s2]
    have t1 : (now :: (m.heap.set 0 (A hd0 m.heap (m.heap.length - 1))).take (m.heap.length - 1)).Perm (now :: (pre ++ post)) := by
      refine hpop.trans (hp.symm.trans ?_)
      rw [s1]
      simp only [Option.toList_some, List.append_assoc]
      exact List.perm_middle
    have t2 := (List.perm_cons now).1 t1
    refine List.Perm.trans ?_ r2
    refine List.Perm.trans ?_ (((t2.symm.trans q1)).append_right _)
    rw [List.append_assoc, List.append_assoc]
    exact (List.perm_append_comm).append_left _
  · have hsf : idx m.sources (f : Int) = some (.ptr ⟨S.getD f [], c f, true⟩) := by rw [hm.srcs]; exact src_at S c hf
    unfold merge_Merged_step
    simp only [h0, Option.bind_some, hnow, hsf, Itf.on, w3, hlast, hupd, hcut]
    rw [q3 k (by omega), r3 (k - j) (by omega), hm.srcs, src_set S c v hf, hm.made]
end Go.Proofs.Ytknedifgapgmbaa.Mo

set_option maxRecDepth 100000
namespace Go.Proofs.Ytknedifgapgmbaa.Mo
open Go Go.Proofs.Ytknedifgapgmbaa.Sy
/-- All entries of the sources, in their order. -/
structure AllOf (S : List (List Entry)) (Z : List merge_head) : Prop where
  flt : ∀ i, i < S.length → (Z.filter (fun x => x.from_ == (i : Int))).map (·.e) = S.getD i []
  rng : ∀ x ∈ Z, 0 ≤ x.from_ ∧ x.from_ < S.length
  srt : Z.Pairwise fun x y => ¬ ltH y x
def fi (i : Nat) (l : List merge_head) : List merge_head := l.filter (fun x => x.from_ == (i : Int))
def ct (Z : List merge_head) (p i : Nat) : Nat := (fi i (Z.take p)).length
theorem ltH_tot {x y : merge_head} (h : x.from_ ≠ y.from_) : ltH x y ∨ ltH y x := by
  unfold ltH
  by_cases h1 : ltE x.e y.e
  · exact .inl (.inl h1)
  · by_cases h2 : ltE y.e x.e
    · exact .inr (.inl h2)
    · rcases Int.lt_or_gt_of_ne h with h3 | h3
      · exact .inl (.inr ⟨h2, h3⟩)
      · exact .inr (.inr ⟨h1, h3⟩)
section
variable {S : List (List Entry)} {Z : List merge_head}
theorem fi_app (i : Nat) (a b : List merge_head) : fi i (a ++ b) = fi i a ++ fi i b := List.filter_append ..
theorem fi_mem {i : Nat} {l : List merge_head} {x : merge_head} (h : x ∈ fi i l) : x ∈ l ∧ x.from_ = i := by
  have := List.mem_filter.1 h
  exact ⟨this.1, by simpa using this.2⟩
theorem flt_at (hZ : AllOf S Z) (p : Nat) {i : Nat} (hi : i < S.length) : S.getD i [] = (fi i (Z.take p)).map (·.e) ++ (fi i (Z.drop p)).map (·.e) := by
  rw [← hZ.flt i hi, ← List.map_append, ← fi_app, List.take_append_drop]; rfl
theorem ct_le (hZ : AllOf S Z) (p : Nat) {i : Nat} (hi : i < S.length) : ct Z p i ≤ (S.getD i []).length := by
  rw [flt_at hZ p hi]; simp [ct]
theorem hd_fwd (hZ : AllOf S Z) (p : Nat) {i : Nat} (hi : i < S.length) : hd S i (ct Z p i : Int) = (fi i (Z.drop p)).head? := by
  unfold hd
  rw [idx_nat, flt_at hZ p hi, List.getElem?_append_right (by simp [ct])]
  have : ct Z p i - ((fi i (Z.take p)).map (·.e)).length = 0 := by simp [ct]
  rw [this]
  cases h : fi i (Z.drop p) with
  | nil => rfl
  | cons x r =>
    have hx := (fi_mem (i := i) (l := Z.drop p) (x := x) (by rw [h]; exact List.mem_cons_self ..)).2
    simp only [List.map_cons, List.getElem?_cons_zero, Option.map_some, List.head?_cons]
    rw [← hx]
theorem hd_bwd (hZ : AllOf S Z) (p : Nat) {i : Nat} (hi : i < S.length) : hd S i ((ct Z p i : Int) - 1) = (fi i (Z.take p)).getLast? := by
  rcases nil_or_snoc (fi i (Z.take p)) with h | ⟨q, x, h⟩
  · have hc : ct Z p i = 0 := by simp [ct, h]
    rw [hc, h]
    exact hd_out (by simp [into])
  · have hc : ct Z p i = q.length + 1 := by simp [ct, h]
    have hx := (fi_mem (i := i) (l := Z.take p) (x := x) (by rw [h]; simp)).2
    have e : ((ct Z p i : Int) - 1) = (q.length : Int) := by omega
    unfold hd
    rw [e, idx_nat, flt_at hZ p hi, h]
    simp only [List.map_append, List.map_cons, List.map_nil, List.append_assoc, List.cons_append, List.nil_append]
    rw [List.getElem?_append_right (by simp)]
    simp only [List.length_map, Nat.sub_self, List.getElem?_cons_zero, Option.map_some, List.getLast?_append, List.getLast?_singleton, Option.some_or]
    rw [← hx]
theorem into_iff (i : Nat) (v : Int) : into S i v = (hd S i v).isSome := by
  cases h : into S i v with
  | false => rw [hd_out h]; rfl
  | true => obtain ⟨e, h1, _⟩ := hd_in h; rw [h1]; rfl
theorem drop_at {p : Nat} (hp : p < Z.length) : Z.drop p = Z[p] :: Z.drop (p + 1) := List.drop_eq_getElem_cons hp
theorem take_at {p : Nat} (hp : p < Z.length) : Z.take (p + 1) = Z.take p ++ [Z[p]] := by rw [List.take_add_one, List.getElem?_eq_getElem hp]; rfl
theorem ct_succ {p : Nat} (hp : p < Z.length) (i : Nat) : ct Z (p + 1) i = ct Z p i + if Z[p].from_ = (i : Int) then 1 else 0 := by
  unfold ct
  rw [take_at hp, fi_app, List.length_append]
  congr 1
  unfold fi
  by_cases h : Z[p].from_ = (i : Int) <;> simp [h]
theorem ct_zero (i : Nat) : ct Z 0 i = 0 := by simp [ct, fi]
theorem srt_drop (hZ : AllOf S Z) {p : Nat} (hp : p < Z.length) {x : merge_head} (h : x ∈ Z.drop p) : ¬ ltH x Z[p] := by
  rw [drop_at hp] at h
  rcases List.mem_cons.1 h with rfl | h
  · exact wo_H.irr _
  · have := List.pairwise_iff_getElem.1 hZ.srt
    obtain ⟨j, hj, rfl⟩ := List.getElem_of_mem h
    rw [List.length_drop] at hj
    rw [List.getElem_drop]
    exact this p (p + 1 + j) hp (by omega) (by omega)
theorem srt_take (hZ : AllOf S Z) {p : Nat} (hp : p < Z.length) {x : merge_head} (h : x ∈ Z.take (p + 1)) : ¬ ltH Z[p] x := by
  rw [take_at hp] at h
  rcases List.mem_append.1 h with h | h
  · have := List.pairwise_iff_getElem.1 hZ.srt
    obtain ⟨j, hj, rfl⟩ := List.getElem_of_mem h
    rw [List.length_take] at hj
    rw [List.getElem_take]
    exact this j p (by omega) hp (by omega)
  · rw [List.mem_singleton] at h; subst h; exact wo_H.irr _
/-- Where the sources stand when the cursor stands at place q, forwards, or ahead of place q, backwards. -/
def cs (Z : List merge_head) (d : Bool) (q : Nat) (i : Nat) : Int := cond d ((ct Z q i : Int) - 1) (ct Z q i : Int)
theorem hd_cs (hZ : AllOf S Z) (d : Bool) (q : Nat) {i : Nat} (hi : i < S.length) : hd S i (cs Z d q i) = cond d (fi i (Z.take q)).getLast? (fi i (Z.drop q)).head? := by
  cases d
  · exact hd_fwd hZ q hi
  · exact hd_bwd hZ q hi
theorem hds_empty (hZ : AllOf S Z) (d : Bool) (q : Nat) (hq : q ≤ Z.length) (h : cond d q (Z.length - q) = 0) : hds S (cs Z d q) S.length = [] := by
  unfold hds
  rw [List.filterMap_eq_nil_iff]
  intro i hi
  have hi' := List.mem_range.1 hi
  rw [hd_cs hZ d q hi']
  cases d with
  | false =>
    have : Z.drop q = [] := List.drop_eq_nil_of_le (by simp at h; omega)
    rw [this]; rfl
  | true =>
    have : q = 0 := h
    subst this
    rfl
/-- The item at which it stands: place p. -/
structure Stand (S : List (List Entry)) (Z : List merge_head) (m : merge_Merged) (p : Nat) : Prop where
  lt : p < Z.length
  state : m.state = 1
  good : Good S m (cs Z m.back (cond m.back (p + 1) p))
  heap : Heap hd0 (bf m.back) m.heap
  perm : (hds S (cs Z m.back (cond m.back (p + 1) p)) S.length).Perm m.heap
theorem hd_now (hZ : AllOf S Z) (d : Bool) {p : Nat} (hp : p < Z.length) {f : Nat} (hf : Z[p].from_ = f) : hd S f (cs Z d (cond d (p + 1) p) f) = some Z[p] := by
  have hfl : f < S.length := by have := (hZ.rng Z[p] (List.getElem_mem hp)).2; omega
  rw [hd_cs hZ d _ hfl]
  cases d with
  | false =>
    simp only [cond_false]
    rw [drop_at hp]
    unfold fi
    rw [List.filter_cons_of_pos (by simp [hf])]
    rfl
  | true =>
    simp only [cond_true]
    rw [take_at hp, fi_app]
    simp [fi, hf]
theorem from_nat (hZ : AllOf S Z) {p : Nat} (hp : p < Z.length) : ∃ f : Nat, Z[p].from_ = f ∧ f < S.length := by
  have := hZ.rng Z[p] (List.getElem_mem hp)
  exact ⟨Z[p].from_.toNat, by omega, by omega⟩
theorem Stand.front {m : merge_Merged} {p : Nat} (h : Stand S Z m p) (hZ : AllOf S Z) : idx m.heap 0 = some (Z[p]'h.lt) := by
  have hp := h.lt
  obtain ⟨f, hf, hfl⟩ := from_nat hZ hp
  have hnow := hd_now hZ m.back hp hf
  have hmem : Z[p] ∈ m.heap := h.perm.mem_iff.1 (List.mem_filterMap.2 ⟨f, List.mem_range.2 hfl, hnow⟩)
  have hpos : 0 < m.heap.length := List.length_pos_of_mem hmem
  have hA := idx_A (d := hd0) (l := m.heap) (k := 0) hpos
  rw [show ((0 : Nat) : Int) = 0 from rfl] at hA
  rw [hA]
  congr 1
  obtain ⟨j, hj, hje⟩ := List.getElem_of_mem hmem
  have htop := h.heap.top (wo_bf _) j hj
  rw [A_get hj, hje] at htop
  have hin : A hd0 m.heap 0 ∈ hds S (cs Z m.back (cond m.back (p + 1) p)) S.length := h.perm.mem_iff.2 (A_mem hpos)
  obtain ⟨i, hi, hx⟩ := List.mem_filterMap.1 hin
  have hi' := List.mem_range.1 hi
  have hfr := hd_from hx
  by_cases e : i = f
  · subst e
    rw [hnow] at hx
    exact (Option.some.inj hx).symm
  · exfalso
    have hne : (A hd0 m.heap 0).from_ ≠ Z[p].from_ := by omega
    rw [hd_cs hZ _ _ hi'] at hx
    cases hb : m.back with
    | false =>
      rw [hb] at hx htop
      simp only [cond_false] at hx
      have hm := (fi_mem (List.mem_of_mem_head? hx)).1
      have h1 := srt_drop hZ hp hm
      rcases ltH_tot hne with h2 | h2
      · exact h1 h2
      · exact htop h2
    | true =>
      rw [hb] at hx htop
      simp only [cond_true] at hx
      have hm := (fi_mem (List.mem_of_getLast? hx)).1
      have h1 := srt_take hZ hp hm
      rcases ltH_tot hne with h2 | h2
      · exact htop h2
      · exact h1 h2
/-- The cursor's place: -1: ahead; the number of all: behind. -/
inductive At (S : List (List Entry)) (Z : List merge_head) (m : merge_Merged) : Int → Prop
  | ahead {c} (h : Good S m c) (hs : m.state = 0) : At S Z m (-1)
  | behind {c} (h : Good S m c) (hs : m.state = 2) : At S Z m Z.length
  | at_ (p : Nat) (h : Stand S Z m p) : At S Z m (p : Int)
theorem At.good {m : merge_Merged} {v : Int} (h : At S Z m v) : ∃ c, Good S m c := by
  cases h with
  | ahead h _ => exact ⟨_, h⟩
  | behind h _ => exact ⟨_, h⟩
  | at_ p h => exact ⟨_, h.good⟩
theorem At.mk (hZ : AllOf S Z) (d : Bool) (q : Nat) (hq : q ≤ Z.length) {h : List merge_head} (hh : Heap hd0 (bf d) h) (hp : (hds S (cs Z d q) S.length).Perm h) :
    decide (0 < h.length) = decide (0 < cond d q (Z.length - q)) ∧ At S Z ⟨src S (cs Z d q), h, d, stnd d h, true⟩ (cond d ((q : Int) - 1) (q : Int)) := by
  by_cases h0 : cond d q (Z.length - q) = 0
  · have hn := hds_empty hZ d q hq h0
    rw [hn] at hp
    obtain rfl : h = [] := hp.nil_eq.symm
    refine ⟨by rw [h0]; rfl, ?_⟩
    cases d with
    | false =>
      simp only [cond_false] at h0 ⊢
      obtain rfl : q = Z.length := by omega
      exact .behind (c := cs Z false Z.length) ⟨rfl, rfl⟩ rfl
    | true =>
      simp only [cond_true] at h0 ⊢
      subst h0
      exact .ahead (c := cs Z true 0) ⟨rfl, rfl⟩ rfl
  · have hpos : ∃ p : Nat, p < Z.length ∧ q = cond d (p + 1) p := by
      cases d with
      | false => exact ⟨q, by simp at h0; omega, rfl⟩
      | true => exact ⟨q - 1, by simp at h0; omega, by simp at h0 ⊢; omega⟩
    obtain ⟨p, hp1, rfl⟩ := hpos
    obtain ⟨f, hf, hfl⟩ := from_nat hZ hp1
    have hmem : Z[p] ∈ h := hp.mem_iff.1 (List.mem_filterMap.2 ⟨f, List.mem_range.2 hfl, hd_now hZ d hp1 hf⟩)
    have hpos := List.length_pos_of_mem hmem
    refine ⟨by rw [decide_eq_true hpos, decide_eq_true (by omega)], ?_⟩
    have e : (cond d (((cond d (p + 1) p : Nat) : Int) - 1) ((cond d (p + 1) p : Nat) : Int)) = (p : Int) := by cases d <;> simp
    rw [e]
    exact .at_ p ⟨hp1, by simp [stnd, hpos], ⟨rfl, rfl⟩, hh, hp⟩
end
theorem first_mv (s : List Entry) (c : Int) : merge_List_First ⟨s, c, true⟩ = some (decide (0 ≤ (0 : Int)) && decide ((0 : Int) < (s.length : Int)), ⟨s, 0, true⟩) := by
  have e : minI (maxI 0 (-1)) (s.length : Int) = 0 := clamp_in s.length 0 (by omega)
  simp only [merge_List_First, Jn, Bool.not_true, Bool.not_false, if_true, e]
theorem last_mv (s : List Entry) (hs : s.length ≤ 1048576) (c : Int) : merge_List_Last ⟨s, c, true⟩ = some (decide (0 ≤ (s.length : Int) - 1) && decide ((s.length : Int) - 1 < (s.length : Int)), ⟨s, (s.length : Int) - 1, true⟩) := by
  have w : w64 ((s.length : Int) - 1) = (s.length : Int) - 1 := w64_of (by omega) (by omega)
  have e : minI (maxI ((s.length : Int) - 1) (-1)) (s.length : Int) = (s.length : Int) - 1 := clamp_in s.length _ (by omega)
  simp only [merge_List_Last, Jn, Bool.not_true, Bool.not_false, if_true, w, e]
theorem next_mv (s : List Entry) (hs : s.length ≤ 1048576) (c : Int) (h0 : -1 ≤ c) (h1 : c + 1 ≤ s.length) : merge_List_Next ⟨s, c, true⟩ = some (decide (0 ≤ c + 1) && decide (c + 1 < (s.length : Int)), ⟨s, c + 1, true⟩) := by
  have w : w64 (c + 1) = c + 1 := w64_of (by omega) (by omega)
  have e : minI (maxI (c + 1) (-1)) (s.length : Int) = c + 1 := clamp_in s.length _ (by omega)
  simp only [merge_List_Next, Jn, Bool.not_true, Bool.not_false, if_true, w, e]
theorem prev_mv (s : List Entry) (hs : s.length ≤ 1048576) (c : Int) (h0 : 0 ≤ c) (h1 : c ≤ s.length) : merge_List_Prev ⟨s, c, true⟩ = some (decide (0 ≤ c - 1) && decide (c - 1 < (s.length : Int)), ⟨s, c - 1, true⟩) := by
  have w : w64 (c - 1) = c - 1 := w64_of (by omega) (by omega)
  have e : minI (maxI (c - 1) (-1)) (s.length : Int) = c - 1 := clamp_in s.length _ (by omega)
  simp only [merge_List_Prev, Jn, Bool.not_true, Bool.not_false, if_true, w, e]
end Go.Proofs.Ytknedifgapgmbaa.Mo

set_option maxRecDepth 100000
namespace Go.Proofs.Ytknedifgapgmbaa.Mo
open Go Go.Proofs.Ytknedifgapgmbaa.Sy
section
variable {S : List (List Entry)} {Z : List merge_head}
/-- Sizes. -/
structure Few (S : List (List Entry)) (Z : List merge_head) : Prop where
  n : S.length ≤ 1048576
  s : ∀ i, (S.getD i []).length ≤ 1048576
  z : Z.length ≤ 1048576
theorem here_eq {m : merge_Merged} {p : Nat} (hZ : AllOf S Z) (h : Stand S Z m p) : merge_Merged_Here m = some ((Z[p]'h.lt).e, true) ∧ merge_Merged_From m = some (Z[p]'h.lt).from_ := by
  have h1 := h.front hZ
  have c : (!m.made || (m.state != 1)) = false := by rw [h.good.made, h.state]; rfl
  simp only [merge_Merged_Here, merge_Merged_From, c, Bool.false_eq_true, if_false, h1, Option.bind_some, and_self]
theorem At.yes {m : merge_Merged} {p : Nat} (h : At S Z m (p : Int)) (hp : p < Z.length) : Stand S Z m p := by
  generalize hv : (p : Int) = v at h
  cases h with
  | ahead _ _ => omega
  | behind _ _ => omega
  | at_ q h =>
    obtain rfl : p = q := by omega
    exact h
theorem first_at (hZ : AllOf S Z) (hF : Few S Z) {m : merge_Merged} {v : Int} (h : At S Z m v) : ∃ m', At S Z m' 0 ∧ Ev (fun k => merge_Merged_First k m) (decide (0 < Z.length), m') := by
  obtain ⟨c, hg⟩ := h.good
  obtain ⟨h', p1, p2, p3⟩ := first_eq (c' := cs Z false 0) hF.n hg (fun i hi => by
    have e : cs Z false 0 i = 0 := by simp [cs, ct_zero]
    rw [e]
    exact first_mv _ _)
  obtain ⟨q1, q2⟩ := At.mk hZ false 0 (Nat.zero_le _) p1 p2
  simp only [cond_false, Nat.sub_zero] at q1 q2
  rw [q1] at p3
  exact ⟨_, q2, p3⟩
theorem last_at (hZ : AllOf S Z) (hF : Few S Z) {m : merge_Merged} {v : Int} (h : At S Z m v) : ∃ m', At S Z m' ((Z.length : Int) - 1) ∧ Ev (fun k => merge_Merged_Last k m) (decide (0 < Z.length), m') := by
  obtain ⟨c, hg⟩ := h.good
  obtain ⟨h', p1, p2, p3⟩ := last_eq (c' := cs Z true Z.length) hF.n hg (fun i hi => by
    have e : cs Z true Z.length i = ((S.getD i []).length : Int) - 1 := by
      have := flt_at hZ Z.length hi
      rw [List.drop_length] at this
      simp only [cs, cond_true, ct]
      rw [this]; simp [fi]
    rw [e]
    exact last_mv _ (hF.s i) _)
  obtain ⟨q1, q2⟩ := At.mk hZ true Z.length (Nat.le_refl _) p1 p2
  simp only [cond_true] at q1 q2
  rw [q1] at p3
  exact ⟨_, q2, p3⟩
/-- Turned about, it stands where it stood. -/
theorem turn_at (hZ : AllOf S Z) (hF : Few S Z) {m : merge_Merged} {p : Nat} (h : Stand S Z m p) : ∃ m', Stand S Z m' p ∧ m'.back = (!m.back) ∧ Ev (fun k => merge_Merged_turn k m) m' := by
  have hp := h.lt
  obtain ⟨f, hf, hfl⟩ := from_nat hZ hp
  have hsm : small Z[p] := by unfold small; have := hF.n; omega
  have hcs : ∀ i, ct Z (p + 1) i = ct Z p i + if Z[p].from_ = (i : Int) then 1 else 0 := ct_succ hp
  have hle : ∀ i, i < S.length → ct Z p i ≤ (S.getD i []).length ∧ ct Z (p + 1) i ≤ (S.getD i []).length := fun i hi => ⟨ct_le hZ p hi, ct_le hZ (p + 1) hi⟩
  obtain ⟨h', p1, p2, p3⟩ := turn_eq (c' := cs Z (!m.back) (cond (!m.back) (p + 1) p)) hF.n h.good (!m.back) rfl Z[p] hsm (h.front hZ) (fun i hi hfi => by
      have e : cs Z (!m.back) (cond (!m.back) (p + 1) p) i = cs Z m.back (cond m.back (p + 1) p) i := by
        have := hcs i
        rw [if_pos hfi.symm] at this
        cases m.back <;> simp only [cs, cond_true, cond_false, Bool.not_true, Bool.not_false] <;> omega
      refine ⟨e, ?_⟩
      rw [into_iff, hd_now hZ m.back hp (f := i) (by omega)]
      rfl) (fun i hi hfi => by
      have hc := hcs i
      rw [if_neg (fun e => hfi e.symm)] at hc
      obtain ⟨l1, l2⟩ := hle i hi
      cases hb : m.back with
      | false =>
        simp only [Bool.not_false, cond_true, cond_false, cs, hc]
        refine ⟨?_, fun x hx => ?_⟩
        · rw [prev_mv _ (hF.s i) _ (by omega) (by omega)]; rfl
        · have h1 := hd_from hx
          have h2 := hd_bwd hZ (p + 1) hi
          rw [hc, Nat.add_zero] at h2
          rw [Nat.add_zero] at hx
          rw [hx] at h2
          have hm := (fi_mem (List.mem_of_getLast? h2.symm)).1
          have h3 := srt_take hZ hp hm
          exact (ltH_tot (x := x) (y := Z[p]) (by omega)).resolve_right h3
      | true =>
        simp only [Bool.not_true, cond_true, cond_false, cs, hc]
        refine ⟨?_, fun x hx => ?_⟩
        · have e : (((ct Z p i + 0 : Nat) : Int) - 1) + 1 = (ct Z p i : Int) := by omega
          have := next_mv (S.getD i []) (hF.s i) (((ct Z p i + 0 : Nat) : Int) - 1) (by omega) (by omega)
          rw [e] at this
          rw [this]; rfl
        · have h1 := hd_from hx
          have h2 := hd_fwd hZ p hi
          rw [hx] at h2
          have hm := (fi_mem (List.mem_of_mem_head? h2.symm)).1
          have h3 := srt_drop hZ hp hm
          exact (ltH_tot (x := x) (y := Z[p]) (by omega)).resolve_left h3)
  have hne : 0 < h'.length := List.length_pos_of_mem (p2.mem_iff.1 (List.mem_filterMap.2 ⟨f, List.mem_range.2 hfl, hd_now hZ (!m.back) hp hf⟩))
  exact ⟨_, ⟨hp, by simp [stnd, hne], ⟨rfl, rfl⟩, p1, p2⟩, rfl, p3⟩
theorem stepM_at (hZ : AllOf S Z) (hF : Few S Z) {m : merge_Merged} {p : Nat} (h : Stand S Z m p) : ∃ m', At S Z m' (cond m.back ((p : Int) - 1) ((p : Int) + 1)) ∧ Ev (fun k => merge_Merged_step k m) (decide (0 < cond m.back p (Z.length - (p + 1))), m') := by
  have hp := h.lt
  obtain ⟨f, hf, hfl⟩ := from_nat hZ hp
  have hcs : ∀ i, ct Z (p + 1) i = ct Z p i + if Z[p].from_ = (i : Int) then 1 else 0 := ct_succ hp
  have hcf := hcs f
  rw [if_pos hf] at hcf
  have l1 := ct_le hZ (p + 1) hfl
  cases hb : m.back with
  | false =>
    have hg := h.good
    have hpm := h.perm
    have hh := h.heap
    rw [hb] at hg hpm hh
    simp only [cond_false] at hg hpm
    obtain ⟨h', p1, p2, p3⟩ := step_eq hF.n hg false hb hh hpm f hfl Z[p] hf (h.front hZ) (ct Z (p + 1) f : Int) (by
      have := next_mv (S.getD f []) (hF.s f) (ct Z p f : Int) (by omega) (by omega)
      have e : ((ct Z p f : Nat) : Int) + 1 = (ct Z (p + 1) f : Int) := by omega
      rw [e] at this
      exact this)
    have ec : ∀ i, i < S.length → (fun j => if j = f then (ct Z (p + 1) f : Int) else cs Z false p j) i = cs Z false (p + 1) i := fun i hi => by
      by_cases e : i = f
      · subst e; simp [cs]
      · have := hcs i
        rw [if_neg (by omega)] at this
        simp [cs, e, this]
    rw [hds_congr ec] at p2
    rw [src_congr ec] at p3
    obtain ⟨q1, q2⟩ := At.mk hZ false (p + 1) hp p1 p2
    simp only [cond_false] at q1 q2 ⊢
    rw [q1] at p3
    exact ⟨_, q2, p3⟩
  | true =>
    have hg := h.good
    have hpm := h.perm
    have hh := h.heap
    rw [hb] at hg hpm hh
    simp only [cond_true] at hg hpm
    obtain ⟨h', p1, p2, p3⟩ := step_eq hF.n hg true hb hh hpm f hfl Z[p] hf (h.front hZ) ((ct Z p f : Int) - 1) (by
      have := prev_mv (S.getD f []) (hF.s f) (ct Z p f : Int) (by omega) (by omega)
      have e : cs Z true (p + 1) f = (ct Z p f : Int) := by simp only [cs, cond_true]; omega
      rw [e]
      exact this)
    have ec : ∀ i, i < S.length → (fun j => if j = f then ((ct Z p f : Int) - 1) else cs Z true (p + 1) j) i = cs Z true p i := fun i hi => by
      by_cases e : i = f
      · subst e; simp [cs]
      · have := hcs i
        rw [if_neg (by omega)] at this
        simp [cs, e, this]
    rw [hds_congr ec] at p2
    rw [src_congr ec] at p3
    obtain ⟨q1, q2⟩ := At.mk hZ true p (by omega) p1 p2
    simp only [cond_true] at q1 q2 ⊢
    rw [q1] at p3
    exact ⟨_, q2, p3⟩
theorem next_at (hZ : AllOf S Z) (hF : Few S Z) {m : merge_Merged} {v : Int} (h : At S Z m v) (h0 : -1 ≤ v) (h1 : v ≤ Z.length) :
    ∃ m', At S Z m' (if v < Z.length then v + 1 else v) ∧ Ev (fun k => merge_Merged_Next k m) (decide ((if v < Z.length then v + 1 else v) < Z.length), m') := by
  cases h with
  | ahead hg hs =>
    obtain ⟨m', q1, q2⟩ := first_at hZ hF (.ahead hg hs)
    have e : (if (-1 : Int) < Z.length then (-1 : Int) + 1 else -1) = 0 := if_pos (by omega)
    rw [e]
    refine ⟨m', q1, ?_⟩
    have c : (!m.made || (m.state == 2)) = false := by rw [hg.made, hs]; rfl
    have c2 : (m.state == 0) = true := by rw [hs]; rfl
    have e2 : decide ((0 : Int) < (Z.length : Int)) = decide (0 < Z.length) := decide_eq_decide.2 (by omega)
    simp only [merge_Merged_Next, Jn, c, c2, Bool.false_eq_true, if_false, if_true, e2]
    refine Ev.bind q2 ?_
    exact Ev.ret
  | behind hg hs =>
    have e : (if (Z.length : Int) < Z.length then (Z.length : Int) + 1 else Z.length) = (Z.length : Int) := if_neg (by omega)
    rw [e]
    refine ⟨m, .behind hg hs, ?_⟩
    have c : (!m.made || (m.state == 2)) = true := by rw [hg.made, hs]; rfl
    have e2 : decide ((Z.length : Int) < (Z.length : Int)) = false := decide_eq_false (by omega)
    simp only [merge_Merged_Next, Jn, c, if_true, e2]
    exact Ev.ret
  | at_ p h =>
    have hp := h.lt
    have e : (if (p : Int) < Z.length then (p : Int) + 1 else p) = (p : Int) + 1 := if_pos (by omega)
    rw [e]
    have c : (!m.made || (m.state == 2)) = false := by rw [h.good.made, h.state]; rfl
    have c2 : (m.state == 0) = false := by rw [h.state]; rfl
    have e2 : decide ((p : Int) + 1 < (Z.length : Int)) = decide (0 < Z.length - (p + 1)) := decide_eq_decide.2 (by omega)
    cases hb : m.back with
    | false =>
      obtain ⟨m', q1, q2⟩ := stepM_at hZ hF h
      rw [hb] at q1 q2
      simp only [cond_false] at q1 q2
      refine ⟨m', q1, ?_⟩
      simp only [merge_Merged_Next, Jn, c, c2, Bool.false_eq_true, if_false, hb, e2]
      refine Ev.bind q2 ?_
      exact Ev.ret
    | true =>
      obtain ⟨m1, r1, r2, r3⟩ := turn_at hZ hF h
      obtain ⟨m', q1, q2⟩ := stepM_at hZ hF r1
      rw [r2, hb] at q1 q2
      simp only [Bool.not_true, cond_false] at q1 q2
      refine ⟨m', q1, ?_⟩
      simp only [merge_Merged_Next, Jn, c, c2, Bool.false_eq_true, if_false, hb, if_true, e2]
      refine Ev.bind r3 (Ev.bind q2 ?_)
      exact Ev.ret
theorem prev_at (hZ : AllOf S Z) (hF : Few S Z) {m : merge_Merged} {v : Int} (h : At S Z m v) (h0 : -1 ≤ v) (h1 : v ≤ Z.length) :
    ∃ m', At S Z m' (if 0 ≤ v then v - 1 else v) ∧ Ev (fun k => merge_Merged_Prev k m) (decide (0 ≤ (if 0 ≤ v then v - 1 else v)), m') := by
  cases h with
  | ahead hg hs =>
    have e : (if (0 : Int) ≤ -1 then (-1 : Int) - 1 else -1) = -1 := if_neg (by omega)
    rw [e]
    refine ⟨m, .ahead hg hs, ?_⟩
    have c : (!m.made || (m.state == 0)) = true := by rw [hg.made, hs]; rfl
    have e2 : decide ((0 : Int) ≤ -1) = false := rfl
    simp only [merge_Merged_Prev, Jn, c, if_true, e2]
    exact Ev.ret
  | behind hg hs =>
    obtain ⟨m', q1, q2⟩ := last_at hZ hF (.behind hg hs)
    have e : (if (0 : Int) ≤ (Z.length : Int) then (Z.length : Int) - 1 else (Z.length : Int)) = (Z.length : Int) - 1 := if_pos (by omega)
    rw [e]
    refine ⟨m', q1, ?_⟩
    have c : (!m.made || (m.state == 0)) = false := by rw [hg.made, hs]; rfl
    have c2 : (m.state == 2) = true := by rw [hs]; rfl
    have e2 : decide ((0 : Int) ≤ (Z.length : Int) - 1) = decide (0 < Z.length) := decide_eq_decide.2 (by omega)
    simp only [merge_Merged_Prev, Jn, c, c2, Bool.false_eq_true, if_false, if_true, e2]
    refine Ev.bind q2 ?_
    exact Ev.ret
  | at_ p h =>
    have hp := h.lt
    have e : (if (0 : Int) ≤ (p : Int) then (p : Int) - 1 else p) = (p : Int) - 1 := if_pos (by omega)
    rw [e]
    have c : (!m.made || (m.state == 0)) = false := by rw [h.good.made, h.state]; rfl
    have c2 : (m.state == 2) = false := by rw [h.state]; rfl
    have e2 : decide ((0 : Int) ≤ (p : Int) - 1) = decide (0 < p) := decide_eq_decide.2 (by omega)
    cases hb : m.back with
    | true =>
      obtain ⟨m', q1, q2⟩ := stepM_at hZ hF h
      rw [hb] at q1 q2
      simp only [cond_true] at q1 q2
      refine ⟨m', q1, ?_⟩
      simp only [merge_Merged_Prev, Jn, c, c2, Bool.false_eq_true, if_false, hb, Bool.not_true, e2]
      refine Ev.bind q2 ?_
      exact Ev.ret
    | false =>
      obtain ⟨m1, r1, r2, r3⟩ := turn_at hZ hF h
      obtain ⟨m', q1, q2⟩ := stepM_at hZ hF r1
      rw [r2, hb] at q1 q2
      simp only [Bool.not_false, cond_true] at q1 q2
      refine ⟨m', q1, ?_⟩
      simp only [merge_Merged_Prev, Jn, c, c2, Bool.false_eq_true, if_false, hb, Bool.not_false, if_true, e2]
      refine Ev.bind r3 (Ev.bind q2 ?_)
      exact Ev.ret
end
end Go.Proofs.Ytknedifgapgmbaa.Mo

set_option maxRecDepth 100000
namespace Go.Proofs.Ytknedifgapgmbaa.Mo
open Go Go.Proofs.Ytknedifgapgmbaa.Sy
def toH (o : R19_Item) : merge_head := ⟨o.Entry, o.From⟩
theorem mgA_mem (q : Int) : ∀ (s : List Entry) (r : List R19_Item) (z : R19_Item), z ∈ mgA q r s ↔ z ∈ r ∨ ∃ x ∈ s, z = itm q x
  | [], r, z => by rw [mgA_nil]; simp
  | x :: xs, r, z => by
    rw [mgA_cons, List.mem_append, List.mem_cons, mgA_mem q xs]
    conv => rhs; rw [← List.takeWhile_append_dropWhile (p := leB x) (l := r), List.mem_append]
    constructor
    · rintro (h | h | h | ⟨y, hy, h⟩)
      · exact .inl (.inl h)
      · exact .inr ⟨x, by simp, h⟩
      · exact .inl (.inr h)
      · exact .inr ⟨y, by simp [hy], h⟩
    · rintro ((h | h) | ⟨y, hy, h⟩)
      · exact .inl h
      · exact .inr (.inr (.inl h))
      · rcases List.mem_cons.1 hy with rfl | hy
        · exact .inr (.inl h)
        · exact .inr (.inr (.inr ⟨y, hy, h⟩))
theorem mgA_srt (q : Int) : ∀ (s : List Entry) (r : List R19_Item), r.Pairwise (fun x y => ¬ ltH (toH y) (toH x)) → (∀ x ∈ r, x.From < q) → Srt ltE s → (mgA q r s).Pairwise fun x y => ¬ ltH (toH y) (toH x)
  | [], r, hr, hq, hs => by rw [mgA_nil]; exact hr
  | x :: xs, r, hr, hq, hs => by
    have hs' := List.pairwise_cons.1 hs
    have hsp := List.takeWhile_append_dropWhile (p := leB x) (l := r)
    have hr2 := hr
    rw [← hsp] at hr2
    obtain ⟨a1, a2, a3⟩ := List.pairwise_append.1 hr2
    have hqd : ∀ z ∈ r.dropWhile (leB x), z.From < q := fun z hz => hq z (by rw [← hsp]; exact List.mem_append_right _ hz)
    have hqt : ∀ z ∈ r.takeWhile (leB x), z.From < q := fun z hz => hq z (by rw [← hsp]; exact List.mem_append_left _ hz)
    have ht : ∀ z ∈ r.takeWhile (leB x), ¬ ltE x z.Entry := fun z hz => cE_le.1 (of_decide_eq_true (tw_imp (f := leB x) hz))
    have hd : ∀ z ∈ r.dropWhile (leB x), ltE x z.Entry := by
      intro z hz
      cases hc : r.dropWhile (leB x) with
      | nil => rw [hc] at hz; simp at hz
      | cons w t =>
        have hw : ltE x w.Entry := by
          have := List.head?_dropWhile_not (p := leB x) r
          rw [hc] at this
          simp only [List.head?_cons] at this
          have h2 := of_decide_eq_false this
          rw [cE_le] at h2
          exact Classical.not_not.1 h2
        rw [hc] at hz a2
        rcases List.mem_cons.1 hz with rfl | hz
        · exact hw
        · have := (List.pairwise_cons.1 a2).1 z hz
          have h3 : ¬ ltE z.Entry w.Entry := fun k => this (.inl k)
          exact wo_E.lt_le hw h3
    have ih := mgA_srt q xs (r.dropWhile (leB x)) a2 hqd hs'.2
    rw [mgA_cons, List.pairwise_append]
    refine ⟨a1, List.pairwise_cons.2 ⟨fun z hz => ?_, ih⟩, fun z hz w hw => ?_⟩
    · rcases (mgA_mem q xs _ z).1 hz with h | ⟨y, hy, rfl⟩
      · have h1 := hd z h
        rintro (k | ⟨k, _⟩)
        · exact wo_E.asymm _ _ h1 k
        · exact k h1
      · have h1 := hs'.1 y hy
        rintro (k | ⟨_, k⟩)
        · exact h1 k
        · exact absurd k (by simp [toH, itm])
    · have hz1 := ht z hz
      have hz2 := hqt z hz
      rcases List.mem_cons.1 hw with rfl | hw
      · rintro (k | ⟨_, k⟩)
        · exact hz1 k
        · simp only [toH, itm] at k; omega
      · rcases (mgA_mem q xs _ w).1 hw with h | ⟨y, hy, rfl⟩
        · exact a3 z hz w h
        · have h1 := hs'.1 y hy
          have h2 : ¬ ltE y z.Entry := wo_E.neg _ _ _ h1 hz1
          rintro (k | ⟨_, k⟩)
          · exact h2 k
          · simp only [toH, itm] at k; omega
theorem mgA_flt (q : Int) (i : Int) : ∀ (s : List Entry) (r : List R19_Item), (∀ x ∈ r, x.From < q) → (mgA q r s).filter (fun x => x.From == i) = if i = q then s.map (itm q) else r.filter (fun x => x.From == i)
  | [], r, hq => by
    rw [mgA_nil]
    by_cases h : i = q
    · subst h
      rw [if_pos rfl, List.map_nil, List.filter_eq_nil_iff]
      intro x hx hc
      have := hq x hx
      simp at hc; omega
    · rw [if_neg h]
  | x :: xs, r, hq => by
    have hsp := List.takeWhile_append_dropWhile (p := leB x) (l := r)
    have hqd : ∀ z ∈ r.dropWhile (leB x), z.From < q := fun z hz => hq z (by rw [← hsp]; exact List.mem_append_right _ hz)
    have hqt : ∀ z ∈ r.takeWhile (leB x), z.From < q := fun z hz => hq z (by rw [← hsp]; exact List.mem_append_left _ hz)
    rw [mgA_cons, List.filter_append, List.filter_cons, mgA_flt q i xs _ hqd]
    by_cases h : i = q
    · subst h
      have : (r.takeWhile (leB x)).filter (fun x => x.From == i) = [] := by
        rw [List.filter_eq_nil_iff]
        intro z hz hc
        have := hqt z hz
        simp at hc; omega
      simp [this, itm]
    · have h' : ((itm q x).From == i) = false := by simp [itm]; omega
      simp only [if_neg h, h', Bool.false_eq_true, if_false]
      rw [← List.filter_append, hsp]
theorem allOut_all : ∀ (t P : List (List Entry)) (out : List R19_Item), out.Pairwise (fun x y => ¬ ltH (toH y) (toH x)) → (∀ x ∈ out, 0 ≤ x.From ∧ x.From < P.length) → (∀ i : Nat, i < P.length → (out.filter (fun x => x.From == (i : Int))).map (·.Entry) = P.getD i []) → (∀ s ∈ t, Srt ltE s) →
    (allOut (P.length : Int) out t).Pairwise (fun x y => ¬ ltH (toH y) (toH x)) ∧ (∀ x ∈ allOut (P.length : Int) out t, 0 ≤ x.From ∧ x.From < (P ++ t).length) ∧ ∀ i : Nat, i < (P ++ t).length → ((allOut (P.length : Int) out t).filter (fun x => x.From == (i : Int))).map (·.Entry) = (P ++ t).getD i []
  | [], P, out, h1, h2, h3, h4 => by
    simp only [allOut, List.append_nil]
    exact ⟨h1, h2, h3⟩
  | s :: t, P, out, h1, h2, h3, h4 => by
    have e : ((P ++ [s]).length : Int) = (P.length : Int) + 1 := by simp
    have hq : ∀ x ∈ out, x.From < (P.length : Int) := fun x hx => (h2 x hx).2
    have ih := allOut_all t (P ++ [s]) (mgA (P.length : Int) out s) (mgA_srt _ s out h1 hq (h4 s (by simp))) (fun x hx => by
      rcases (mgA_mem _ s out x).1 hx with h | ⟨y, hy, rfl⟩
      · have := h2 x h; omega
      · simp only [itm]; omega) (fun i hi => by
      rw [mgA_flt _ _ s out hq]
      rw [List.length_append, List.length_singleton] at hi
      by_cases e2 : i = P.length
      · subst e2
        rw [if_pos rfl, List.map_map]
        have : ((fun x : R19_Item => x.Entry) ∘ itm (P.length : Int)) = id := rfl
        rw [this, List.map_id]
        simp [List.getD_eq_getElem?_getD]
      · rw [if_neg (by omega), h3 i (by omega)]
        simp [List.getD_eq_getElem?_getD, List.getElem?_append_left (show i < P.length by omega)]) (fun s' hs' => h4 s' (by simp [hs']))
    rw [e] at ih
    simp only [List.append_assoc, List.cons_append, List.nil_append] at ih
    simp only [allOut]
    exact ih
theorem allOf_ref (ss : List (List Entry)) (hs : ∀ s ∈ ss, Srt ltE s) : AllOf ss ((allOut 0 [] ss).map toH) := by
  obtain ⟨h1, h2, h3⟩ := allOut_all ss [] [] List.Pairwise.nil (fun x hx => by simp at hx) (fun i hi => by simp at hi) hs
  simp only [List.length_nil, Int.natCast_zero, List.nil_append, Int.ofNat_zero] at h1 h2 h3
  refine ⟨fun i hi => ?_, fun x hx => ?_, ?_⟩
  · rw [← h3 i hi, List.filter_map, List.map_map]
    rfl
  · obtain ⟨o, ho, rfl⟩ := List.mem_map.1 hx
    exact h2 o ho
  · rw [List.pairwise_map]
    exact h1
end Go.Proofs.Ytknedifgapgmbaa.Mo

set_option maxRecDepth 100000
namespace Go.Proofs.Ytknedifgapgmbaa.Mo
open Go Go.Proofs.Ytknedifgapgmbaa.Sy
theorem rest_at {α : Type} {p s : List α} {i : Nat} (h : i = p.length) (x : α) : idx (p ++ x :: s) (i : Int) = some x := by subst h; exact idx_at p x s
/-- Rows that keep their lengths. -/
def lens (l : List (List Entry)) : List Nat := l.map List.length
theorem lens_set {l : List (List Entry)} {i : Nat} {a b : List Entry} (h : l[i]? = some a) (hab : b.length = a.length) : lens (l.set i b) = lens l := by
  unfold lens
  rw [List.map_set, hab]
  refine List.ext_getElem? fun q => ?_
  rw [List.getElem?_set]
  split
  · rename_i e; subst e
    simp only [List.getElem?_map, h, Option.map_some]
    split
    · rfl
    · rename_i hq
      rw [List.length_map] at hq
      exact absurd (List.getElem?_eq_some_iff.1 h).1 hq
  · rfl
def outs (n : Nat) : List (Itf merge_List) := List.replicate n .out
end Go.Proofs.Ytknedifgapgmbaa.Mo

set_option maxRecDepth 100000
namespace Go.Proofs.Ytknedifgapgmbaa.Mo
open Go Go.Proofs.Ytknedifgapgmbaa.Sy
/-- Each list, sorted, both ways. -/
theorem sort_all : ∀ (a : List (List Entry)), (∀ l ∈ a, l.length ≤ 1048576) → ∃ ss : List (List Entry), ss.length = a.length ∧ (∀ (i : Nat) (l m : List Entry), a[i]? = some l → ss[i]? = some m → Srt ltE m ∧ Sst ltE l m ∧ Ev (fun k => ikey_Sorted k l) m ∧ Ev (fun k => r03_Sorted k l) m)
  | [], _ => ⟨[], rfl, fun i l m h _ => by simp at h⟩
  | x :: a, h => by
    obtain ⟨ss, h1, h2⟩ := sort_all a fun l hl => h l (List.mem_cons_of_mem _ hl)
    obtain ⟨m, m1, m2, m3, m4⟩ := sort_both x (by have := h x (List.mem_cons_self ..); omega)
    refine ⟨m :: ss, by simp [h1], fun i l m' hl hm => ?_⟩
    cases i with
    | zero =>
      simp only [List.getElem?_cons_zero, Option.some.injEq] at hl hm
      subst hl; subst hm
      exact ⟨m1, m2, m3, m4⟩
    | succ i => exact h2 i l m' (by simpa using hl) (by simpa using hm)
/-- What the laws on merged lists stand on. -/
structure Base (a ss : List (List Entry)) (R : List R19_Item) : Prop where
  len : ss.length = a.length
  srt : ∀ (i : Nat) (l m : List Entry), a[i]? = some l → ss[i]? = some m → Srt ltE m ∧ Sst ltE l m ∧ Ev (fun k => ikey_Sorted k l) m ∧ Ev (fun k => r03_Sorted k l) m
  all : AllOf ss (R.map toH)
  few : Few ss (R.map toH)
  ref : Ev (fun k => r19_All k a) R
  sst : Sst ltE a.flatten (R.map (·.Entry))
theorem base_ex (a : List (List Entry)) (ha : a.length ≤ 1048576) (hf : a.flatten.length ≤ 1048576) : ∃ ss R, Base a ss R := by
  have hl : ∀ l ∈ a, l.length ≤ 1048576 := fun l h => by
    have := (List.sublist_flatten_of_mem h).length_le
    omega
  obtain ⟨ss, h1, h2⟩ := sort_all a hl
  have hs : ∀ s ∈ ss, Srt ltE s := fun s hs => by
    obtain ⟨i, hi, rfl⟩ := List.getElem_of_mem hs
    exact (h2 i _ _ (List.getElem?_eq_getElem (by omega)) (List.getElem?_eq_getElem hi)).1
  have hlen : ∀ (i : Nat) (l m : List Entry), a[i]? = some l → ss[i]? = some m → m.length = l.length := fun i l m h k => (h2 i l m h k).2.1.len.symm
  obtain ⟨_, hsst⟩ := allOut_sst ss 0 [] a h1.symm (fun i l m h k => ⟨(h2 i l m h k).1, (h2 i l m h k).2.1⟩) List.Pairwise.nil
  simp only [List.map_nil, List.nil_append] at hsst
  have hR : (allOut 0 [] ss).length = a.flatten.length := by have := hsst.len; rw [List.length_map] at this; exact this.symm
  have hsum : ∀ (a ss : List (List Entry)), ss.length = a.length → (∀ (i : Nat) (l m : List Entry), a[i]? = some l → ss[i]? = some m → m.length = l.length) → (ss.map List.length).sum = a.flatten.length := by
    intro a
    induction a with
    | nil => intro ss h _; have : ss = [] := List.eq_nil_of_length_eq_zero h; subst this; rfl
    | cons x a ih =>
      intro ss h k
      cases ss with
      | nil => simp at h
      | cons m ss =>
        have := ih ss (by simpa using h) fun i l m' p q => k (i + 1) l m' (by simpa using p) (by simpa using q)
        have h0 := k 0 x m rfl rfl
        simp [this, h0]
  refine ⟨ss, allOut 0 [] ss, h1, h2, allOf_ref ss hs, ⟨by omega, fun i => ?_, by rw [List.length_map]; omega⟩, ?_, hsst⟩
  · rw [List.getD_eq_getElem?_getD]
    cases h : ss[i]? with
    | none => simp
    | some m =>
      have hi := (List.getElem?_eq_some_iff.1 h).1
      have := hlen i a[i] m (List.getElem?_eq_getElem (by omega)) h
      have := hl a[i] (List.getElem_mem _)
      simp only [Option.getD_some]; omega
  · have := all_l0 a ss ha 1048576 (Nat.le_refl _) a [] ss [] rfl h1.symm (fun i l m h k => (h2 i l m h k).2.2.2) (by rw [hsum a ss h1 hlen, List.length_nil, Nat.zero_add]; exact hf)
    simpa [r19_All] using this
theorem Base.mk0 {a ss : List (List Entry)} {R : List R19_Item} (h : Base a ss R) : At ss (R.map toH) ⟨src ss (fun _ => -1), [], false, 0, true⟩ (-1) := .ahead (c := fun _ => -1) ⟨rfl, rfl⟩ rfl
theorem lent_ev (a : List (List Entry)) (ha : a.length ≤ 1048576) (hs : ∀ l ∈ a, l.length ≤ 1048576) : Ev (fun k => l19_lent k a) a := by
  have := lent_l0 a ha hs a [] rfl
  simpa [l19_lent] using this
end Go.Proofs.Ytknedifgapgmbaa.Mo

set_option maxRecDepth 100000
namespace Go.Proofs.Ytknedifgapgmbaa.Mo
open Go Go.Proofs.Ytknedifgapgmbaa.Sy
theorem new_MergeEach (S : List (List Entry)) (hN : S.length ≤ 1048576) (c : Nat → Int) : ∃ n0, ∀ k, n0 ≤ k → ∀ J, l19_MergeEach.l12 (src S c) J k [] (src S c) 0 = J (src S c) (outs S.length) := by
  have main : ∀ (s p : List (Itf merge_List)), src S c = p ++ s → (∀ x ∈ s, ∃ y, x = Itf.ptr y) → ∀ k, s.length + 1 ≤ k → ∀ J, l19_MergeEach.l12 (src S c) J k p (outs p.length ++ s) (p.length : Int) = J (src S c) (outs S.length) := by
    intro s
    induction s with
    | nil =>
      intro p hp _ k hk J
      obtain ⟨j, rfl⟩ : ∃ j, k = j + 1 := ⟨k - 1, by omega⟩
      rw [List.append_nil] at hp
      have e0 : decide ((S.length : Int) < ((src S c).length : Int)) = false := by rw [src_len]; exact decF (Nat.le_refl _)
      have e1 : p.length = S.length := by rw [← hp, src_len]
      simp only [l19_MergeEach.l12, e0, Bool.false_eq_true, if_false, List.append_nil, e1]
      rw [← hp]
    | cons x s ih =>
      intro p hp hs k hk J
      obtain ⟨j, rfl⟩ : ∃ j, k = j + 1 := ⟨k - 1, by omega⟩
      obtain ⟨y, rfl⟩ := hs x (List.mem_cons_self ..)
      have hlen : (src S c).length = p.length + s.length + 1 := by rw [hp]; simp; omega
      have hl2 := src_len S c
      have e0 : decide ((p.length : Int) < ((src S c).length : Int)) = true := decT (by omega)
      have hx : idx (outs p.length ++ Itf.ptr y :: s) (p.length : Int) = some (Itf.ptr y) := rest_at (by simp [outs]) _
      have hw : w64 ((p.length : Int) + 1) = ((p ++ [Itf.ptr y]).length : Int) := by rw [wS (by omega)]; simp
      have hset : (outs p.length ++ Itf.ptr y :: s).set p.length .out = outs (p ++ [Itf.ptr y]).length ++ s := by
        have e : (outs p.length).length = p.length := by simp [outs]
        rw [List.set_append_right _ _ (by omega), e, Nat.sub_self, List.set_cons_zero, List.length_append, List.length_singleton]
        simp [outs, List.replicate_succ', List.append_assoc]
      simp only [l19_MergeEach.l12, e0, if_true, Jn, hx, Option.bind_some, Itf.on, push_ok (show p.length < 14073748835379 by omega), Int.toNat_natCast, hw, hset]
      exact ih (p ++ [Itf.ptr y]) (by rw [hp]; simp) (fun z hz => hs z (List.mem_cons_of_mem _ hz)) j (by simp at hk; omega) J
  refine ⟨S.length + 1, fun k hk J => ?_⟩
  have := main (src S c) [] rfl (fun x hx => by
    obtain ⟨i, _, rfl⟩ := List.mem_map.1 hx
    exact ⟨_, rfl⟩) k (by rw [src_len]; omega) J
  simpa [outs] using this
theorem nil_MergeEach (n : Nat) (hn : n ≤ 1048576) : ∃ n0, ∀ k, n0 ≤ k → ∀ J (l : List (Itf merge_List)), l.length = n → l19_MergeEach.l9 J k l 0 = J := by
  have main : ∀ (w i : Nat), i + w = n → ∀ k, w + 1 ≤ k → ∀ J (l : List (Itf merge_List)), l.length = n → l19_MergeEach.l9 J k l (i : Int) = J := by
    intro w
    induction w with
    | zero =>
      intro i hi k hk J l hl
      obtain ⟨j, rfl⟩ : ∃ j, k = j + 1 := ⟨k - 1, by omega⟩
      have e0 : decide ((i : Int) < (l.length : Int)) = false := decF (by omega)
      simp only [l19_MergeEach.l9, e0, Bool.false_eq_true, if_false]
    | succ w ih =>
      intro i hi k hk J l hl
      obtain ⟨j, rfl⟩ : ∃ j, k = j + 1 := ⟨k - 1, by omega⟩
      have e0 : decide ((i : Int) < (l.length : Int)) = true := decT (by omega)
      have hx := getD_idx (l := l) (i := i) (by omega)
      have hu : upd l (i : Int) .nil = some (l.set i .nil) := by
        unfold upd
        rw [if_pos ⟨by omega, by omega⟩]
        simp
      simp only [l19_MergeEach.l9, e0, if_true, hx, hu, Option.bind_some, wS (n := i) (by omega)]
      exact ih (i + 1) (by omega) j (by omega) J _ (by rw [List.length_set]; exact hl)
  exact ⟨n + 1, fun k hk J l hl => main n 0 (by omega) k hk J l hl⟩
theorem spi_MergeEach (i m : Nat) (hm : m ≤ 1048576) : ∃ n0, ∀ k, n0 ≤ k → ∀ (l : List (List Entry)), (lens l)[i]? = some m → ∃ l', lens l' = lens l ∧ ∀ J, l19_MergeEach.l11 (i : Int) J k l 0 = J l' := by
  have main : ∀ (w q : Nat), q + w = m → ∀ k, w + 1 ≤ k → ∀ (l : List (List Entry)), (lens l)[i]? = some m → ∃ l', lens l' = lens l ∧ ∀ J, l19_MergeEach.l11 (i : Int) J k l (q : Int) = J l' := by
    intro w
    induction w with
    | zero =>
      intro q hq k hk l hl
      obtain ⟨j, rfl⟩ : ∃ j, k = j + 1 := ⟨k - 1, by omega⟩
      unfold lens at hl
      rw [List.getElem?_map] at hl
      obtain ⟨r, hr, hrl⟩ := Option.map_eq_some_iff.1 hl
      refine ⟨l, rfl, fun J => ?_⟩
      have e0 : decide ((q : Int) < (r.length : Int)) = false := decF (by omega)
      simp only [l19_MergeEach.l11, idx_nat, hr, Option.bind_some, e0, Bool.false_eq_true, if_false]
    | succ w ih =>
      intro q hq k hk l hl
      obtain ⟨j, rfl⟩ : ∃ j, k = j + 1 := ⟨k - 1, by omega⟩
      have hl0 := hl
      unfold lens at hl
      rw [List.getElem?_map] at hl
      obtain ⟨r, hr, hrl⟩ := Option.map_eq_some_iff.1 hl
      have e0 : decide ((q : Int) < (r.length : Int)) = true := decT (by omega)
      have hx := getD_idx (l := r) (i := q) (by omega)
      have hu : ∀ z, upd r (q : Int) z = some (r.set q z) := fun z => by
        unfold upd
        rw [if_pos ⟨by omega, by omega⟩]
        simp
      have hll := lens_set (l := l) (i := i) (a := r) (b := r.set q (⟨(ByteArray.mk #[115, 112, 111, 105, 108, 116]), 0, 0, (ByteArray.mk #[])⟩ : Entry)) hr (by simp)
      obtain ⟨l', h1, h2⟩ := ih (q + 1) (by omega) j (by omega) (l.set i (r.set q (⟨(ByteArray.mk #[115, 112, 111, 105, 108, 116]), 0, 0, (ByteArray.mk #[])⟩ : Entry))) (by rw [hll]; exact hl0)
      refine ⟨l', h1.trans hll, fun J => ?_⟩
      have hir : idx l (i : Int) = some r := by rw [idx_nat]; exact hr
      simp only [l19_MergeEach.l11, hir, Option.bind_some, e0, if_true, hx, hu, wS (n := q) (by omega), Int.toNat_natCast]
      exact h2 J
  exact ⟨m + 1, fun k hk l hl => main m 0 (by omega) k hk l hl⟩
theorem spo_MergeEach (ls : List Nat) (hn : ls.length ≤ 1048576) (hm : ∀ m ∈ ls, m ≤ 1048576) : ∃ n0, ∀ k, n0 ≤ k → ∀ J (l : List (List Entry)), lens l = ls → l19_MergeEach.l10 J k l 0 = J := by
  have main : ∀ (w i : Nat), i + w = ls.length → ∃ n0, ∀ k, n0 ≤ k → ∀ J (l : List (List Entry)), lens l = ls → l19_MergeEach.l10 J k l (i : Int) = J := by
    intro w
    induction w with
    | zero =>
      intro i hi
      refine ⟨1, fun k hk J l hl => ?_⟩
      obtain ⟨j, rfl⟩ : ∃ j, k = j + 1 := ⟨k - 1, by omega⟩
      have hll : l.length = ls.length := by rw [← hl]; simp [lens]
      have e0 : decide ((i : Int) < (l.length : Int)) = false := decF (by omega)
      simp only [l19_MergeEach.l10, e0, Bool.false_eq_true, if_false]
    | succ w ih =>
      intro i hi
      obtain ⟨n1, h1⟩ := ih (i + 1) (by omega)
      obtain ⟨n2, h2⟩ := spi_MergeEach i (ls[i]'(by omega)) (hm _ (List.getElem_mem _))
      refine ⟨max n1 n2 + 1, fun k hk J l hl => ?_⟩
      obtain ⟨j, rfl⟩ : ∃ j, k = j + 1 := ⟨k - 1, by omega⟩
      have hll : l.length = ls.length := by rw [← hl]; simp [lens]
      have e0 : decide ((i : Int) < (l.length : Int)) = true := decT (by omega)
      obtain ⟨l', g1, g2⟩ := h2 j (by omega) l (by rw [hl]; exact List.getElem?_eq_getElem (by omega))
      simp only [l19_MergeEach.l10, e0, if_true, Jn, g2, wS (n := i) (by omega)]
      exact h1 j (by omega) J l' (g1.trans hl)
  have := main ls.length 0 (by omega)
  exact this
theorem mk_MergeEach {R : Bool} (a : List (List Entry))  (ss : List (List Entry)) (hl : a.length = ss.length) (hN : a.length ≤ 1048576) (hs : ∀ (i : Nat) (l m : List Entry), a[i]? = some l → ss[i]? = some m → Ev (fun k => ikey_Sorted k l) m)
    (hB : Ev (fun k => l19_MergeEach.l0 a a (k + 1) (src ss (fun _ => -1)) (a.length : Int)) R) : Ev (fun k => l19_MergeEach.l0 a a k [] 0) R := by
  have main : ∀ (s p : List (List Entry)), a = p ++ s → Ev (fun k => l19_MergeEach.l0 a a k ((ss.take p.length).map fun m => Itf.ptr ⟨m, -1, true⟩) (p.length : Int)) R := by
    intro s
    induction s with
    | nil =>
      intro p hp
      rw [List.append_nil] at hp
      have e : (ss.take p.length).map (fun m => Itf.ptr (⟨m, -1, true⟩ : merge_List)) = src ss (fun _ => -1) := by
        rw [List.take_of_length_le (by rw [← hp]; omega)]
        refine List.ext_getElem? fun q => ?_
        by_cases hq : q < ss.length
        · simp [src, hq]
        · simp [src, hq]
      rw [e]
      refine Ev.succ ?_
      have : p.length = a.length := by rw [hp]
      rw [this]
      exact hB
    | cons l s ih =>
      intro p hp
      have hi : p.length < a.length := by rw [hp]; simp
      have e0 : decide ((p.length : Int) < (a.length : Int)) = true := decT hi
      have hx : idx a (p.length : Int) = some l := by rw [hp]; exact idx_at p l s
      have hss : ss[p.length]? = some (ss[p.length]'(by omega)) := List.getElem?_eq_getElem (by omega)
      have hsrt := hs p.length l _ (by rw [idx_nat] at hx; exact hx) hss
      have hw : w64 ((p.length : Int) + 1) = ((p ++ [l]).length : Int) := by rw [wS (by omega)]; simp
      have hpush : ((ss.take p.length).map fun m => Itf.ptr (⟨m, -1, true⟩ : merge_List)).length < 14073748835379 := by rw [List.length_map, List.length_take]; omega
      refine Ev.succ ?_
      simp only [l19_MergeEach.l0, e0, if_true, hx, Option.bind_some]
      refine Ev.bind hsrt ?_
      simp only [push_ok hpush, Option.bind_some, hw]
      have := ih (p ++ [l]) (by rw [hp]; simp)
      have e : ((ss.take (p ++ [l]).length).map fun m => Itf.ptr (⟨m, -1, true⟩ : merge_List)) = ((ss.take p.length).map fun m => Itf.ptr (⟨m, -1, true⟩ : merge_List)) ++ [Itf.ptr ⟨ss[p.length]'(by omega), -1, true⟩] := by
        rw [List.length_append, List.length_singleton, List.take_add_one, hss, List.map_append]
        rfl
      rw [e] at this
      exact this
  exact main a [] rfl
end Go.Proofs.Ytknedifgapgmbaa.Mo

set_option maxRecDepth 100000
namespace Go.Proofs.Ytknedifgapgmbaa.Mo
open Go Go.Proofs.Ytknedifgapgmbaa.Sy
theorem Ev.preE {α : Type} {F G : Nat → Option α} {r : α} (h : ∃ n0, ∀ k, n0 ≤ k → F k = G k) (hG : Ev G r) : Ev F r := by
  obtain ⟨n, h⟩ := h
  obtain ⟨n', h'⟩ := hG
  exact ⟨n + n', fun k hk => (h k (by omega)).trans (h' k (by omega))⟩
/-- How often an entry is there. -/
def cntE (e : Entry) (l : List Entry) : Nat := (l.filter fun x => Entry.eqb x e).length
theorem cntE_cons (e x : Entry) (l : List Entry) : cntE e (x :: l) = (if Entry.eqb x e = true then 1 else 0) + cntE e l := by
  unfold cntE
  rw [List.filter_cons]
  by_cases h : Entry.eqb x e = true
  · simp [h]; omega
  · simp [h]
theorem cntE_app (e : Entry) (l l' : List Entry) : cntE e (l ++ l') = cntE e l + cntE e l' := by simp [cntE]
theorem each_l8 (a : List (List Entry)) (ha : a.length ≤ 1048576) (hf : a.flatten.length ≤ 1048576) {r : Bool} : ∀ (t p : List (List Entry)) (J : Nat → Int → Option Bool), a = p ++ t → Ev (fun k => J k (a.flatten.length : Int)) r → Ev (fun k => l19_MergeEach.l8 a (J k) k (p.flatten.length : Int) (p.length : Int)) r
  | [], p, J, hp, hJ => by
    have e0 : decide ((p.length : Int) < (a.length : Int)) = false := by rw [hp]; exact lt_end p
    have e1 : p.flatten.length = a.flatten.length := by rw [hp]; simp
    refine Ev.succ ?_
    simp only [l19_MergeEach.l8, e0, Bool.false_eq_true, if_false, e1]
    exact hJ.shift
  | l :: t, p, J, hp, hJ => by
    have e0 : decide ((p.length : Int) < (a.length : Int)) = true := by rw [hp]; exact lt_at p t l
    have hx : idx a (p.length : Int) = some l := by rw [hp]; exact idx_at p l t
    have hpl : p.length + 1 ≤ a.length := by rw [hp]; simp
    have hfl : p.flatten.length + l.length ≤ a.flatten.length := by rw [hp]; simp <;> omega
    have hw : w64 ((p.length : Int) + 1) = ((p ++ [l]).length : Int) := by rw [wS (by omega)]; simp
    have hw2 : w64 ((p.flatten.length : Int) + (l.length : Int)) = ((p ++ [l]).flatten.length : Int) := by rw [wA (by omega)]; simp
    refine Ev.succ ?_
    simp only [l19_MergeEach.l8, e0, if_true, hx, Option.bind_some, hw, hw2]
    exact each_l8 a ha hf t (p ++ [l]) (fun k => J (k + 1)) (by simp [hp]) hJ.shift
theorem take_map_at {R : List R19_Item} {p : Nat} (hp : p < R.length) : (R.take (p + 1)).map (·.Entry) = (R.take p).map (·.Entry) ++ [R[p].Entry] := by
  rw [List.take_add_one, List.getElem?_eq_getElem hp, List.map_append]; rfl
/-- Forwards. -/
theorem each_l7 {a ss : List (List Entry)} {R : List R19_Item} (hB : Base a ss R) (hRl : R.length ≤ 1048576) {r : Bool} : ∀ (w p : Nat) (m : merge_Merged) (J : Nat → merge_Merged → List Entry → Option Bool), p + w = R.length → At ss (R.map toH) m (p : Int) → (∀ m', At ss (R.map toH) m' (R.length : Int) → Ev (fun k => J k m' (R.map (·.Entry))) r) →
    Ev (fun k => l19_MergeEach.l7 a (R.length : Int) (J k) k m ((R.take p).map (·.Entry)) (decide (p < R.length))) r := by
  intro w
  induction w with
  | zero =>
    intro p m J hw hA hJ
    obtain rfl : p = R.length := by omega
    have e0 : decide (R.length < R.length) = false := decide_eq_false (by omega)
    refine Ev.succ ?_
    simp only [l19_MergeEach.l7, e0, Bool.false_eq_true, if_false, List.take_length]
    exact (hJ m hA).shift
  | succ w ih =>
    intro p m J hw hA hJ
    have hZl : (R.map toH).length = R.length := List.length_map _
    have hp : p < R.length := by omega
    have hp' : p < (R.map toH).length := by omega
    obtain ⟨H1, F1⟩ := here_eq hB.all (hA.yes hp')
    have hz : (R.map toH)[p]'hp' = toH R[p] := by simp
    rw [hz] at H1 F1
    obtain ⟨m2, A2, E2⟩ := next_at hB.all hB.few hA (by omega) (by omega)
    have e1 : (if (p : Int) < ((R.map toH).length : Int) then (p : Int) + 1 else (p : Int)) = ((p + 1 : Nat) : Int) := by rw [if_pos (by omega)]; omega
    rw [e1] at A2 E2
    have e2 : decide (((p + 1 : Nat) : Int) < ((R.map toH).length : Int)) = decide (p + 1 < R.length) := decide_eq_decide.2 (by omega)
    rw [e2] at E2
    have hrng := hB.all.rng (toH R[p]) (List.mem_map.2 ⟨_, List.getElem_mem hp, rfl⟩)
    have e0 : decide (p < R.length) = true := decide_eq_true hp
    have hlen : ((R.take p).map (·.Entry)).length = p := by rw [List.length_map, List.length_take]; omega
    have c1 : ((((!true || decide ((toH R[p]).from_ < 0)) || decide ((a.length : Int) ≤ (toH R[p]).from_)) || ((((R.take p).map (·.Entry)).length : Int) == (R.length : Int)))) = false := by
      rw [decide_eq_false (by omega), decide_eq_false (by have := hB.len; omega), hlen]
      simp; omega
    have IH := ih (p + 1) m2 (fun k => J (k + 1)) (by omega) A2 (fun m' h => (hJ m' h).shift)
    rw [take_map_at hp] at IH
    have rest : Ev (fun k => (push 4691249611691 ((R.take p).map (·.Entry)) (toH R[p]).e).bind fun l117947 => (merge_Merged_Next k m).bind fun r117950 => l19_MergeEach.l7 a (R.length : Int) (J (k + 1)) k r117950.2 l117947 r117950.1) r := by
      simp only [push_ok (show ((R.take p).map (·.Entry)).length < 4691249611691 by omega), Option.bind_some]
      refine Ev.bind E2 ?_
      exact IH
    refine Ev.succ ?_
    simp only [l19_MergeEach.l7, e0, if_true, H1, F1, Option.bind_some, c1, Bool.false_eq_true, if_false, Jn]
    by_cases h0 : 0 < p
    · have d0 : decide ((0 : Int) < (((R.take p).map (·.Entry)).length : Int)) = true := decide_eq_true (by omega)
      have w1 : w64 ((((R.take p).map (·.Entry)).length : Int) - 1) = ((p - 1 : Nat) : Int) := by rw [hlen]; exact w64_nat (n := p - 1) (by omega) (by omega)
      have hi : idx ((R.take p).map (·.Entry)) ((p - 1 : Nat) : Int) = some R[p - 1].Entry := by
        rw [getD_idx (by omega)]; simp
      simp only [d0, if_true, w1, hi, Option.bind_some, l19_key]
      have hcmp : Ev (fun k => ikey_Compare k (⟨R[p - 1].Entry.Key, R[p - 1].Entry.Seq, R[p - 1].Entry.Kind⟩ : IKey) (⟨(toH R[p]).e.Key, (toH R[p]).e.Seq, (toH R[p]).e.Kind⟩ : IKey)) (cE R[p - 1].Entry R[p].Entry) := ⟨4, fun k hk => by
        obtain ⟨j, rfl⟩ : ∃ j, k = j + 4 := ⟨k - 4, by omega⟩
        exact comp_eq j _ _⟩
      refine Ev.bind hcmp ?_
      have hsr := List.pairwise_iff_getElem.1 hB.all.srt (p - 1) p (by omega) hp' (by omega)
      have hns : ¬ 0 < cE R[p - 1].Entry R[p].Entry := by
        rw [cE_anti]
        intro q
        exact hsr (.inl (by simpa [toH] using q))
      simp only [decide_eq_false hns, Bool.false_eq_true, if_false]
      exact rest
    · have d0 : decide ((0 : Int) < (((R.take p).map (·.Entry)).length : Int)) = false := decide_eq_false (by omega)
      simp only [d0, Bool.false_eq_true, if_false]
      exact rest
/-- Counting. -/
theorem each_l6 (a : List (List Entry)) (l : List Entry) (hl : l.length ≤ 1048576) (i j : Nat) (row : List Entry) (e : Entry) (hi : idx a (i : Int) = some row) (hj : idx row (j : Int) = some e) {r : Bool} : ∀ (s p : List Entry) (n : Nat) (J : Nat → Int → Option Bool), l = p ++ s → n + s.length ≤ 1048576 → Ev (fun k => J k ((n + cntE e s : Nat) : Int)) r → Ev (fun k => l19_MergeEach.l6 a l (i : Int) (j : Int) (J k) k (n : Int) (p.length : Int)) r
  | [], p, n, J, hp, hn, hJ => by
    have e0 : decide ((p.length : Int) < (l.length : Int)) = false := by rw [hp]; exact lt_end p
    refine Ev.succ ?_
    simp only [l19_MergeEach.l6, e0, Bool.false_eq_true, if_false]
    have := hJ.shift
    simpa [cntE] using this
  | x :: s, p, n, J, hp, hn, hJ => by
    have e0 : decide ((p.length : Int) < (l.length : Int)) = true := by rw [hp]; exact lt_at p s x
    have h2 : idx l (p.length : Int) = some x := by rw [hp]; exact idx_at p x s
    have hpl : p.length + 1 ≤ l.length := by rw [hp]; simp
    have hw : w64 ((p.length : Int) + 1) = ((p ++ [x]).length : Int) := by rw [wS (by omega)]; simp
    rw [List.length_cons] at hn
    rw [cntE_cons] at hJ
    refine Ev.succ ?_
    simp only [l19_MergeEach.l6, e0, if_true, Jn, h2, hi, hj, Option.bind_some, hw]
    by_cases h : Entry.eqb x e = true
    · simp only [h, if_true, wS (n := n) (by omega)]
      rw [if_pos h] at hJ
      exact each_l6 a l hl i j row e hi hj s (p ++ [x]) (n + 1) (fun k => J (k + 1)) (by simp [hp]) (by omega) (by rw [show n + 1 + cntE e s = n + (1 + cntE e s) by omega]; exact hJ.shift)
    · rw [if_neg h, Nat.zero_add] at hJ
      simp only [Bool.not_eq_true] at h
      simp only [h, Bool.false_eq_true, if_false]
      exact each_l6 a l hl i j row e hi hj s (p ++ [x]) n (fun k => J (k + 1)) (by simp [hp]) (by omega) hJ.shift
theorem each_l5 (a : List (List Entry)) (q : Nat) (l : List Entry) (hq : idx a (q : Int) = some l) (i j : Nat) (row : List Entry) (e : Entry) (hi : idx a (i : Int) = some row) (hj : idx row (j : Int) = some e) {r : Bool} : ∀ (s p : List Entry) (n : Nat) (J : Nat → Int → Option Bool), l = p ++ s → l.length ≤ 1048576 → n + s.length ≤ 1048576 → Ev (fun k => J k ((n + cntE e s : Nat) : Int)) r → Ev (fun k => l19_MergeEach.l5 a (i : Int) (j : Int) (q : Int) (J k) k (n : Int) (p.length : Int)) r
  | [], p, n, J, hp, hl, hn, hJ => by
    have e0 : decide ((p.length : Int) < (l.length : Int)) = false := by rw [hp]; exact lt_end p
    refine Ev.succ ?_
    simp only [l19_MergeEach.l5, hq, Option.bind_some, e0, Bool.false_eq_true, if_false]
    have := hJ.shift
    simpa [cntE] using this
  | x :: s, p, n, J, hp, hl, hn, hJ => by
    have e0 : decide ((p.length : Int) < (l.length : Int)) = true := by rw [hp]; exact lt_at p s x
    have h2 : idx l (p.length : Int) = some x := by rw [hp]; exact idx_at p x s
    have hpl : p.length + 1 ≤ l.length := by rw [hp]; simp
    have hw : w64 ((p.length : Int) + 1) = ((p ++ [x]).length : Int) := by rw [wS (by omega)]; simp
    rw [List.length_cons] at hn
    rw [cntE_cons] at hJ
    refine Ev.succ ?_
    simp only [l19_MergeEach.l5, hq, e0, if_true, Jn, h2, hi, hj, Option.bind_some, hw]
    by_cases h : Entry.eqb x e = true
    · simp only [h, if_true, wS (n := n) (by omega)]
      rw [if_pos h] at hJ
      exact each_l5 a q l hq i j row e hi hj s (p ++ [x]) (n + 1) (fun k => J (k + 1)) (by simp [hp]) hl (by omega) (by rw [show n + 1 + cntE e s = n + (1 + cntE e s) by omega]; exact hJ.shift)
    · rw [if_neg h, Nat.zero_add] at hJ
      simp only [Bool.not_eq_true] at h
      simp only [h, Bool.false_eq_true, if_false]
      exact each_l5 a q l hq i j row e hi hj s (p ++ [x]) n (fun k => J (k + 1)) (by simp [hp]) hl (by omega) hJ.shift
theorem each_l4 (a : List (List Entry)) (ha : a.length ≤ 1048576) (hl : ∀ l ∈ a, l.length ≤ 1048576) (i j : Nat) (row : List Entry) (e : Entry) (hi : idx a (i : Int) = some row) (hj : idx row (j : Int) = some e) {r : Bool} : ∀ (t p : List (List Entry)) (n : Nat) (J : Nat → Int → Option Bool), a = p ++ t → n + t.flatten.length ≤ 1048576 → Ev (fun k => J k ((n + cntE e t.flatten : Nat) : Int)) r → Ev (fun k => l19_MergeEach.l4 a (i : Int) (j : Int) (J k) k (n : Int) (p.length : Int)) r
  | [], p, n, J, hp, hn, hJ => by
    have e0 : decide ((p.length : Int) < (a.length : Int)) = false := by rw [hp]; exact lt_end p
    refine Ev.succ ?_
    simp only [l19_MergeEach.l4, e0, Bool.false_eq_true, if_false]
    have := hJ.shift
    simpa [cntE] using this
  | l :: t, p, n, J, hp, hn, hJ => by
    have e0 : decide ((p.length : Int) < (a.length : Int)) = true := by rw [hp]; exact lt_at p t l
    have hx : idx a (p.length : Int) = some l := by rw [hp]; exact idx_at p l t
    have hpl : p.length + 1 ≤ a.length := by rw [hp]; simp
    have hw : w64 ((p.length : Int) + 1) = ((p ++ [l]).length : Int) := by rw [wS (by omega)]; simp
    rw [List.flatten_cons, List.length_append] at hn
    have hcl : cntE e l ≤ l.length := List.length_filter_le ..
    refine Ev.succ ?_
    simp only [l19_MergeEach.l4, e0, if_true, Jn, hw]
    refine each_l5 a p.length l hx i j row e hi hj l [] n (fun k i_24437 => l19_MergeEach.l4 a (i : Int) (j : Int) (J (k + 1)) k i_24437 ((p ++ [l]).length : Int)) rfl (hl l (by rw [hp]; simp)) (by omega) ?_
    refine each_l4 a ha hl i j row e hi hj t (p ++ [l]) (n + cntE e l) (fun k => J (k + 1)) (by simp [hp]) (by omega) ?_
    rw [List.flatten_cons, cntE_app] at hJ
    rw [show n + cntE e l + cntE e t.flatten = n + (cntE e l + cntE e t.flatten) by omega]
    exact hJ.shift
theorem each_l3 (a : List (List Entry)) (ha : a.length ≤ 1048576) (hf : a.flatten.length ≤ 1048576) (hl : ∀ l ∈ a, l.length ≤ 1048576) (T : List Entry) (hT : T.length ≤ 1048576) (hc : ∀ e, cntE e T = cntE e a.flatten) (i : Nat) (row : List Entry) (hi : idx a (i : Int) = some row) (hr : row.length ≤ 1048576) {r : Bool} : ∀ (s p : List Entry) (J : Nat → Option Bool), row = p ++ s → Ev J r → Ev (fun k => l19_MergeEach.l3 a T (i : Int) (J k) k (p.length : Int)) r
  | [], p, J, hp, hJ => by
    have e0 : decide ((p.length : Int) < (row.length : Int)) = false := by rw [hp]; exact lt_end p
    refine Ev.succ ?_
    simp only [l19_MergeEach.l3, hi, Option.bind_some, e0, Bool.false_eq_true, if_false]
    exact hJ.shift
  | x :: s, p, J, hp, hJ => by
    have e0 : decide ((p.length : Int) < (row.length : Int)) = true := by rw [hp]; exact lt_at p s x
    have h2 : idx row (p.length : Int) = some x := by rw [hp]; exact idx_at p x s
    have hpl : p.length + 1 ≤ row.length := by rw [hp]; simp
    have hw : w64 ((p.length : Int) + 1) = ((p ++ [x]).length : Int) := by rw [wS (by omega)]; simp
    refine Ev.succ ?_
    simp only [l19_MergeEach.l3, hi, Option.bind_some, e0, if_true, Jn, hw]
    refine each_l6 a T hT i p.length row x hi h2 T [] 0 (fun k i_24174 => l19_MergeEach.l4 a (i : Int) (p.length : Int) (fun (i_24317 : Int) => if (i_24174 != i_24317) = true then (some false) else (l19_MergeEach.l3 a T (i : Int) (J (k + 1)) k ((p ++ [x]).length : Int))) k 0 0) rfl (by omega) ?_
    refine each_l4 a ha hl i p.length row x hi h2 a [] 0 (fun k (i_24317 : Int) => if (((0 + cntE x T : Nat) : Int) != i_24317) = true then (some false) else (l19_MergeEach.l3 a T (i : Int) (J (k + 1)) k ((p ++ [x]).length : Int))) rfl (by omega) ?_
    have hne : (((0 + cntE x T : Nat) : Int) != ((0 + cntE x a.flatten : Nat) : Int)) = false := by rw [hc x]; simp
    simp only [hne, Bool.false_eq_true, if_false]
    exact each_l3 a ha hf hl T hT hc i row hi hr s (p ++ [x]) (fun k => J (k + 1)) (by simp [hp]) hJ.shift
theorem each_l2 (a : List (List Entry)) (ha : a.length ≤ 1048576) (hf : a.flatten.length ≤ 1048576) (hl : ∀ l ∈ a, l.length ≤ 1048576) (T : List Entry) (hT : T.length ≤ 1048576) (hc : ∀ e, cntE e T = cntE e a.flatten) {r : Bool} : ∀ (t p : List (List Entry)) (J : Nat → Option Bool), a = p ++ t → Ev J r → Ev (fun k => l19_MergeEach.l2 a T (J k) k (p.length : Int)) r
  | [], p, J, hp, hJ => by
    have e0 : decide ((p.length : Int) < (a.length : Int)) = false := by rw [hp]; exact lt_end p
    refine Ev.succ ?_
    simp only [l19_MergeEach.l2, e0, Bool.false_eq_true, if_false]
    exact hJ.shift
  | l :: t, p, J, hp, hJ => by
    have e0 : decide ((p.length : Int) < (a.length : Int)) = true := by rw [hp]; exact lt_at p t l
    have hx : idx a (p.length : Int) = some l := by rw [hp]; exact idx_at p l t
    have hpl : p.length + 1 ≤ a.length := by rw [hp]; simp
    have hw : w64 ((p.length : Int) + 1) = ((p ++ [l]).length : Int) := by rw [wS (by omega)]; simp
    refine Ev.succ ?_
    simp only [l19_MergeEach.l2, e0, if_true, Jn, hw]
    exact each_l3 a ha hf hl T hT hc p.length l hx (hl l (by rw [hp]; simp)) l [] (fun k => l19_MergeEach.l2 a T (J (k + 1)) k ((p ++ [l]).length : Int)) rfl (each_l2 a ha hf hl T hT hc t (p ++ [l]) (fun k => J (k + 1)) (by simp [hp]) hJ.shift)
/-- Backwards. -/
theorem each_l1 {a ss : List (List Entry)} {R : List R19_Item} (hB : Base a ss R) (hRl : R.length ≤ 1048576) {r : Bool} : ∀ (p : Nat) (m : merge_Merged) (J : Nat → List Entry → Option Bool), p ≤ R.length → At ss (R.map toH) m ((p : Int) - 1) → Ev (fun k => J k []) r →
    Ev (fun k => l19_MergeEach.l1 (J k) k m ((R.take p).map (·.Entry)) (decide (0 ≤ (p : Int) - 1))) r
  | 0, m, J, hp, hA, hJ => by
    have e0 : decide ((0 : Int) ≤ ((0 : Nat) : Int) - 1) = false := rfl
    refine Ev.succ ?_
    simp only [l19_MergeEach.l1, e0, Bool.false_eq_true, if_false, List.take_zero, List.map_nil]
    exact hJ.shift
  | p + 1, m, J, hp, hA, hJ => by
    have hZl : (R.map toH).length = R.length := List.length_map _
    have e1 : ((p + 1 : Nat) : Int) - 1 = (p : Int) := by omega
    rw [e1] at hA ⊢
    have hp' : p < (R.map toH).length := by omega
    have hpR : p < R.length := by omega
    obtain ⟨H1, F1⟩ := here_eq hB.all (hA.yes hp')
    have hz : (R.map toH)[p]'hp' = toH R[p] := by simp
    rw [hz] at H1 F1
    obtain ⟨m2, A2, E2⟩ := prev_at hB.all hB.few hA (by omega) (by omega)
    have e2 : (if (0 : Int) ≤ (p : Int) then (p : Int) - 1 else (p : Int)) = (p : Int) - 1 := if_pos (by omega)
    rw [e2] at A2 E2
    have e0 : decide ((0 : Int) ≤ (p : Int)) = true := decide_eq_true (by omega)
    have hlen : ((R.take (p + 1)).map (·.Entry)).length = p + 1 := by rw [List.length_map, List.length_take]; omega
    have w1 : w64 ((((R.take (p + 1)).map (·.Entry)).length : Int) - 1) = (p : Int) := by rw [hlen]; exact w64_nat (n := p) (by omega) (by omega)
    have hi : idx ((R.take (p + 1)).map (·.Entry)) (p : Int) = some R[p].Entry := by rw [getD_idx (by omega)]; simp
    have c0 : ((((R.take (p + 1)).map (·.Entry)).length : Int) == 0) = false := by rw [hlen]; simp; omega
    have hcut : cut ((R.take (p + 1)).map (·.Entry)) 0 (p : Int) = some ((R.take p).map (·.Entry)) := by
      unfold cut
      rw [if_pos ⟨by omega, by omega, by omega⟩]
      simp only [Int.toNat_natCast, Int.toNat_zero, List.drop_zero]
      rw [← List.map_take, List.take_take, Nat.min_eq_left (by omega)]
    refine Ev.succ ?_
    simp only [l19_MergeEach.l1, e0, if_true, H1, Option.bind_some, Jn, c0, Bool.false_eq_true, if_false, w1, hi, toH, enq, Bool.not_true, hcut]
    refine Ev.bind E2 ?_
    exact each_l1 hB hRl p m2 (fun k => J (k + 1)) (by omega) A2 hJ.shift
theorem each_law (a : List (List Entry)) (ha : a.length ≤ 1048576) (hf : a.flatten.length ≤ 1048576) : Ev (fun k => l19_MergeEach k a) true := by
  have hl : ∀ l ∈ a, l.length ≤ 1048576 := fun l h => by
    have := (List.sublist_flatten_of_mem h).length_le
    omega
  obtain ⟨ss, R, hB⟩ := base_ex a ha hf
  have hZl : (R.map toH).length = R.length := List.length_map _
  have hRl : R.length ≤ 1048576 := by have := hB.few.z; omega
  have hRf : R.length = a.flatten.length := by have := hB.sst.len; rw [List.length_map] at this; exact this.symm
  unfold l19_MergeEach
  refine Ev.bind (lent_ev a ha hl) ?_
  refine mk_MergeEach a ss hB.len.symm ha (fun i l m h k => (hB.srt i l m h k).2.2.1) ?_
  have e0 : decide ((a.length : Int) < (a.length : Int)) = false := decF (Nat.le_refl _)
  simp only [l19_MergeEach.l0, e0, Bool.false_eq_true, if_false, Jn]
  obtain ⟨n1, h1⟩ := new_MergeEach ss (by rw [hB.len]; exact ha) (fun _ => -1)
  obtain ⟨n2, h2⟩ := spo_MergeEach (lens a) (by simp [lens]; exact ha) (fun m hm => by obtain ⟨l, hl', rfl⟩ := List.mem_map.1 hm; exact hl l hl')
  obtain ⟨n3, h3⟩ := nil_MergeEach ss.length (by rw [hB.len]; exact ha)
  refine Ev.preE ⟨n1 + n2 + n3, fun k hk => (h1 k (by omega) _).trans ((h2 k (by omega) _ a rfl).trans (h3 k (by omega) _ _ (by simp [outs])))⟩ ?_
  refine each_l8 a ha hf a [] _ rfl ?_
  obtain ⟨m1, A1, E1⟩ := first_at hB.all hB.few hB.mk0
  rw [hZl] at E1
  refine Ev.bind E1 ?_
  rw [← hRf]
  refine each_l7 hB hRl R.length 0 m1 _ (by omega) A1 (fun m' A' => ?_)
  have hTl : (((R.map (·.Entry)).length : Int) != (R.length : Int)) = false := by simp
  obtain ⟨m2, A2, E2⟩ := next_at hB.all hB.few A' (by omega) (by omega)
  have e1 : (if (R.length : Int) < ((R.map toH).length : Int) then (R.length : Int) + 1 else (R.length : Int)) = (R.length : Int) := if_neg (by omega)
  rw [e1] at A2 E2
  have e2 : decide ((R.length : Int) < ((R.map toH).length : Int)) = false := decide_eq_false (by omega)
  rw [e2] at E2
  obtain ⟨m3, A3, E3⟩ := prev_at hB.all hB.few A2 (by omega) (by omega)
  have e3 : (if (0 : Int) ≤ (R.length : Int) then (R.length : Int) - 1 else (R.length : Int)) = (R.length : Int) - 1 := if_pos (by omega)
  rw [e3] at A3 E3
  simp only [hTl, Bool.false_eq_true, if_false]
  refine Ev.bind E2 ?_
  simp only [Bool.false_eq_true, if_false]
  have hc : ∀ e, cntE e (R.map (·.Entry)) = cntE e a.flatten := fun e => (hB.sst.1.symm.filter _).length_eq
  refine each_l2 a ha hf hl (R.map (·.Entry)) (by rw [List.length_map]; exact hRl) hc a [] _ rfl ?_
  refine Ev.bind E3 ?_
  have := each_l1 hB hRl (r := true) R.length m3 (fun _ l => some ((l.length : Int) == 0)) (Nat.le_refl _) A3 (Ev.of fun _ => rfl)
  rw [List.take_length] at this
  exact this
end Go.Proofs.Ytknedifgapgmbaa.Mo
