import Derived.Test.YtknedifgapgmbaaMgSt
import Derived.Test.YtknedifgapgmbaaSyEv
import Derived.Test.YtknedifgapgmbaaSyUq
set_option linter.unusedVariables false
set_option linter.unusedSectionVars false
set_option linter.unusedSimpArgs false
set_option maxRecDepth 100000
namespace Go.Proofs.Ytknedifgapgmbaa.Mo
open Go Go.Proofs.Ytknedifgapgmbaa.Sy
def cE (a b : Entry) : Int := if slt a.Key b.Key then -1 else if slt b.Key a.Key then 1 else if b.Seq < a.Seq then -1 else if a.Seq < b.Seq then 1 else if b.Kind < a.Kind then -1 else if a.Kind < b.Kind then 1 else 0
abbrev ltE : Entry → Entry → Prop := ltcEntry cE
theorem ltE_iff {a b : Entry} : ltE a b ↔ slt a.Key b.Key ∨ (a.Key = b.Key ∧ (b.Seq < a.Seq ∨ (a.Seq = b.Seq ∧ b.Kind < a.Kind))) := by
  show cE a b < 0 ↔ _
  unfold cE
  rcases slt_tri a.Key b.Key with h | h | h
  · simp [h]
  · rw [h]
    simp only [slt_irrefl, if_false, false_or, true_and]
    split
    · simp [*]
    · split
      · constructor
        · intro h; omega
        · rintro (h | ⟨h, _⟩) <;> omega
      · split
        · constructor
          · intro _; exact .inr ⟨by omega, by assumption⟩
          · intro _; omega
        · split
          · constructor
            · intro h; omega
            · rintro (h | ⟨_, h⟩) <;> omega
          · constructor
            · intro h; omega
            · rintro (h | ⟨_, h⟩) <;> omega
  · have h1 := slt_asymm h
    have h2 : a.Key ≠ b.Key := fun e => by rw [e] at h; exact slt_irrefl _ h
    simp [h, h1, h2]
theorem wo_E : Wo ltE := by
  refine ⟨fun x y h k => ?_, fun x y z h k => ?_⟩
  · rw [ltE_iff] at h k
    rcases h with h | ⟨e, h⟩
    · rcases k with k | ⟨e, _⟩
      · exact slt_asymm h k
      · rw [e] at h; exact slt_irrefl _ h
    · rcases k with k | ⟨_, k⟩
      · rw [e] at k; exact slt_irrefl _ k
      · omega
  · rw [ltE_iff] at h k ⊢
    rintro (g | ⟨e, g⟩)
    · rcases slt_tri x.Key y.Key with h1 | h1 | h1
      · exact h (.inl h1)
      · rw [h1] at g; exact k (.inl g)
      · exact k (.inl (slt_trans h1 g))
    · rcases slt_tri x.Key y.Key with h1 | h1 | h1
      · exact h (.inl h1)
      · have h2 : ¬ (y.Seq < x.Seq ∨ (x.Seq = y.Seq ∧ y.Kind < x.Kind)) := fun c => h (.inr ⟨h1, c⟩)
        have k2 : ¬ (z.Seq < y.Seq ∨ (y.Seq = z.Seq ∧ z.Kind < y.Kind)) := fun c => k (.inr ⟨h1.symm.trans e, c⟩)
        omega
      · rw [e] at h1; exact k (.inl h1)
theorem entries_eq (k : Nat) (a b : Entry) : ikey_entries (k + 4) a b = some (cE a b) := by
  have w1 : w64 (0 + 1) = 1 := by decide
  have w2 : w64 (1 + 1) = 2 := by decide
  have w3 : w64 (2 + 1) = 3 := by decide
  have key : ∀ p q r : Int, cmp_Or_int (k + 4) [p, q, r] = some (if p ≠ 0 then p else if q ≠ 0 then q else if r ≠ 0 then r else 0) := by
    intro p q r
    have i0 : idx [p, q, r] 0 = some p := rfl
    have i1 : idx [p, q, r] 1 = some q := rfl
    have i2 : idx [p, q, r] 2 = some r := rfl
    have l0 : decide ((0 : Int) < ([p, q, r].length : Int)) = true := rfl
    have l1 : decide ((1 : Int) < ([p, q, r].length : Int)) = true := rfl
    have l2 : decide ((2 : Int) < ([p, q, r].length : Int)) = true := rfl
    have l3 : decide ((3 : Int) < ([p, q, r].length : Int)) = false := rfl
    simp only [cmp_Or_int, cmp_Or_int.l0, i0, i1, i2, l0, l1, l2, l3, if_true, Option.bind_some, w1, w2, w3, bne_iff_ne, Bool.false_eq_true, if_false]
    split
    · rfl
    · split
      · rfl
      · split <;> rfl
  unfold ikey_entries ikey_Compare
  simp only [strings_Compare, internal_bytealg_CompareString, Option.bind_some]
  have hu : cmp_Compare_uint64 b.Seq a.Seq = some (if b.Seq < a.Seq then -1 else if a.Seq < b.Seq then 1 else 0) := by
    simp only [cmp_Compare_uint64, cmp_isNaN_uint64, bne_self_eq_false, Option.bind_some, Bool.false_eq_true, if_false, decide_eq_true_eq]
    split
    · rfl
    · split <;> rfl
  have hi : cmp_Compare_int b.Kind a.Kind = some (if b.Kind < a.Kind then -1 else if a.Kind < b.Kind then 1 else 0) := by
    simp only [cmp_Compare_int, cmp_isNaN_int, bne_self_eq_false, Option.bind_some, Bool.false_eq_true, if_false, decide_eq_true_eq]
    split
    · rfl
    · split <;> rfl
  rw [hu, hi]
  simp only [Option.bind_some, key]
  congr 1
  unfold cE ordS
  simp only [sLt_iff]
  by_cases h1 : slt a.Key b.Key
  · simp [h1]
  · by_cases h2 : slt b.Key a.Key
    · simp [h1, h2]
    · by_cases h3 : b.Seq < a.Seq
      · simp [h1, h2, h3]
      · by_cases h4 : a.Seq < b.Seq
        · simp [h1, h2, h3, h4]
        · by_cases h5 : b.Kind < a.Kind
          · simp [h1, h2, h3, h4, h5]
          · by_cases h6 : a.Kind < b.Kind
            · simp [h1, h2, h3, h4, h5, h6]
            · simp [h1, h2, h3, h4, h5, h6]
theorem rcomp_eq (a b : Entry) : r03_Compare (⟨a.Key, a.Seq, a.Kind⟩ : IKey) (⟨b.Key, b.Seq, b.Kind⟩ : IKey) = some (cE a b) := by
  unfold r03_Compare cE
  rcases slt_tri a.Key b.Key with h | h | h
  · have hne : sEq a.Key b.Key = false := by
      rw [Bool.eq_false_iff, ne_eq, sEq_iff]
      intro e; rw [e] at h; exact slt_irrefl _ h
    simp [hne, h, sLt_iff.2 h]
  · have he : sEq a.Key b.Key = true := sEq_iff.2 h
    rw [h] at he ⊢
    simp only [he, slt_irrefl, Bool.not_true, Bool.false_eq_true, if_false]
    by_cases h3 : b.Seq < a.Seq
    · have : a.Seq ≠ b.Seq := by omega
      simp [this, h3]
    · by_cases h4 : a.Seq < b.Seq
      · have : a.Seq ≠ b.Seq := by omega
        simp [this, h3, h4]
      · have e2 : a.Seq = b.Seq := by omega
        by_cases h5 : b.Kind < a.Kind
        · have : a.Kind ≠ b.Kind := by omega
          simp [e2, this, h5]
        · by_cases h6 : a.Kind < b.Kind
          · have : a.Kind ≠ b.Kind := by omega
            simp [e2, this, h5, h6]
          · have e3 : a.Kind = b.Kind := by omega
            simp [e2, e3]
  · have hne : sEq a.Key b.Key = false := by
      rw [Bool.eq_false_iff, ne_eq, sEq_iff]
      intro e; rw [e] at h; exact slt_irrefl _ h
    have h1 := slt_asymm h
    simp [hne, h, h1, sLt_false.2 h1]
theorem isort_ev (l : List Entry) (hl : l.length ≤ 4691249611691) : ∃ m, Srt ltE m ∧ Sst ltE l m ∧ Ev (fun k => ikey_Sorted k l) m := by
  obtain ⟨m, h1, h2, n, h3⟩ := stable_Entry (cmp := fun x y => some (cE x y)) (c := cE) (fun _ _ => rfl) wo_E l (by omega)
  refine ⟨m, h1, h2, n + 4, fun k hk => ?_⟩
  obtain ⟨j, rfl⟩ : ∃ j, k = j + 4 := ⟨k - 4, by omega⟩
  have e : (fun x0 x1 => ikey_entries (j + 4) x0 x1) = fun x y => some (cE x y) := by
    funext x y; exact entries_eq j x y
  unfold ikey_Sorted
  simp only [slices_Clone_Entry, pushN_ok (show ([] : List Entry).length + l.length ≤ 4691249611691 by rw [List.length_nil]; omega), Option.bind_some, List.nil_append, e]
  have := h3 (j + 4) (by omega)
  simp only at this
  rw [this]
  rfl
theorem merge_ev : ∀ (n : Nat) (a b out : List Entry), a.length + b.length = n → out.length + a.length + b.length ≤ 4691249611691 → Srt ltE a → Srt ltE b →
    ∃ m, Srt ltE m ∧ Sst ltE (a ++ b) m ∧ Ev (fun k => r03_Sorted.l0 (fun l_34 l_37 l_41 => (pushN 4691249611691 l_41 l_34).bind fun l114 => (pushN 4691249611691 l114 l_37).bind fun l117 => some l117) k a b out) (out ++ m) := by
  have stop : ∀ (a b out : List Entry), (a = [] ∨ b = []) → out.length + a.length + b.length ≤ 4691249611691 → Ev (fun k => r03_Sorted.l0 (fun l_34 l_37 l_41 => (pushN 4691249611691 l_41 l_34).bind fun l114 => (pushN 4691249611691 l114 l_37).bind fun l117 => some l117) k a b out) (out ++ (a ++ b)) := by
    intro a b out h hl
    refine Ev.succ ?_
    have hc : (decide (0 < (a.length : Int)) && decide (0 < (b.length : Int))) = false := by
      rcases h with rfl | rfl <;> simp
    simp only [r03_Sorted.l0, hc, Bool.false_eq_true, if_false, pushN_ok (show out.length + a.length ≤ 4691249611691 by omega), Option.bind_some, pushN_ok (show (out ++ a).length + b.length ≤ 4691249611691 by rw [List.length_append]; omega)]
    rw [List.append_assoc]
    exact Ev.ret
  intro n
  induction n with
  | zero =>
    intro a b out hn hl ha hb
    have : a = [] := List.eq_nil_of_length_eq_zero (by omega)
    subst this
    exact ⟨b, hb, Sst.refl b, stop [] b out (.inl rfl) hl⟩
  | succ n ih =>
    intro a b out hn hl ha hb
    cases a with
    | nil => exact ⟨b, hb, Sst.refl b, stop [] b out (.inl rfl) hl⟩
    | cons x a =>
      cases b with
      | nil => exact ⟨x :: a, ha, by rw [List.append_nil]; exact Sst.refl _, by have := stop (x :: a) [] out (.inr rfl) hl; rwa [List.append_nil] at this⟩
      | cons y b =>
        have ha' := List.pairwise_cons.1 ha
        have hb' := List.pairwise_cons.1 hb
        simp only [List.length_cons] at hn hl
        have hc : (decide (0 < ((x :: a).length : Int)) && decide (0 < ((y :: b).length : Int))) = true := by simp
        have i1 : idx (x :: a) 0 = some x := rfl
        have i2 : idx (y :: b) 0 = some y := rfl
        have c1 : ∀ (z : Entry) (t : List Entry), cut (z :: t) 1 ((z :: t).length : Int) = some t := fun z t => by
          unfold cut
          rw [if_pos ⟨by omega, by simp; omega, by omega⟩]
          simp
        by_cases hle : cE x y ≤ 0
        · have hyx : ¬ ltE y x := by
            intro h
            have := wo_E.asymm _ _ h
            rw [ltE_iff] at h this
            by_cases e : cE x y = 0
            · unfold cE at e
              rcases h with h | ⟨h0, h⟩
              · have := slt_asymm h
                simp [h, this] at e
              · rw [h0] at e
                simp only [slt_irrefl, if_false] at e
                split at e
                · omega
                · split at e
                  · omega
                  · split at e
                    · omega
                    · split at e <;> omega
            · exact wo_E.asymm _ _ (show ltE x y from (by show cE x y < 0; omega)) (ltE_iff.2 h)
          obtain ⟨m, m1, m2, m3⟩ := ih a (y :: b) (out ++ [x]) (by simp; omega) (by simp; omega) ha'.2 hb
          refine ⟨x :: m, List.pairwise_cons.2 ⟨fun z hz => ?_, m1⟩, by have := (Sst.refl [x]).app m2; simpa using this, Ev.succ ?_⟩
          · have hz' := m2.1.mem_iff.2 hz
            rcases List.mem_append.1 hz' with hz' | hz'
            · exact ha'.1 z hz'
            · rcases List.mem_cons.1 hz' with rfl | hz'
              · exact hyx
              · exact wo_E.neg z y x (hb'.1 z hz') hyx
          · simp only [r03_Sorted.l0, hc, if_true, i1, i2, r03_Key, Option.bind_some, rcomp_eq, hle, decide_true, push_ok (show out.length < 4691249611691 by omega), c1]
            simpa using m3
        · have hyx : ltE y x := by
            rw [ltE_iff]
            unfold cE at hle
            rcases slt_tri x.Key y.Key with h | h | h
            · simp [h] at hle
            · right
              rw [h] at hle
              simp only [slt_irrefl, if_false] at hle
              refine ⟨h.symm, ?_⟩
              split at hle
              · omega
              · split at hle
                · left; assumption
                · split at hle
                  · omega
                  · split at hle
                    · right; exact ⟨by omega, by assumption⟩
                    · omega
            · exact .inl h
          obtain ⟨m, m1, m2, m3⟩ := ih (x :: a) b (out ++ [y]) (by simp; omega) (by simp; omega) ha hb'.2
          have hall : ∀ z ∈ x :: a, ltE y z := fun z hz => by
            rcases List.mem_cons.1 hz with rfl | hz
            · exact hyx
            · exact wo_E.lt_le hyx (ha'.1 z hz)
          refine ⟨y :: m, List.pairwise_cons.2 ⟨fun z hz => ?_, m1⟩, ?_, Ev.succ ?_⟩
          · have hz' := m2.1.mem_iff.2 hz
            rcases List.mem_append.1 hz' with hz' | hz'
            · exact wo_E.asymm _ _ (hall z hz')
            · exact hb'.1 z hz'
          · have h1 : Sst ltE ((x :: a) ++ [y]) ([y] ++ (x :: a)) := Sst.swap wo_E (fun z hz w hw => by simp at hw; subst hw; exact hall z hz)
            have h2 := h1.app (Sst.refl b)
            have h3 := (Sst.refl [y]).app m2
            refine Sst.trans (b := [y] ++ (x :: a) ++ b) (by simpa using h2) (by simpa using h3)
          · simp only [r03_Sorted.l0, hc, if_true, i1, i2, r03_Key, Option.bind_some, rcomp_eq, hle, decide_false, Bool.false_eq_true, if_false, push_ok (show out.length < 4691249611691 by omega), c1]
            simpa using m3
theorem rsort_ev : ∀ (n : Nat) (l : List Entry), l.length ≤ n → l.length ≤ 4691249611691 → ∃ m, Srt ltE m ∧ Sst ltE l m ∧ Ev (fun k => r03_Sorted k l) m := by
  intro n
  induction n with
  | zero =>
    intro l hn hl
    have : l = [] := List.eq_nil_of_length_eq_zero (by omega)
    subst this
    exact ⟨[], Srt.nil, Sst.refl _, Ev.succ Ev.ret⟩
  | succ n ih =>
    intro l hn hl
    by_cases h2 : l.length < 2
    · refine ⟨l, ?_, Sst.refl l, Ev.succ ?_⟩
      · match l, h2 with
        | [], _ => exact Srt.nil
        | [x], _ => exact Srt.one x
      · have hd : decide ((l.length : Int) < 2) = true := decide_eq_true (by omega)
        simp only [r03_Sorted, hd, if_true, pushN_ok (show ([] : List Entry).length + l.length ≤ 4691249611691 by rw [List.length_nil]; omega), Option.bind_some, List.nil_append]
        exact Ev.ret
    · have hd : decide ((l.length : Int) < 2) = false := decide_eq_false (by omega)
      have hm : w64 (Int.tdiv (l.length : Int) 2) = ((l.length / 2 : Nat) : Int) := by
        have : Int.tdiv (l.length : Int) 2 = ((l.length / 2 : Nat) : Int) := by
          rw [Int.tdiv_eq_ediv_of_nonneg (by omega)]; omega
        rw [this]; exact w64_of (by omega) (by omega)
      have hc1 : cut l 0 ((l.length / 2 : Nat) : Int) = some (l.take (l.length / 2)) := by
        unfold cut
        rw [if_pos ⟨by omega, by omega, by omega⟩, Int.toNat_natCast]
        rfl
      have hc2 : cut l ((l.length / 2 : Nat) : Int) (l.length : Int) = some (l.drop (l.length / 2)) := by
        unfold cut
        rw [if_pos ⟨by omega, by omega, by omega⟩, Int.toNat_natCast, Int.toNat_natCast, List.take_length]
      obtain ⟨a, a1, a2, a3⟩ := ih (l.take (l.length / 2)) (by rw [List.length_take]; omega) (by rw [List.length_take]; omega)
      obtain ⟨b, b1, b2, b3⟩ := ih (l.drop (l.length / 2)) (by rw [List.length_drop]; omega) (by rw [List.length_drop]; omega)
      have la := a2.len
      have lb := b2.len
      rw [List.length_take] at la
      rw [List.length_drop] at lb
      obtain ⟨m, m1, m2, m3⟩ := merge_ev _ a b [] rfl (by rw [List.length_nil]; omega) a1 b1
      refine ⟨m, m1, Sst.trans ?_ m2, Ev.succ ?_⟩
      · have := a2.app b2
        rwa [List.take_append_drop] at this
      · simp only [r03_Sorted, hd, Bool.false_eq_true, if_false, hm, hc1, hc2, Option.bind_some, Jn]
        refine Ev.bind a3 ?_
        refine Ev.bind b3 ?_
        simpa using m3
theorem sort_both (l : List Entry) (hl : l.length ≤ 4691249611691) : ∃ m, Srt ltE m ∧ Sst ltE l m ∧ Ev (fun k => ikey_Sorted k l) m ∧ Ev (fun k => r03_Sorted k l) m := by
  obtain ⟨m, h1, h2, h3⟩ := isort_ev l hl
  obtain ⟨m', g1, g2, g3⟩ := rsort_ev _ l (Nat.le_refl _) hl
  have : m = m' := Sst.uniq wo_E h1 g1 (h2.symm.trans g2)
  subst this
  exact ⟨m, h1, h2, h3, g3⟩
end Go.Proofs.Ytknedifgapgmbaa.Mo

set_option maxRecDepth 100000
namespace Go.Proofs.Ytknedifgapgmbaa.Mo
open Go Go.Proofs.Ytknedifgapgmbaa.Sy
def itm (q : Int) (e : Entry) : R19_Item := ⟨e, q⟩
def keyE (k : IKey) : Entry := ⟨k.Key, k.Seq, k.Kind, ByteArray.mk #[]⟩
theorem rcomp (x y : IKey) : r03_Compare x y = some (cE (keyE x) (keyE y)) := by
  have := rcomp_eq (keyE x) (keyE y)
  cases x; cases y; exact this
theorem tw_imp {α : Type} {f : α → Bool} {x : α} : ∀ {l : List α}, x ∈ l.takeWhile f → f x = true
  | [], h => by simp at h
  | a :: l, h => by
    rw [List.takeWhile_cons] at h
    split at h
    · rcases List.mem_cons.1 h with e | e
      · subst e; assumption
      · exact tw_imp e
    · simp at h
theorem enq (x : Entry) : Entry.eqb x x = true := by cases x; simp [Entry.eqb, sEq_refl]
end Go.Proofs.Ytknedifgapgmbaa.Mo

set_option maxRecDepth 100000
namespace Go.Proofs.Ytknedifgapgmbaa.Mo
open Go Go.Proofs.Ytknedifgapgmbaa.Sy
theorem cE_anti (a b : Entry) : 0 < cE a b ↔ cE b a < 0 := by
  unfold cE
  rcases slt_tri a.Key b.Key with h | h | h
  · have h1 := slt_asymm h
    simp [h, h1]
  · rw [h]
    simp only [slt_irrefl, if_false]
    by_cases h3 : b.Seq < a.Seq
    · have : ¬ a.Seq < b.Seq := by omega
      simp [h3, this]
    · by_cases h4 : a.Seq < b.Seq
      · simp [h3, h4]
      · by_cases h5 : b.Kind < a.Kind
        · have : ¬ a.Kind < b.Kind := by omega
          simp [h3, h4, h5, this]
        · by_cases h6 : a.Kind < b.Kind
          · simp [h3, h4, h5, h6]
          · simp [h3, h4, h5, h6]
  · have h1 := slt_asymm h
    simp [h, h1]
theorem cE_le {a b : Entry} : cE a b ≤ 0 ↔ ¬ ltE b a := by
  show _ ↔ ¬ cE b a < 0
  rw [← cE_anti]
  omega
def leB (x : Entry) (o : R19_Item) : Bool := decide (cE o.Entry x ≤ 0)
/-- A list's entries go in among those that are there. -/
def mg (q : Int) : List R19_Item → List Entry → List R19_Item × List R19_Item
  | r, [] => ([], r)
  | r, x :: xs => (r.takeWhile (leB x) ++ itm q x :: (mg q (r.dropWhile (leB x)) xs).1, (mg q (r.dropWhile (leB x)) xs).2)
def mgA (q : Int) (r : List R19_Item) (s : List Entry) : List R19_Item := (mg q r s).1 ++ (mg q r s).2
theorem mgA_nil (q : Int) (r : List R19_Item) : mgA q r [] = r := rfl
theorem mgA_cons (q : Int) (r : List R19_Item) (x : Entry) (xs : List Entry) : mgA q r (x :: xs) = r.takeWhile (leB x) ++ itm q x :: mgA q (r.dropWhile (leB x)) xs := by
  unfold mgA
  rw [mg]
  simp
theorem mgA_sst (q : Int) : ∀ (s : List Entry) (r : List R19_Item), Srt ltE (r.map (·.Entry)) → Srt ltE s → Srt ltE ((mgA q r s).map (·.Entry)) ∧ Sst ltE (r.map (·.Entry) ++ s) ((mgA q r s).map (·.Entry))
  | [], r, hr, hs => by
    rw [mgA_nil, List.append_nil]
    exact ⟨hr, Sst.refl _⟩
  | x :: xs, r, hr, hs => by
    have hs' := List.pairwise_cons.1 hs
    have hsplit := List.takeWhile_append_dropWhile (p := leB x) (l := r)
    have hr2 : Srt ltE ((r.takeWhile (leB x)).map (·.Entry) ++ (r.dropWhile (leB x)).map (·.Entry)) := by rw [← List.map_append, hsplit]; exact hr
    obtain ⟨p1, p2, p3⟩ := Srt.app.1 hr2
    obtain ⟨i1, i2⟩ := mgA_sst q xs (r.dropWhile (leB x)) p2 hs'.2
    have hgt : ∀ y ∈ (r.dropWhile (leB x)).map (·.Entry), ltE x y := by
      intro y hy
      obtain ⟨o, ho, rfl⟩ := List.mem_map.1 hy
      cases hd : r.dropWhile (leB x) with
      | nil => rw [hd] at ho; simp at ho
      | cons f d =>
        have hf : leB x f = false := by
          have := List.head_dropWhile_not (leB x) (l := r) (by rw [hd]; simp)
          simpa [hd] using this
        have hxf : ltE x f.Entry := by
          have h0 : ¬ cE f.Entry x ≤ 0 := of_decide_eq_false hf
          rw [cE_le] at h0
          exact Classical.not_not.1 h0
        rw [hd] at ho p2
        rcases List.mem_cons.1 ho with e | e
        · subst e; exact hxf
        · have := (List.pairwise_cons.1 p2).1 o.Entry (List.mem_map.2 ⟨o, e, rfl⟩)
          exact wo_E.lt_le hxf this
    have hle : ∀ y ∈ (r.takeWhile (leB x)).map (·.Entry), ¬ ltE x y := by
      intro y hy
      obtain ⟨o, ho, rfl⟩ := List.mem_map.1 hy
      have := tw_imp ho
      exact cE_le.1 (of_decide_eq_true this)
    have hrest : ∀ z ∈ (mgA q (r.dropWhile (leB x)) xs).map (·.Entry), z ∈ (r.dropWhile (leB x)).map (·.Entry) ∨ z ∈ xs := fun z hz => List.mem_append.1 (i2.1.mem_iff.2 hz)
    rw [mgA_cons, List.map_append, List.map_cons]
    refine ⟨Srt.app.2 ⟨p1, List.pairwise_cons.2 ⟨fun z hz => ?_, i1⟩, fun y hy z hz => ?_⟩, ?_⟩
    · rcases hrest z hz with h | h
      · exact wo_E.asymm _ _ (hgt z h)
      · exact hs'.1 z h
    · rcases List.mem_cons.1 hz with h | h
      · subst h; exact hle y hy
      · rcases hrest z h with h | h
        · exact p3 y hy z h
        · exact wo_E.neg z x y (hs'.1 z h) (hle y hy)
    · have e1 : r.map (·.Entry) ++ x :: xs = (r.takeWhile (leB x)).map (·.Entry) ++ ((r.dropWhile (leB x)).map (·.Entry) ++ [x]) ++ xs := by
        have e0 : r.map (·.Entry) = (r.takeWhile (leB x)).map (·.Entry) ++ (r.dropWhile (leB x)).map (·.Entry) := by rw [← List.map_append, hsplit]
        rw [e0]
        simp only [List.append_assoc, List.singleton_append]
      rw [e1]
      have h1 : Sst ltE ((r.dropWhile (leB x)).map (·.Entry) ++ [x]) ([x] ++ (r.dropWhile (leB x)).map (·.Entry)) := Sst.swap wo_E (fun z hz w hw => by simp at hw; subst hw; exact hgt z hz)
      have h2 := ((Sst.refl ((r.takeWhile (leB x)).map (·.Entry))).app h1).app (Sst.refl xs)
      have h3 := (Sst.refl ((r.takeWhile (leB x)).map (·.Entry) ++ [x])).app i2
      refine Sst.trans h2 ?_
      have e2 : (r.takeWhile (leB x)).map (·.Entry) ++ ([x] ++ (r.dropWhile (leB x)).map (·.Entry)) ++ xs = (r.takeWhile (leB x)).map (·.Entry) ++ [x] ++ ((r.dropWhile (leB x)).map (·.Entry) ++ xs) := by simp
      rw [e2]
      have e3 : (r.takeWhile (leB x)).map (·.Entry) ++ [x] ++ (mgA q (r.dropWhile (leB x)) xs).map (·.Entry) = (r.takeWhile (leB x)).map (·.Entry) ++ (itm q x).Entry :: (mgA q (r.dropWhile (leB x)) xs).map (·.Entry) := by simp [itm]
      rw [e3] at h3
      exact h3
theorem mgA_len (q : Int) (s : List Entry) (r : List R19_Item) : (mgA q r s).length = r.length + s.length := by
  induction s generalizing r with
  | nil => rw [mgA_nil]; rfl
  | cons x xs ih =>
    rw [mgA_cons, List.length_append, List.length_cons, ih]
    have := congrArg List.length (List.takeWhile_append_dropWhile (p := leB x) (l := r))
    rw [List.length_append] at this
    simp only [List.length_cons]
    omega
theorem all_l2 (l : List R19_Item) (s : List Entry) (hl : l.length ≤ 3518437208883) (j : Nat) (x : Entry) (hx : s[j]? = some x) (R : List R19_Item) : ∀ (r p now : List R19_Item) (J : Nat → List R19_Item → Int → Option (List R19_Item)), l = p ++ r → now.length + r.length ≤ 4021071095712 →
    Ev (fun k => J k (now ++ r.takeWhile (leB x)) ((p ++ r.takeWhile (leB x)).length : Int)) R → Ev (fun k => r19_All.l2 l s (j : Int) (J k) k now (p.length : Int)) R
  | [], p, now, J, hp, hn, hJ => by
    have e1 : decide ((p.length : Int) < (l.length : Int)) = false := by rw [hp]; exact lt_end p
    refine Ev.succ ?_
    simp only [r19_All.l2, Jn, e1, Bool.false_eq_true, if_false]
    simpa using hJ.shift
  | o :: r, p, now, J, hp, hn, hJ => by
    have e1 : decide ((p.length : Int) < (l.length : Int)) = true := by rw [hp]; exact lt_at p r o
    have e2 : idx l (p.length : Int) = some o := by rw [hp]; exact idx_at p o r
    have e3 : idx s (j : Int) = some x := by rw [idx_nat, hx]
    have hw := step_at p r o (by rw [← hp, maxLen_val]; omega)
    have hc : cE (keyE (⟨o.Entry.Key, o.Entry.Seq, o.Entry.Kind⟩ : IKey)) (keyE (⟨x.Key, x.Seq, x.Kind⟩ : IKey)) = cE o.Entry x := rfl
    refine Ev.succ ?_
    simp only [r19_All.l2, Jn, e1, if_true, e2, e3, Option.bind_some, r03_Key, rcomp, hc, hw]
    rw [List.takeWhile_cons] at hJ
    by_cases h : leB x o = true
    · have h' : cE o.Entry x ≤ 0 := of_decide_eq_true h
      rw [if_pos h] at hJ
      simp only [decide_eq_true h', if_true, push_ok (show now.length < 4021071095713 by simp only [List.length_cons] at hn; omega), Option.bind_some]
      refine all_l2 l s hl j x hx R r (p ++ [o]) (now ++ [o]) (fun k => J (k + 1)) (by simp [hp]) (by simp at hn ⊢; omega) ?_
      simpa using hJ.shift
    · have h' : ¬ cE o.Entry x ≤ 0 := of_decide_eq_false (Bool.eq_false_iff.2 h)
      rw [if_neg h] at hJ
      simp only [decide_eq_false h', Bool.false_eq_true, if_false]
      simpa using hJ.shift
theorem all_l1' (l : List R19_Item) (s : List Entry) (hl : l.length ≤ 3518437208883) (hs : s.length ≤ 3518437208883) (q : Int) (R : List R19_Item) : ∀ (xs ps : List Entry) (r p now : List R19_Item) (J : Nat → List R19_Item → Int → Option (List R19_Item)), s = ps ++ xs → l = p ++ r → now.length + r.length + xs.length ≤ 4021071095712 →
    (∀ p', l = p' ++ (mg q r xs).2 → Ev (fun k => J k (now ++ (mg q r xs).1) (p'.length : Int)) R) → Ev (fun k => r19_All.l1 l q s (J k) k now (p.length : Int) (ps.length : Int)) R
  | [], ps, r, p, now, J, hps, hp, hn, hJ => by
    have e1 : decide ((ps.length : Int) < (s.length : Int)) = false := by rw [hps]; exact lt_end ps
    refine Ev.succ ?_
    simp only [r19_All.l1, e1, Bool.false_eq_true, if_false]
    have := (hJ p hp).shift
    simpa [mg] using this
  | x :: xs, ps, r, p, now, J, hps, hp, hn, hJ => by
    have e1 : decide ((ps.length : Int) < (s.length : Int)) = true := by rw [hps]; exact lt_at ps xs x
    have e2 : idx s (ps.length : Int) = some x := by rw [hps]; exact idx_at ps x xs
    have hx : s[ps.length]? = some x := by rw [hps]; simp
    have hw := step_at ps xs x (by rw [← hps, maxLen_val]; omega)
    have hlen := congrArg List.length (List.takeWhile_append_dropWhile (p := leB x) (l := r))
    rw [List.length_append] at hlen
    simp only [List.length_cons] at hn
    refine Ev.succ ?_
    simp only [r19_All.l1, e1, if_true, Jn]
    refine all_l2 l s hl ps.length x hx R r p now (fun k l_9297 i_9298 => (idx s (ps.length : Int)).bind fun x28660 => (push 4021071095713 l_9297 (⟨x28660, q⟩ : R19_Item)).bind fun l28663 => r19_All.l1 l q s (J (k + 1)) k l28663 i_9298 (w64 ((ps.length : Int) + 1))) hp (by omega) ?_
    simp only [e2, Option.bind_some, push_ok (show (now ++ r.takeWhile (leB x)).length < 4021071095713 by rw [List.length_append]; omega), hw]
    refine all_l1' l s hl hs q R xs (ps ++ [x]) (r.dropWhile (leB x)) (p ++ r.takeWhile (leB x)) (now ++ r.takeWhile (leB x) ++ [(⟨x, q⟩ : R19_Item)]) (fun k => J (k + 1)) (by simp [hps]) (by rw [List.append_assoc, List.takeWhile_append_dropWhile]; exact hp) (by simp only [List.length_append, List.length_singleton]; omega) ?_
    intro p' hp'
    have := (hJ p' hp').shift
    simpa [mg, itm] using this
def allOut : Int → List R19_Item → List (List Entry) → List R19_Item
  | _, out, [] => out
  | q, out, s :: r => allOut (q + 1) (mgA q out s) r
theorem all_l0 (a : List (List Entry)) (ss : List (List Entry)) (ha : a.length ≤ 1048576) (tot : Nat) (ht : tot ≤ 1048576) : ∀ (t p : List (List Entry)) (t' : List (List Entry)) (out : List R19_Item), a = p ++ t → t.length = t'.length → (∀ (i : Nat) (l m : List Entry), t[i]? = some l → t'[i]? = some m → Ev (fun k => r03_Sorted k l) m) →
    out.length + (t'.map List.length).sum ≤ tot → Ev (fun k => r19_All.l0 a k out (p.length : Int)) (allOut (p.length : Int) out t')
  | [], p, t', out, hp, ht', hs, hl => by
    have e1 : decide ((p.length : Int) < (a.length : Int)) = false := by rw [hp]; exact lt_end p
    have : t' = [] := List.eq_nil_of_length_eq_zero ht'.symm
    subst this
    refine Ev.succ ?_
    simp only [r19_All.l0, e1, Bool.false_eq_true, if_false, allOut]
    exact Ev.ret
  | l :: t, p, t', out, hp, ht', hs, hl => by
    cases t' with
    | nil => simp at ht'
    | cons m t' =>
      have e1 : decide ((p.length : Int) < (a.length : Int)) = true := by rw [hp]; exact lt_at p t l
      have e2 : idx a (p.length : Int) = some l := by rw [hp]; exact idx_at p l t
      have hpl : p.length + 1 ≤ a.length := by rw [hp]; simp
      have hw := step_at p t l (by rw [← hp, maxLen_val]; omega)
      simp only [List.map_cons, List.sum_cons] at hl
      refine Ev.succ ?_
      simp only [r19_All.l0, e1, if_true, e2, Option.bind_some, Jn, hw]
      refine Ev.bind (hs 0 l m rfl rfl) ?_
      refine all_l1' out m (by omega) (by omega) (p.length : Int) _ m [] out [] [] (fun k l_8865 i_8866 => (cut out i_8866 (out.length : Int)).bind fun l27160 => (pushN 4021071095713 l_8865 l27160).bind fun l27161 => r19_All.l0 a k l27161 ((p ++ [l]).length : Int)) rfl rfl (by simp; omega) ?_
      intro p' hp'
      have hple : p'.length ≤ out.length := by have := congrArg List.length hp'; rw [List.length_append] at this; omega
      have hcut : cut out (p'.length : Int) (out.length : Int) = some (mg (p.length : Int) out m).2 := by
        rw [cut_drop rfl hple]
        congr 1
        conv => lhs; rw [hp']
        exact List.drop_left
      have hml := mgA_len (p.length : Int) m out
      have hml2 := hml
      unfold mgA at hml2
      rw [List.length_append] at hml2
      simp only [hcut, Option.bind_some, List.nil_append, pushN_ok (show (mg (p.length : Int) out m).1.length + (mg (p.length : Int) out m).2.length ≤ 4021071095713 by omega)]
      have := all_l0 a ss ha tot ht t (p ++ [l]) t' (mgA (p.length : Int) out m) (by simp [hp]) (by simpa using ht') (fun i l' m' h1 h2 => hs (i + 1) l' m' (by simpa using h1) (by simpa using h2)) (by omega)
      have e3 : ((p ++ [l]).length : Int) = (p.length : Int) + 1 := by simp
      rw [e3] at this
      rw [e3, allOut]
      exact this
theorem allOut_sst : ∀ (t' : List (List Entry)) (q : Int) (out : List R19_Item) (t : List (List Entry)), t.length = t'.length → (∀ (i : Nat) (l m : List Entry), t[i]? = some l → t'[i]? = some m → Srt ltE m ∧ Sst ltE l m) → Srt ltE (out.map (·.Entry)) → Srt ltE ((allOut q out t').map (·.Entry)) ∧ Sst ltE (out.map (·.Entry) ++ t.flatten) ((allOut q out t').map (·.Entry))
  | [], q, out, t, ht, h, ho => by
    have : t = [] := List.eq_nil_of_length_eq_zero ht
    subst this
    simp only [allOut, List.flatten_nil, List.append_nil]
    exact ⟨ho, Sst.refl _⟩
  | m :: t', q, out, [], ht, h, ho => by simp at ht
  | m :: t', q, out, l :: t, ht, h, ho => by
    obtain ⟨h1, h2⟩ := h 0 l m rfl rfl
    obtain ⟨g1, g2⟩ := mgA_sst q m out ho h1
    obtain ⟨k1, k2⟩ := allOut_sst t' (q + 1) (mgA q out m) t (by simpa using ht) (fun i l' m' a b => h (i + 1) l' m' (by simpa using a) (by simpa using b)) g1
    refine ⟨k1, ?_⟩
    rw [List.flatten_cons, ← List.append_assoc]
    refine Sst.trans ?_ k2
    exact (((Sst.refl _).app h2).trans g2).app (Sst.refl _)
theorem conc_l1 (a : List (List Entry)) (ha : a.length ≤ 1048576) (tot : Nat) (ht : tot ≤ 1048576) : ∀ (t p : List (List Entry)) (acc : List Entry), a = p ++ t → acc.length + t.flatten.length ≤ tot → Ev (fun k => slices_Concat_Entry.l1 a (fun l => some l) k acc (p.length : Int)) (acc ++ t.flatten)
  | [], p, acc, hp, hl => by
    have e1 : decide ((p.length : Int) < (a.length : Int)) = false := by rw [hp]; exact lt_end p
    refine Ev.succ ?_
    simp only [slices_Concat_Entry.l1, e1, Bool.false_eq_true, if_false]
    exact Ev.ret.to (by simp)
  | l :: t, p, acc, hp, hl => by
    have e1 : decide ((p.length : Int) < (a.length : Int)) = true := by rw [hp]; exact lt_at p t l
    have e2 : idx a (p.length : Int) = some l := by rw [hp]; exact idx_at p l t
    have hw := step_at p t l (by rw [← hp, maxLen_val]; omega)
    rw [List.flatten_cons, List.length_append] at hl
    refine Ev.succ ?_
    simp only [slices_Concat_Entry.l1, e1, if_true, e2, Option.bind_some, pushN_ok (show acc.length + l.length ≤ 4691249611691 by omega), hw]
    have := conc_l1 a ha tot ht t (p ++ [l]) (acc ++ l) (by simp [hp]) (by rw [List.length_append]; omega)
    exact this.to (by simp)
theorem grow_nil (n : Nat) (hn : n ≤ 1048576) : slices_Grow_Entry_nil (n : Int) = some [] := by
  have h1 : decide ((n : Int) < 0) = false := decide_eq_false (by omega)
  have w0 : w64 (0 - 0) = 0 := by decide
  have w1 : w64 ((n : Int) - 0) = (n : Int) := by rw [w64_of (by omega) (by omega)]; omega
  simp only [slices_Grow_Entry_nil, h1, Bool.false_eq_true, if_false, Jn, w0, w1]
  by_cases h : 0 < n
  · have h2 : decide ((0 : Int) < (n : Int)) = true := decide_eq_true (by omega)
    have h3 : mkP 5864062014805 (n : Int) (⟨(ByteArray.mk #[]), 0, 0, (ByteArray.mk #[])⟩ : Entry) = some (List.replicate n ⟨(ByteArray.mk #[]), 0, 0, (ByteArray.mk #[])⟩) := by
      unfold mkP
      rw [if_pos ⟨by omega, by omega⟩, Int.toNat_natCast]
    have h4 : cut (List.replicate n (⟨(ByteArray.mk #[]), 0, 0, (ByteArray.mk #[])⟩ : Entry)) 0 0 = some [] := by
      unfold cut
      rw [if_pos ⟨by omega, by omega, by rw [List.length_replicate]; omega⟩]
      simp
    simp only [h2, if_true, h3, h4, Option.bind_some]
  · have h2 : decide ((0 : Int) < (n : Int)) = false := decide_eq_false (by omega)
    simp only [h2, Bool.false_eq_true, if_false]
theorem conc_l0 (a : List (List Entry)) (ha : a.length ≤ 1048576) (hf : a.flatten.length ≤ 1048576) : ∀ (t p : List (List Entry)), a = p ++ t → Ev (fun k => slices_Concat_Entry.l0 a k (p.flatten.length : Int) (p.length : Int)) a.flatten
  | [], p, hp => by
    have e1 : decide ((p.length : Int) < (a.length : Int)) = false := by rw [hp]; exact lt_end p
    have : p = a := by rw [hp]; simp
    refine Ev.succ ?_
    simp only [slices_Concat_Entry.l0, e1, Bool.false_eq_true, if_false, Jn]
    rw [this, grow_nil _ hf]
    simp only [Option.bind_some]
    have := conc_l1 a ha 1048576 (Nat.le_refl _) a [] [] rfl (by simpa using hf)
    simpa using this
  | l :: t, p, hp => by
    have e1 : decide ((p.length : Int) < (a.length : Int)) = true := by rw [hp]; exact lt_at p t l
    have e2 : idx a (p.length : Int) = some l := by rw [hp]; exact idx_at p l t
    have hw := step_at p t l (by rw [← hp, maxLen_val]; omega)
    have hfl : p.flatten.length + l.length ≤ 1048576 := by
      rw [hp, List.flatten_append, List.flatten_cons, List.length_append, List.length_append] at hf
      omega
    have w1 : w64 ((p.flatten.length : Int) + (l.length : Int)) = ((p ++ [l]).flatten.length : Int) := by
      rw [w64_of (by omega) (by omega), List.flatten_append, List.length_append]
      simp
    have hneg : decide (((p ++ [l]).flatten.length : Int) < 0) = false := decide_eq_false (by omega)
    refine Ev.succ ?_
    simp only [slices_Concat_Entry.l0, e1, if_true, e2, Option.bind_some, w1, hneg, Bool.false_eq_true, if_false, hw]
    exact conc_l0 a ha hf t (p ++ [l]) (by simp [hp])
theorem lent_l0 (a : List (List Entry)) (ha : a.length ≤ 1048576) (hs : ∀ l ∈ a, l.length ≤ 1048576) : ∀ (t p : List (List Entry)), a = p ++ t → Ev (fun k => l19_lent.l0 a k p (p.length : Int)) a
  | [], p, hp => by
    have e1 : decide ((p.length : Int) < (a.length : Int)) = false := by rw [hp]; exact lt_end p
    refine Ev.succ ?_
    simp only [l19_lent.l0, e1, Bool.false_eq_true, if_false]
    exact Ev.ret.to (by rw [hp]; simp)
  | l :: t, p, hp => by
    have e1 : decide ((p.length : Int) < (a.length : Int)) = true := by rw [hp]; exact lt_at p t l
    have e2 : idx a (p.length : Int) = some l := by rw [hp]; exact idx_at p l t
    have hpl : p.length + 1 ≤ a.length := by rw [hp]; simp
    have hw := step_at p t l (by rw [← hp, maxLen_val]; omega)
    have hl := hs l (by rw [hp]; simp)
    refine Ev.succ ?_
    simp only [l19_lent.l0, e1, if_true, e2, Option.bind_some, pushN_ok (show ([] : List Entry).length + l.length ≤ 4691249611691 by rw [List.length_nil]; omega), List.nil_append, push_ok (show p.length < 9382499223535 by omega), hw]
    exact lent_l0 a ha hs t (p ++ [l]) (by simp [hp])
theorem ents_l0 (o : List R19_Item) (ho : o.length ≤ 1048576) : ∀ (t p : List R19_Item), o = p ++ t → Ev (fun k => r19_Entries.l0 o k (p.map (·.Entry)) (p.length : Int)) (o.map (·.Entry))
  | [], p, hp => by
    have e1 : decide ((p.length : Int) < (o.length : Int)) = false := by rw [hp]; exact lt_end p
    refine Ev.succ ?_
    simp only [r19_Entries.l0, e1, Bool.false_eq_true, if_false]
    exact Ev.ret.to (by rw [hp]; simp)
  | x :: t, p, hp => by
    have e1 : decide ((p.length : Int) < (o.length : Int)) = true := by rw [hp]; exact lt_at p t x
    have e2 : idx o (p.length : Int) = some x := by rw [hp]; exact idx_at p x t
    have hpl : p.length + 1 ≤ o.length := by rw [hp]; simp
    have hw := step_at p t x (by rw [← hp, maxLen_val]; omega)
    refine Ev.succ ?_
    simp only [r19_Entries.l0, e1, if_true, e2, Option.bind_some, push_ok (show (p.map (·.Entry)).length < 4691249611691 by rw [List.length_map]; omega), hw]
    have := ents_l0 o ho t (p ++ [x]) (by simp [hp])
    simpa using this
theorem msame_l0 (a : List Entry) (hl : a.length ≤ 1048576) : ∀ (s p : List Entry), a = p ++ s → Ev (fun k => l19_same.l0 a a k (p.length : Int)) true
  | [], p, hp => by
    have e1 : decide ((p.length : Int) < (a.length : Int)) = false := by rw [hp]; exact lt_end p
    refine Ev.succ ?_
    simp only [l19_same.l0, e1, Bool.false_eq_true, if_false]
    exact Ev.ret
  | x :: s, p, hp => by
    have e1 : decide ((p.length : Int) < (a.length : Int)) = true := by rw [hp]; exact lt_at p s x
    have e2 : idx a (p.length : Int) = some x := by rw [hp]; exact idx_at p x s
    refine Ev.succ ?_
    simp only [l19_same.l0, e1, e2, if_true, Option.bind_some, enq, Bool.not_true, Bool.false_eq_true, if_false, step_at p s x (by rw [← hp, maxLen_val]; omega)]
    exact msame_l0 a hl s (p ++ [x]) (by simp [hp])
theorem msame_ev (a : List Entry) (hl : a.length ≤ 1048576) : Ev (fun k => l19_same k a a) true := by
  unfold l19_same
  simp only [bne_self_eq_false, Bool.false_eq_true, if_false]
  exact msame_l0 a hl a [] rfl
theorem mall_l1 (a : List (List Entry)) (ha : a.length ≤ 1048576) (hs : ∀ l ∈ a, l.length ≤ 1048576) : ∀ (t p : List (List Entry)) (J : Nat → Option Bool), a = p ++ t → Ev J true → Ev (fun k => l19_MergeAll.l1 a a (J k) k (p.length : Int)) true
  | [], p, J, hp, hJ => by
    have e1 : decide ((p.length : Int) < (a.length : Int)) = false := by rw [hp]; exact lt_end p
    refine Ev.succ ?_
    simp only [l19_MergeAll.l1, e1, Bool.false_eq_true, if_false]
    exact hJ.shift
  | l :: t, p, J, hp, hJ => by
    have e1 : decide ((p.length : Int) < (a.length : Int)) = true := by rw [hp]; exact lt_at p t l
    have e2 : idx a (p.length : Int) = some l := by rw [hp]; exact idx_at p l t
    have hw := step_at p t l (by rw [← hp, maxLen_val]; omega)
    refine Ev.succ ?_
    simp only [l19_MergeAll.l1, e1, if_true, e2, Option.bind_some, hw]
    refine Ev.bind (msame_ev l (hs l (by rw [hp]; simp))) ?_
    simp only [Bool.not_true, Bool.false_eq_true, if_false]
    exact mall_l1 a ha hs t (p ++ [l]) (fun k => J (k + 1)) (by simp [hp]) hJ.shift
theorem mall_l0 (a : List (List Entry)) (ha : a.length ≤ 1048576) (hs : ∀ l ∈ a, l.length ≤ 1048576) (m : List Entry) (hm : m.length ≤ 1048576) : ∀ (s p : List Entry), (p ++ s).length ≤ 1048576 → Ev (fun k => l19_MergeAll.l0 a a m m k (p ++ s) (p.length : Int)) true
  | [], p, hp => by
    refine Ev.succ ?_
    simp only [l19_MergeAll.l0, lt_end, Bool.false_eq_true, if_false, Jn]
    exact mall_l1 a ha hs a [] (fun k => (l19_same k m m).bind fun r171 => some r171) rfl (Ev.bind (msame_ev m hm) Ev.ret)
  | x :: s, p, hp => by
    refine Ev.succ ?_
    simp only [l19_MergeAll.l0, lt_at, idx_at, upd_at, if_true, Option.bind_some, step_at p s x (by rw [maxLen_val]; omega)]
    have := mall_l0 a ha hs m hm s (p ++ [(⟨(ByteArray.mk #[115, 112, 111, 105, 108, 116]), 0, 0, (ByteArray.mk #[])⟩ : Entry)]) (by simp at hp ⊢; omega)
    simpa using this
theorem flat_len {α : Type} : ∀ (a : List (List α)), a.flatten.length = (a.map List.length).sum
  | [] => rfl
  | l :: a => by rw [List.flatten_cons, List.length_append, flat_len a]; simp
theorem mall_law (a : List (List Entry)) (ha : a.length ≤ 1048576) (hf : a.flatten.length ≤ 1048576) : Ev (fun k => l19_MergeAll k a) true := by
  have hs : ∀ l ∈ a, l.length ≤ 1048576 := fun l hl => Nat.le_trans ((List.sublist_flatten_of_mem hl).length_le) hf
  obtain ⟨m, m1, m2, m3, m4⟩ := sort_both a.flatten (by omega)
  have hml : m.length = a.flatten.length := m2.len.symm
  -- each list, sorted
  have hsorted : ∃ t' : List (List Entry), a.length = t'.length ∧ ∀ (i : Nat) (l s : List Entry), a[i]? = some l → t'[i]? = some s → Srt ltE s ∧ Sst ltE l s ∧ Ev (fun k => r03_Sorted k l) s := by
    clear m m1 m2 m3 m4 hml hf ha
    induction a with
    | nil => exact ⟨[], rfl, fun i l s h => by simp at h⟩
    | cons l a ih =>
      obtain ⟨t', h1, h2⟩ := ih (fun l hl => hs l (List.mem_cons_of_mem _ hl))
      obtain ⟨s, s1, s2, _, s4⟩ := sort_both l (by have := hs l (by simp); omega)
      refine ⟨s :: t', by simp [h1], fun i l' s' e1 e2 => ?_⟩
      cases i with
      | zero =>
        simp at e1 e2
        subst e1 e2
        exact ⟨s1, s2, s4⟩
      | succ i => exact h2 i l' s' (by simpa using e1) (by simpa using e2)
  obtain ⟨t', t1, t2⟩ := hsorted
  have hsum : (t'.map List.length).sum = a.flatten.length := by
    rw [flat_len]
    congr 1
    refine List.ext_getElem? fun i => ?_
    rw [List.getElem?_map, List.getElem?_map]
    by_cases hi : i < a.length
    · rw [List.getElem?_eq_getElem hi, List.getElem?_eq_getElem (by omega : i < t'.length)]
      have := t2 i a[i] t'[i] (List.getElem?_eq_getElem hi) (List.getElem?_eq_getElem (by omega))
      simp only [Option.map_some]
      rw [this.2.1.len]
    · rw [List.getElem?_eq_none (by omega), List.getElem?_eq_none (by omega)]
  have hall := all_l0 a [] ha 1048576 (Nat.le_refl _) a [] t' [] rfl t1 (fun i l s e1 e2 => (t2 i l s e1 e2).2.2) (by rw [hsum]; simpa using hf)
  obtain ⟨g1, g2⟩ := allOut_sst t' 0 [] a t1 (fun i l s e1 e2 => ⟨(t2 i l s e1 e2).1, (t2 i l s e1 e2).2.1⟩) Srt.nil
  have hmo : (allOut 0 [] t').map (·.Entry) = m := by
    refine Sst.uniq wo_E g1 m1 ?_
    have : Sst ltE a.flatten ((allOut 0 [] t').map (·.Entry)) := by simpa using g2
    exact this.symm.trans m2
  have hol : (allOut 0 [] t').length ≤ 1048576 := by
    have := congrArg List.length hmo
    rw [List.length_map] at this
    omega
  have hconc : Ev (fun k => slices_Concat_Entry k a) a.flatten := by
    have := conc_l0 a ha hf a [] rfl
    simpa [slices_Concat_Entry] using this
  have hmall : Ev (fun k => merge_All k a) m := by
    unfold merge_All
    exact Ev.bind hconc (Ev.bind m3 Ev.ret)
  unfold l19_MergeAll
  refine Ev.bind (show Ev (fun k => l19_lent k a) a from lent_l0 a ha hs a [] rfl) ?_
  refine Ev.bind hmall ?_
  refine Ev.bind hmall ?_
  refine Ev.bind (show Ev (fun k => r19_All k a) (allOut 0 [] t') from hall) ?_
  refine Ev.bind (show Ev (fun k => r19_Entries k (allOut 0 [] t')) ((allOut 0 [] t').map (·.Entry)) from ents_l0 _ hol _ [] rfl) ?_
  rw [hmo]
  refine Ev.bind (msame_ev m (by omega)) ?_
  simp only [Bool.not_true, Bool.false_eq_true, if_false]
  exact mall_l0 a ha hs m (by omega) m [] (by simp; omega)
end Go.Proofs.Ytknedifgapgmbaa.Mo
