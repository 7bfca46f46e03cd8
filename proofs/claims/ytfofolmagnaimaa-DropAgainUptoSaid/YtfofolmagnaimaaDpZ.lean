import Derived.Test.YtfofolmagnaimaaDpSt
import Derived.Test.YtfofolmagnaimaaDpTw
import Derived.Test.YtfofolmagnaimaaSyEv
import Derived.Test.YtfofolmagnaimaaSyUq
import Derived.Test.YtfofolmagnaimaaCmDp
set_option linter.unusedVariables false
set_option linter.unusedSectionVars false
set_option linter.unusedSimpArgs false
set_option maxRecDepth 100000
namespace Go.Proofs.Ytfofolmagnaimaa.Mo
open Go Go.Proofs.Ytfofolmagnaimaa.Sy
def cE (a b : Entry) : Int := if slt a.Key b.Key then -1 else if slt b.Key a.Key then 1 else if b.Seq < a.Seq then -1 else if a.Seq < b.Seq then 1 else if b.Kind < a.Kind then -1 else if a.Kind < b.Kind then 1 else 0
abbrev ltE : Entry → Entry → Prop := ltcEntry cE
theorem ltE_iff {a b : Entry} : ltE a b ↔ slt a.Key b.Key ∨ (a.Key = b.Key ∧ (b.Seq < a.Seq ∨ (a.Seq = b.Seq ∧ b.Kind < a.Kind))) := by
  show cE a b < 0 ↔ _
  unfold cE
  rcases slt_tri a.Key b.Key with h | h | h
  · simp [h]
  · rw [h]
    simp only [slt_irrefl, if_false, false_or, true_and]
    split
    · simp [*]
    · split
      · constructor
        · intro h; omega
        · rintro (h | ⟨h, _⟩) <;> omega
      · split
        · constructor
          · intro _; exact .inr ⟨by omega, by assumption⟩
          · intro _; omega
        · split
          · constructor
            · intro h; omega
            · rintro (h | ⟨_, h⟩) <;> omega
          · constructor
            · intro h; omega
            · rintro (h | ⟨_, h⟩) <;> omega
  · have h1 := slt_asymm h
    have h2 : a.Key ≠ b.Key := fun e => by rw [e] at h; exact slt_irrefl _ h
    simp [h, h1, h2]
theorem wo_E : Wo ltE := by
  refine ⟨fun x y h k => ?_, fun x y z h k => ?_⟩
  · rw [ltE_iff] at h k
    rcases h with h | ⟨e, h⟩
    · rcases k with k | ⟨e, _⟩
      · exact slt_asymm h k
      · rw [e] at h; exact slt_irrefl _ h
    · rcases k with k | ⟨_, k⟩
      · rw [e] at k; exact slt_irrefl _ k
      · omega
  · rw [ltE_iff] at h k ⊢
    rintro (g | ⟨e, g⟩)
    · rcases slt_tri x.Key y.Key with h1 | h1 | h1
      · exact h (.inl h1)
      · rw [h1] at g; exact k (.inl g)
      · exact k (.inl (slt_trans h1 g))
    · rcases slt_tri x.Key y.Key with h1 | h1 | h1
      · exact h (.inl h1)
      · have h2 : ¬ (y.Seq < x.Seq ∨ (x.Seq = y.Seq ∧ y.Kind < x.Kind)) := fun c => h (.inr ⟨h1, c⟩)
        have k2 : ¬ (z.Seq < y.Seq ∨ (y.Seq = z.Seq ∧ z.Kind < y.Kind)) := fun c => k (.inr ⟨h1.symm.trans e, c⟩)
        omega
      · rw [e] at h1; exact k (.inl h1)
theorem entries_eq (k : Nat) (a b : Entry) : ikey_entries (k + 4) a b = some (cE a b) := by
  have w1 : w64 (0 + 1) = 1 := by decide
  have w2 : w64 (1 + 1) = 2 := by decide
  have w3 : w64 (2 + 1) = 3 := by decide
  have key : ∀ p q r : Int, cmp_Or_int (k + 4) [p, q, r] = some (if p ≠ 0 then p else if q ≠ 0 then q else if r ≠ 0 then r else 0) := by
    intro p q r
    have i0 : idx [p, q, r] 0 = some p := rfl
    have i1 : idx [p, q, r] 1 = some q := rfl
    have i2 : idx [p, q, r] 2 = some r := rfl
    have l0 : decide ((0 : Int) < ([p, q, r].length : Int)) = true := rfl
    have l1 : decide ((1 : Int) < ([p, q, r].length : Int)) = true := rfl
    have l2 : decide ((2 : Int) < ([p, q, r].length : Int)) = true := rfl
    have l3 : decide ((3 : Int) < ([p, q, r].length : Int)) = false := rfl
    simp only [cmp_Or_int, cmp_Or_int.l0, i0, i1, i2, l0, l1, l2, l3, if_true, Option.bind_some, w1, w2, w3, bne_iff_ne, Bool.false_eq_true, if_false]
    split
    · rfl
    · split
      · rfl
      · split <;> rfl
  unfold ikey_entries ikey_Compare
  simp only [strings_Compare, internal_bytealg_CompareString, Option.bind_some]
  have hu : cmp_Compare_uint64 b.Seq a.Seq = some (if b.Seq < a.Seq then -1 else if a.Seq < b.Seq then 1 else 0) := by
    simp only [cmp_Compare_uint64, cmp_isNaN_uint64, bne_self_eq_false, Option.bind_some, Bool.false_eq_true, if_false, decide_eq_true_eq]
    split
    · rfl
    · split <;> rfl
  have hi : cmp_Compare_int b.Kind a.Kind = some (if b.Kind < a.Kind then -1 else if a.Kind < b.Kind then 1 else 0) := by
    simp only [cmp_Compare_int, cmp_isNaN_int, bne_self_eq_false, Option.bind_some, Bool.false_eq_true, if_false, decide_eq_true_eq]
    split
    · rfl
    · split <;> rfl
  rw [hu, hi]
  simp only [Option.bind_some, key]
  congr 1
  unfold cE ordS
  simp only [sLt_iff]
  by_cases h1 : slt a.Key b.Key
  · simp [h1]
  · by_cases h2 : slt b.Key a.Key
    · simp [h1, h2]
    · by_cases h3 : b.Seq < a.Seq
      · simp [h1, h2, h3]
      · by_cases h4 : a.Seq < b.Seq
        · simp [h1, h2, h3, h4]
        · by_cases h5 : b.Kind < a.Kind
          · simp [h1, h2, h3, h4, h5]
          · by_cases h6 : a.Kind < b.Kind
            · simp [h1, h2, h3, h4, h5, h6]
            · simp [h1, h2, h3, h4, h5, h6]
theorem rcomp_eq (a b : Entry) : r03_Compare (⟨a.Key, a.Seq, a.Kind⟩ : IKey) (⟨b.Key, b.Seq, b.Kind⟩ : IKey) = some (cE a b) := by
  unfold r03_Compare cE
  rcases slt_tri a.Key b.Key with h | h | h
  · have hne : sEq a.Key b.Key = false := by
      rw [Bool.eq_false_iff, ne_eq, sEq_iff]
      intro e; rw [e] at h; exact slt_irrefl _ h
    simp [hne, h, sLt_iff.2 h]
  · have he : sEq a.Key b.Key = true := sEq_iff.2 h
    rw [h] at he ⊢
    simp only [he, slt_irrefl, Bool.not_true, Bool.false_eq_true, if_false]
    by_cases h3 : b.Seq < a.Seq
    · have : a.Seq ≠ b.Seq := by omega
      simp [this, h3]
    · by_cases h4 : a.Seq < b.Seq
      · have : a.Seq ≠ b.Seq := by omega
        simp [this, h3, h4]
      · have e2 : a.Seq = b.Seq := by omega
        by_cases h5 : b.Kind < a.Kind
        · have : a.Kind ≠ b.Kind := by omega
          simp [e2, this, h5]
        · by_cases h6 : a.Kind < b.Kind
          · have : a.Kind ≠ b.Kind := by omega
            simp [e2, this, h5, h6]
          · have e3 : a.Kind = b.Kind := by omega
            simp [e2, e3]
  · have hne : sEq a.Key b.Key = false := by
      rw [Bool.eq_false_iff, ne_eq, sEq_iff]
      intro e; rw [e] at h; exact slt_irrefl _ h
    have h1 := slt_asymm h
    simp [hne, h, h1, sLt_false.2 h1]
theorem isort_ev (l : List Entry) (hl : l.length ≤ 4691249611691) : ∃ m, Srt ltE m ∧ Sst ltE l m ∧ Ev (fun k => ikey_Sorted k l) m := by
  obtain ⟨m, h1, h2, n, h3⟩ := stable_Entry (cmp := fun x y => some (cE x y)) (c := cE) (fun _ _ => rfl) wo_E l (by omega)
  refine ⟨m, h1, h2, n + 4, fun k hk => ?_⟩
  obtain ⟨j, rfl⟩ : ∃ j, k = j + 4 := ⟨k - 4, by omega⟩
  have e : (fun x0 x1 => ikey_entries (j + 4) x0 x1) = fun x y => some (cE x y) := by
    funext x y; exact entries_eq j x y
  unfold ikey_Sorted
  simp only [slices_Clone_Entry, pushN_ok (show ([] : List Entry).length + l.length ≤ 4691249611691 by rw [List.length_nil]; omega), Option.bind_some, List.nil_append, e]
  have := h3 (j + 4) (by omega)
  simp only at this
  rw [this]
  rfl
theorem merge_ev : ∀ (n : Nat) (a b out : List Entry), a.length + b.length = n → out.length + a.length + b.length ≤ 4691249611691 → Srt ltE a → Srt ltE b →
    ∃ m, Srt ltE m ∧ Sst ltE (a ++ b) m ∧ Ev (fun k => r03_Sorted.l0 (fun l_34 l_37 l_41 => (pushN 4691249611691 l_41 l_34).bind fun l114 => (pushN 4691249611691 l114 l_37).bind fun l117 => some l117) k a b out) (out ++ m) := by
  have stop : ∀ (a b out : List Entry), (a = [] ∨ b = []) → out.length + a.length + b.length ≤ 4691249611691 → Ev (fun k => r03_Sorted.l0 (fun l_34 l_37 l_41 => (pushN 4691249611691 l_41 l_34).bind fun l114 => (pushN 4691249611691 l114 l_37).bind fun l117 => some l117) k a b out) (out ++ (a ++ b)) := by
    intro a b out h hl
    refine Ev.succ ?_
    have hc : (decide (0 < (a.length : Int)) && decide (0 < (b.length : Int))) = false := by
      rcases h with rfl | rfl <;> simp
    simp only [r03_Sorted.l0, hc, Bool.false_eq_true, if_false, pushN_ok (show out.length + a.length ≤ 4691249611691 by omega), Option.bind_some, pushN_ok (show (out ++ a).length + b.length ≤ 4691249611691 by rw [List.length_append]; omega)]
    rw [List.append_assoc]
    exact Ev.ret
  intro n
  induction n with
  | zero =>
    intro a b out hn hl ha hb
    have : a = [] := List.eq_nil_of_length_eq_zero (by omega)
    subst this
    exact ⟨b, hb, Sst.refl b, stop [] b out (.inl rfl) hl⟩
  | succ n ih =>
    intro a b out hn hl ha hb
    cases a with
    | nil => exact ⟨b, hb, Sst.refl b, stop [] b out (.inl rfl) hl⟩
    | cons x a =>
      cases b with
      | nil => exact ⟨x :: a, ha, by rw [List.append_nil]; exact Sst.refl _, by have := stop (x :: a) [] out (.inr rfl) hl; rwa [List.append_nil] at this⟩
      | cons y b =>
        have ha' := List.pairwise_cons.1 ha
        have hb' := List.pairwise_cons.1 hb
        simp only [List.length_cons] at hn hl
        have hc : (decide (0 < ((x :: a).length : Int)) && decide (0 < ((y :: b).length : Int))) = true := by simp
        have i1 : idx (x :: a) 0 = some x := rfl
        have i2 : idx (y :: b) 0 = some y := rfl
        have c1 : ∀ (z : Entry) (t : List Entry), cut (z :: t) 1 ((z :: t).length : Int) = some t := fun z t => by
          unfold cut
          rw [if_pos ⟨by omega, by simp; omega, by omega⟩]
          simp
        by_cases hle : cE x y ≤ 0
        · have hyx : ¬ ltE y x := by
            intro h
            have := wo_E.asymm _ _ h
            rw [ltE_iff] at h this
            by_cases e : cE x y = 0
            · unfold cE at e
              rcases h with h | ⟨h0, h⟩
              · have := slt_asymm h
                simp [h, this] at e
              · rw [h0] at e
                simp only [slt_irrefl, if_false] at e
                split at e
                · omega
                · split at e
                  · omega
                  · split at e
                    · omega
                    · split at e <;> omega
            · exact wo_E.asymm _ _ (show ltE x y from (by show cE x y < 0; omega)) (ltE_iff.2 h)
          obtain ⟨m, m1, m2, m3⟩ := ih a (y :: b) (out ++ [x]) (by simp; omega) (by simp; omega) ha'.2 hb
          refine ⟨x :: m, List.pairwise_cons.2 ⟨fun z hz => ?_, m1⟩, by have := (Sst.refl [x]).app m2; simpa using this, Ev.succ ?_⟩
          · have hz' := m2.1.mem_iff.2 hz
            rcases List.mem_append.1 hz' with hz' | hz'
            · exact ha'.1 z hz'
            · rcases List.mem_cons.1 hz' with rfl | hz'
              · exact hyx
              · exact wo_E.neg z y x (hb'.1 z hz') hyx
          · simp only [r03_Sorted.l0, hc, if_true, i1, i2, r03_Key, Option.bind_some, rcomp_eq, hle, decide_true, push_ok (show out.length < 4691249611691 by omega), c1]
            simpa using m3
        · have hyx : ltE y x := by
            rw [ltE_iff]
            unfold cE at hle
            rcases slt_tri x.Key y.Key with h | h | h
            · simp [h] at hle
            · right
              rw [h] at hle
              simp only [slt_irrefl, if_false] at hle
              refine ⟨h.symm, ?_⟩
              split at hle
              · omega
              · split at hle
                · left; assumption
                · split at hle
                  · omega
                  · split at hle
                    · right; exact ⟨by omega, by assumption⟩
                    · omega
            · exact .inl h
          obtain ⟨m, m1, m2, m3⟩ := ih (x :: a) b (out ++ [y]) (by simp; omega) (by simp; omega) ha hb'.2
          have hall : ∀ z ∈ x :: a, ltE y z := fun z hz => by
            rcases List.mem_cons.1 hz with rfl | hz
            · exact hyx
            · exact wo_E.lt_le hyx (ha'.1 z hz)
          refine ⟨y :: m, List.pairwise_cons.2 ⟨fun z hz => ?_, m1⟩, ?_, Ev.succ ?_⟩
          · have hz' := m2.1.mem_iff.2 hz
            rcases List.mem_append.1 hz' with hz' | hz'
            · exact wo_E.asymm _ _ (hall z hz')
            · exact hb'.1 z hz'
          · have h1 : Sst ltE ((x :: a) ++ [y]) ([y] ++ (x :: a)) := Sst.swap wo_E (fun z hz w hw => by simp at hw; subst hw; exact hall z hz)
            have h2 := h1.app (Sst.refl b)
            have h3 := (Sst.refl [y]).app m2
            refine Sst.trans (b := [y] ++ (x :: a) ++ b) (by simpa using h2) (by simpa using h3)
          · simp only [r03_Sorted.l0, hc, if_true, i1, i2, r03_Key, Option.bind_some, rcomp_eq, hle, decide_false, Bool.false_eq_true, if_false, push_ok (show out.length < 4691249611691 by omega), c1]
            simpa using m3
theorem rsort_ev : ∀ (n : Nat) (l : List Entry), l.length ≤ n → l.length ≤ 4691249611691 → ∃ m, Srt ltE m ∧ Sst ltE l m ∧ Ev (fun k => r03_Sorted k l) m := by
  intro n
  induction n with
  | zero =>
    intro l hn hl
    have : l = [] := List.eq_nil_of_length_eq_zero (by omega)
    subst this
    exact ⟨[], Srt.nil, Sst.refl _, Ev.succ Ev.ret⟩
  | succ n ih =>
    intro l hn hl
    by_cases h2 : l.length < 2
    · refine ⟨l, ?_, Sst.refl l, Ev.succ ?_⟩
      · match l, h2 with
        | [], _ => exact Srt.nil
        | [x], _ => exact Srt.one x
      · have hd : decide ((l.length : Int) < 2) = true := decide_eq_true (by omega)
        simp only [r03_Sorted, hd, if_true, pushN_ok (show ([] : List Entry).length + l.length ≤ 4691249611691 by rw [List.length_nil]; omega), Option.bind_some, List.nil_append]
        exact Ev.ret
    · have hd : decide ((l.length : Int) < 2) = false := decide_eq_false (by omega)
      have hm : w64 (Int.tdiv (l.length : Int) 2) = ((l.length / 2 : Nat) : Int) := by
        have : Int.tdiv (l.length : Int) 2 = ((l.length / 2 : Nat) : Int) := by
          rw [Int.tdiv_eq_ediv_of_nonneg (by omega)]; omega
        rw [this]; exact w64_of (by omega) (by omega)
      have hc1 : cut l 0 ((l.length / 2 : Nat) : Int) = some (l.take (l.length / 2)) := by
        unfold cut
        rw [if_pos ⟨by omega, by omega, by omega⟩, Int.toNat_natCast]
        rfl
      have hc2 : cut l ((l.length / 2 : Nat) : Int) (l.length : Int) = some (l.drop (l.length / 2)) := by
        unfold cut
        rw [if_pos ⟨by omega, by omega, by omega⟩, Int.toNat_natCast, Int.toNat_natCast, List.take_length]
      obtain ⟨a, a1, a2, a3⟩ := ih (l.take (l.length / 2)) (by rw [List.length_take]; omega) (by rw [List.length_take]; omega)
      obtain ⟨b, b1, b2, b3⟩ := ih (l.drop (l.length / 2)) (by rw [List.length_drop]; omega) (by rw [List.length_drop]; omega)
      have la := a2.len
      have lb := b2.len
      rw [List.length_take] at la
      rw [List.length_drop] at lb
      obtain ⟨m, m1, m2, m3⟩ := merge_ev _ a b [] rfl (by rw [List.length_nil]; omega) a1 b1
      refine ⟨m, m1, Sst.trans ?_ m2, Ev.succ ?_⟩
      · have := a2.app b2
        rwa [List.take_append_drop] at this
      · simp only [r03_Sorted, hd, Bool.false_eq_true, if_false, hm, hc1, hc2, Option.bind_some, Jn]
        refine Ev.bind a3 ?_
        refine Ev.bind b3 ?_
        simpa using m3
theorem sort_both (l : List Entry) (hl : l.length ≤ 4691249611691) : ∃ m, Srt ltE m ∧ Sst ltE l m ∧ Ev (fun k => ikey_Sorted k l) m ∧ Ev (fun k => r03_Sorted k l) m := by
  obtain ⟨m, h1, h2, h3⟩ := isort_ev l hl
  obtain ⟨m', g1, g2, g3⟩ := rsort_ev _ l (Nat.le_refl _) hl
  have : m = m' := Sst.uniq wo_E h1 g1 (h2.symm.trans g2)
  subst this
  exact ⟨m, h1, h2, h3, g3⟩
end Go.Proofs.Ytfofolmagnaimaa.Mo

set_option maxRecDepth 100000
namespace Go.Proofs.Ytfofolmagnaimaa.Mo
open Go Go.Proofs.Ytfofolmagnaimaa.Sy
/-- Does a file bear on a key? -/
def bearsOn (key : ByteArray) (f : File) : Bool := (sLt f.Least key || sEq f.Least key) && sLt key f.Limit
theorem indexf_l0 (l : List File) (q : File → Bool) (hm : l.length ≤ maxLen) : ∀ (s p : List File) (k : Nat), l = p ++ s → s.length < k → ∃ r, slices_IndexFunc_File.l0 l (fun x => some (q x)) k (p.length : Int) = some r ∧ (0 ≤ r ↔ s.any q = true) := by
  intro s
  induction s with
  | nil =>
    intro p k hl hk
    subst hl
    obtain ⟨k, rfl⟩ : ∃ j, k = j + 1 := ⟨k - 1, by simp at hk; omega⟩
    unfold slices_IndexFunc_File.l0
    rw [lt_end]
    exact ⟨-1, by simp, by simp⟩
  | cons x s ih =>
    intro p k hl hk
    obtain ⟨k, rfl⟩ : ∃ j, k = j + 1 := ⟨k - 1, by simp at hk; omega⟩
    subst hl
    unfold slices_IndexFunc_File.l0
    rw [lt_at, idx_at, step_at p s x hm]
    simp only [if_true, Option.bind_some]
    by_cases h : q x = true
    · exact ⟨p.length, by simp [h], by simp [h]⟩
    · obtain ⟨r, h1, h2⟩ := ih (p ++ [x]) k (by simp) (by simp at hk; omega)
      refine ⟨r, ?_, ?_⟩
      · simpa [h] using h1
      · rw [h2]; simp [h]
theorem drop_bears (l : List File) (key : ByteArray) (hm : l.length ≤ maxLen) (k : Nat) (hk : l.length < k) : drop_Bears k l key = some (l.any (bearsOn key)) := by
  obtain ⟨r, h1, h2⟩ := indexf_l0 l (bearsOn key) hm l [] k rfl hk
  unfold drop_Bears slices_ContainsFunc_File slices_IndexFunc_File
  have h1' : slices_IndexFunc_File.l0 l (fun x0 => drop_Bears_1 x0 key) k 0 = some r := h1
  rw [h1']
  simp only [Option.bind_some, Option.some.injEq]
  by_cases h : 0 ≤ r
  · simp [h, h2.1 h]
  · have : l.any (bearsOn key) = false := by
      cases hb : l.any (bearsOn key) with
      | false => rfl
      | true => exact absurd (h2.2 hb) h
    simp [h, this]
end Go.Proofs.Ytfofolmagnaimaa.Mo

set_option maxRecDepth 100000
namespace Go.Proofs.Ytfofolmagnaimaa.Mo
open Go Go.Proofs.Ytfofolmagnaimaa.Sy
def uqI (l : List Int) : List Int := uq (fun x y : Int => x < y) l
def strN (l : List Int) (n : Int) : Nat := ((uqI l).filter fun x => decide (x < n)).length
theorem strN_le (l : List Int) (n : Int) : strN l n ≤ (uqI l).length := List.length_filter_le _ _
theorem cnt_at {U : List Int} {n : Int} {t : Nat} (h1 : ∀ x ∈ U.take t, x < n) (h2 : ∀ x ∈ U.drop t, ¬ x < n) (ht : t ≤ U.length) : (U.filter fun x => decide (x < n)).length = t := by
  conv => lhs; rw [← List.take_append_drop t U]
  rw [List.filter_append, List.filter_eq_self.2 (fun x hx => decide_eq_true (h1 x hx)), List.filter_eq_nil_iff.2 (fun x hx h => h2 x hx (of_decide_eq_true h)), List.append_nil, List.length_take]
  omega
theorem bin_l0 (U : List Int) (hU : U.Pairwise fun x y => x < y) (hl : U.length ≤ 1152921504606846976) (n : Int) : ∀ (m i j : Nat), j - i ≤ m → i ≤ j → j ≤ U.length → (∀ x ∈ U.take i, x < n) → (∀ x ∈ U.drop j, ¬ x < n) →
    ∃ b, Ev (fun k => slices_BinarySearch_uint64.l0 U n k i j) (((U.filter fun x => decide (x < n)).length : Int), b) := by
  have stop : ∀ i : Nat, i ≤ U.length → (∀ x ∈ U.take i, x < n) → (∀ x ∈ U.drop i, ¬ x < n) → ∃ b, Ev (fun k => slices_BinarySearch_uint64.l0 U n k i i) (((U.filter fun x => decide (x < n)).length : Int), b) := by
    intro i hi h1 h2
    rw [cnt_at h1 h2 hi]
    by_cases hc : i < U.length
    · by_cases he : (U[i] == n) = true
      · refine ⟨true, Ev.succ ?_⟩
        simp only [slices_BinarySearch_uint64.l0, Int.lt_irrefl, decide_false, Bool.false_eq_true, if_false, Jn, decT hc, if_true, getD_idx hc, Option.bind_some, he]
        exact Ev.ret
      · refine ⟨false, Ev.succ ?_⟩
        simp only [slices_BinarySearch_uint64.l0, Int.lt_irrefl, decide_false, Bool.false_eq_true, if_false, Jn, decT hc, if_true, getD_idx hc, Option.bind_some, he, slices_isNaN_uint64, bne_self_eq_false]
        exact Ev.ret
    · refine ⟨false, Ev.succ ?_⟩
      simp only [slices_BinarySearch_uint64.l0, Int.lt_irrefl, decide_false, Bool.false_eq_true, if_false, Jn, decF (show U.length ≤ i by omega)]
      exact Ev.ret
  intro m
  induction m with
  | zero =>
    intro i j hm hij hj h1 h2
    obtain rfl : i = j := by omega
    exact stop i hj h1 h2
  | succ m ih =>
    intro i j hm hij hj h1 h2
    by_cases e : i = j
    · subst e; exact stop i hj h1 h2
    · have hmid := mid_eq (i := i) (j := j) (by omega)
      have hlt : (i + j) / 2 < U.length := by omega
      have hpw := List.pairwise_iff_getElem.1 hU
      by_cases hc : U[(i + j) / 2] < n
      · obtain ⟨b, hb⟩ := ih ((i + j) / 2 + 1) j (by omega) (by omega) hj (fun x hx => by
          obtain ⟨q, hq, rfl⟩ := List.mem_iff_getElem.1 hx
          rw [List.length_take] at hq
          rw [List.getElem_take]
          by_cases hqe : q = (i + j) / 2
          · simp only [hqe]; exact hc
          · have := hpw q ((i + j) / 2) (by omega) hlt (by omega)
            omega) h2
        refine ⟨b, Ev.succ ?_⟩
        have hw : w64 ((((i + j) / 2 : Nat) : Int) + 1) = (((i + j) / 2 + 1 : Nat) : Int) := by rw [w64_of (by omega) (by omega)]; omega
        simp only [slices_BinarySearch_uint64.l0, decT (show i < j by omega), if_true, hmid, getD_idx hlt, Option.bind_some, less_uint64, hc, decide_true, hw]
        exact hb
      · obtain ⟨b, hb⟩ := ih i ((i + j) / 2) (by omega) (by omega) (by omega) h1 (fun x hx => by
          obtain ⟨q, hq, rfl⟩ := List.mem_iff_getElem.1 hx
          rw [List.length_drop] at hq
          rw [List.getElem_drop]
          by_cases hqe : q = 0
          · subst hqe; simpa using hc
          · have := hpw ((i + j) / 2) ((i + j) / 2 + q) hlt (by omega) (by omega)
            omega)
        refine ⟨b, Ev.succ ?_⟩
        simp only [slices_BinarySearch_uint64.l0, decT (show i < j by omega), if_true, hmid, getD_idx hlt, Option.bind_some, less_uint64, hc, decide_false, Bool.false_eq_true, if_false]
        exact hb
theorem stripe_ev (l : List Int) (hl : l.length ≤ 1152921504606846976) (n : Int) : Ev (fun k => drop_Entries_1 k n (uqI l)) (strN l n : Int) := by
  have hul : (uqI l).length ≤ l.length := uq_len l
  obtain ⟨b, hb⟩ := bin_l0 (uqI l) (uq_pw so_int l) (by omega) n _ 0 (uqI l).length (Nat.le_refl _) (Nat.zero_le _) (Nat.le_refl _) (by simp) (by simp)
  unfold drop_Entries_1 slices_BinarySearch_uint64
  exact Ev.bind hb Ev.ret
end Go.Proofs.Ytfofolmagnaimaa.Mo

set_option maxRecDepth 100000
namespace Go.Proofs.Ytfofolmagnaimaa.Mo
open Go Go.Proofs.Ytfofolmagnaimaa.Sy
def okTm (t : Tomb) : Bool := (tomb_Valid t).getD false
theorem tvalid_eq (t : Tomb) : tomb_Valid t = some (okTm t) := rfl
section
variable (S : List Int) (B : List File) (T : List Tomb)
def bearsAny (key : ByteArray) : Bool := B.any (bearsOn key)
def sameB (e j : Entry) : Bool := sEq j.Key e.Key && decide (strN S j.Seq = strN S e.Seq)
def hitB (e : Entry) (t : Tomb) : Bool := decide (e.Seq < t.Seq) && ((sLt t.Begin e.Key || sEq t.Begin e.Key) && (sLt e.Key t.End && decide (strN S t.Seq = strN S e.Seq)))
def outB (p : List Entry) (e : Entry) : Bool := ((e.Kind == 0) && decide (strN S e.Seq = 0) && !bearsAny B e.Key) || p.any (sameB S e) || T.any (hitB S e)
def keepB (p : List Entry) (e : Entry) : Bool := decide (strN S e.Seq = (uqI S).length) || !outB S B T p e
def keepG : List Entry → List Entry → List Entry
  | _, [] => []
  | p, e :: s => (if keepB S B T p e = true then [e] else []) ++ keepG (p ++ [e]) s
theorem keepG_len : ∀ (s p : List Entry), (keepG S B T p s).length ≤ s.length
  | [], _ => by simp [keepG]
  | e :: s, p => by
    have := keepG_len s (p ++ [e])
    rw [keepG, List.length_append, List.length_cons]
    split <;> simp <;> omega
def touchB (t : Tomb) : Bool := B.any fun f => sLt f.Least t.End && !(sLt f.Limit t.Begin || sEq f.Limit t.Begin)
def deadB (t : Tomb) : Bool := decide (strN S t.Seq = (uqI S).length) || decide (strN S t.Seq ≠ 0) || touchB B t
end
theorem nat_beq (a b : Nat) : (((a : Int) == (b : Int))) = decide (a = b) := by
  rw [Bool.eq_iff_iff, beq_iff_eq, decide_eq_true_eq, Int.natCast_inj]
end Go.Proofs.Ytfofolmagnaimaa.Mo

set_option maxRecDepth 100000
namespace Go.Proofs.Ytfofolmagnaimaa.Mo
open Go Go.Proofs.Ytfofolmagnaimaa.Sy
def covB (e : Entry) (M : Int) (t : Tomb) : Bool := ((okTm t && decide (t.Seq ≤ M)) && (sLt t.Begin e.Key || sEq t.Begin e.Key)) && sLt e.Key t.End
theorem cover_l0 (L : List Tomb) (hL : L.length ≤ 3518437208883) (e : Entry) (he : 0 ≤ e.Seq) (M : Int) : ∀ (s p : List Tomb) (i : Int) (b : Bool), L = p ++ s → (b = false → i = 0) →
    ∃ r : Int × Bool, Ev (fun k => tomb_Cover.l0 L e.Key M k i b p.length) r ∧ (r.2 && decide (e.Seq < r.1)) = ((b && decide (e.Seq < i)) || s.any fun t => covB e M t && decide (e.Seq < t.Seq))
  | [], p, i, b, hp, hb => by
    have e1 : decide ((p.length : Int) < (L.length : Int)) = false := by rw [hp]; exact lt_end p
    refine ⟨(i, b), Ev.succ ?_, by simp⟩
    simp only [tomb_Cover.l0, e1, Bool.false_eq_true, if_false]
    exact Ev.ret
  | x :: s, p, i, b, hp, hb => by
    have e1 : decide ((p.length : Int) < (L.length : Int)) = true := by rw [hp]; exact lt_at p s x
    have e2 : idx L (p.length : Int) = some x := by rw [hp]; exact idx_at p x s
    have hw := step_at p s x (by rw [← hp, maxLen_val]; omega)
    by_cases h : covB e M x = true
    · obtain ⟨r, r1, r2⟩ := cover_l0 L hL e he M s (p ++ [x]) (maxI i x.Seq) true (by simp [hp]) (fun h => by cases h)
      refine ⟨r, Ev.succ ?_, ?_⟩
      · simp only [tomb_Cover.l0, e1, e2, if_true, Option.bind_some, tvalid_eq, Jn, hw]
        exact Ev.pos (show (((okTm x && decide (x.Seq ≤ M)) && (sLt x.Begin e.Key || sEq x.Begin e.Key)) && sLt e.Key x.End) = true from h) r1
      · rw [r2, List.any_cons, h, Bool.true_and, Bool.true_and, ← Bool.or_assoc]
        congr 1
        have hm : decide (e.Seq < maxI i x.Seq) = (decide (e.Seq < i) || decide (e.Seq < x.Seq)) := by
          rw [Bool.eq_iff_iff, Bool.or_eq_true, decide_eq_true_eq, decide_eq_true_eq, decide_eq_true_eq]
          unfold maxI
          split <;> omega
        rw [hm]
        cases b with
        | true => rfl
        | false =>
          rw [hb rfl]
          have : decide (e.Seq < 0) = false := decide_eq_false (by omega)
          rw [this]
          rfl
    · obtain ⟨r, r1, r2⟩ := cover_l0 L hL e he M s (p ++ [x]) i b (by simp [hp]) hb
      have hf := Bool.eq_false_iff.2 h
      refine ⟨r, Ev.succ ?_, ?_⟩
      · simp only [tomb_Cover.l0, e1, e2, if_true, Option.bind_some, tvalid_eq, Jn, hw]
        exact Ev.neg (show ¬ (((okTm x && decide (x.Seq ≤ M)) && (sLt x.Begin e.Key || sEq x.Begin e.Key)) && sLt e.Key x.End) = true from h) r1
      · rw [r2, List.any_cons, hf, Bool.false_and, Bool.false_or]
theorem ok_seq {t : Tomb} (h : okTm t = true) : t.Seq ≤ 72057594037927935 := by
  simp only [okTm, tomb_Valid, Option.getD_some, Bool.and_eq_true, decide_eq_true_eq] at h
  exact h.2
theorem cover_ev (S : List Int) (V : List Tomb) (hV : ∀ t ∈ V, okTm t = true) (hl : V.length ≤ 3518437208883) (e : Entry) (he : 0 ≤ e.Seq) :
    ∃ r : Int × Bool, Ev (fun k => tomb_Cover k (V.filter fun t => decide (strN S t.Seq = strN S e.Seq)) e.Key 72057594037927935) r ∧ (r.2 && decide (e.Seq < r.1)) = V.any (hitB S e) := by
  obtain ⟨r, r1, r2⟩ := cover_l0 (V.filter fun t => decide (strN S t.Seq = strN S e.Seq)) (Nat.le_trans (List.length_filter_le _ _) hl) e he 72057594037927935 _ [] 0 false rfl (fun _ => rfl)
  refine ⟨r, r1, ?_⟩
  rw [r2, Bool.false_and, Bool.false_or, List.any_filter]
  rw [Bool.eq_iff_iff, List.any_eq_true, List.any_eq_true]
  constructor
  · rintro ⟨t, ht, h⟩
    refine ⟨t, ht, ?_⟩
    simp only [covB, hitB, Bool.and_eq_true] at h ⊢
    exact ⟨h.2.2, h.2.1.1.2, h.2.1.2, h.1⟩
  · rintro ⟨t, ht, h⟩
    refine ⟨t, ht, ?_⟩
    simp only [covB, hitB, Bool.and_eq_true] at h ⊢
    exact ⟨h.2.2.2, ⟨⟨⟨hV t ht, decide_eq_true (ok_seq (hV t ht))⟩, h.2.1⟩, h.2.2.1⟩, h.1⟩
theorem strN_mono (S : List Int) {a b : Int} (h : a ≤ b) : strN S a ≤ strN S b := by
  unfold strN
  rw [← List.countP_eq_length_filter, ← List.countP_eq_length_filter]
  refine List.countP_mono_left fun x _ hx => ?_
  rw [decide_eq_true_eq] at hx ⊢
  omega
theorem ahead (S : List Int) {p : List Entry} {x e : Entry} (h : Srt ltE (p ++ [x] ++ [e])) : (p ++ [x]).any (sameB S e) = sameB S e x := by
  rw [Bool.eq_iff_iff, List.any_eq_true]
  constructor
  · rintro ⟨j, hj, hs⟩
    rcases List.mem_append.1 hj with hj | hj
    · simp only [sameB, Bool.and_eq_true, sEq_iff, decide_eq_true_eq] at hs ⊢
      rw [List.append_assoc] at h
      obtain ⟨_, h2, h3⟩ := Srt.app.1 h
      have h4 : ¬ ltE x j := h3 j hj x (by simp)
      have h5 : ¬ ltE e x := (List.pairwise_cons.1 h2).1 e (by simp)
      rw [ltE_iff] at h4 h5
      have k1 : x.Key = e.Key := by
        rcases slt_tri x.Key j.Key with g | g | g
        · exact absurd (.inl g) h4
        · rw [g]; exact hs.1
        · rw [hs.1] at g
          exact absurd (.inl g) h5
      have k2 : x.Seq ≤ j.Seq := by
        refine Int.not_lt.1 fun g => h4 (.inr ⟨k1.trans hs.1.symm, .inl g⟩)
      have k3 : e.Seq ≤ x.Seq := by
        refine Int.not_lt.1 fun g => h5 (.inr ⟨k1.symm, .inl g⟩)
      refine ⟨k1, ?_⟩
      have := strN_mono S k2
      have := strN_mono S k3
      omega
    · simp only [List.mem_singleton] at hj
      subst hj
      exact hs
  · intro hs
    exact ⟨x, by simp, hs⟩
def bucket (S : List Int) (V : List Tomb) : List (List Tomb) := (List.range ((uqI S).length + 1)).map fun i => V.filter fun x => decide (strN S x.Seq = i)
theorem bucket_nil (S : List Int) : bucket S [] = List.replicate ((uqI S).length + 1) [] := by
  unfold bucket
  rw [List.eq_replicate_iff]
  refine ⟨by simp, fun b hb => ?_⟩
  obtain ⟨i, _, rfl⟩ := List.mem_map.1 hb
  rfl
theorem bucket_at (S : List Int) (V : List Tomb) (n : Int) : (bucket S V)[strN S n]? = some (V.filter fun x => decide (strN S x.Seq = strN S n)) := by
  have := strN_le S n
  unfold bucket
  rw [List.getElem?_map, List.getElem?_range (by omega)]
  rfl
theorem bucket_idx (S : List Int) (V : List Tomb) (n : Int) : idx (bucket S V) (strN S n : Int) = some (V.filter fun x => decide (strN S x.Seq = strN S n)) := by
  rw [idx_nat, bucket_at]
theorem bucket_put (S : List Int) (V : List Tomb) (x : Tomb) : upd (bucket S V) (strN S x.Seq : Int) (V.filter (fun y => decide (strN S y.Seq = strN S x.Seq)) ++ [x]) = some (bucket S (V ++ [x])) := by
  have hn := strN_le S x.Seq
  have hlen : (bucket S V).length = (uqI S).length + 1 := by simp [bucket]
  unfold upd
  rw [if_pos ⟨by omega, by rw [hlen]; omega⟩, Int.toNat_natCast]
  congr 1
  refine List.ext_getElem? fun j => ?_
  rw [List.getElem?_set]
  by_cases hj : strN S x.Seq = j
  · subst hj
    rw [if_pos rfl, if_pos (by rw [hlen]; omega), bucket_at, List.filter_append]
    simp
  · rw [if_neg hj]
    unfold bucket
    rw [List.getElem?_map, List.getElem?_map]
    cases hr : (List.range ((uqI S).length + 1))[j]? with
    | none => rfl
    | some i =>
      have hij : i = j := by
        have h1 := (List.getElem?_eq_some_iff.1 hr)
        obtain ⟨h1, h2⟩ := h1
        rw [List.getElem_range] at h2
        exact h2.symm
      subst hij
      have hx : ¬ decide (strN S x.Seq = i) = true := by simpa using hj
      simp only [Option.map_some, List.filter_append, List.filter_cons, if_neg hx, List.filter_nil, List.append_nil]
end Go.Proofs.Ytfofolmagnaimaa.Mo

set_option maxRecDepth 100000
namespace Go.Proofs.Ytfofolmagnaimaa.Mo
open Go Go.Proofs.Ytfofolmagnaimaa.Sy
theorem dtouch_ev (B : List File) (hB : B.length ≤ 3518437208883) (t : Tomb) : Ev (fun k => drop_touched k B t) (touchB B t) := by
  refine ⟨B.length + 1, fun k hk => ?_⟩
  obtain ⟨r, h1, h2⟩ := indexf_l0 B (fun f => sLt f.Least t.End && !(sLt f.Limit t.Begin || sEq f.Limit t.Begin)) (by rw [maxLen_val]; omega) B [] k rfl (by omega)
  have h1' : slices_IndexFunc_File.l0 B (fun x => drop_touched_1 x t) k 0 = some r := h1
  unfold drop_touched slices_ContainsFunc_File slices_IndexFunc_File
  show ((slices_IndexFunc_File.l0 B (fun x0 => drop_touched_1 x0 t) k 0).bind fun r1 => some (decide (0 ≤ r1))).bind _ = _
  rw [h1']
  simp only [Option.bind_some, Option.some.injEq]
  unfold touchB
  by_cases h : 0 ≤ r
  · rw [h2.1 h]; exact decide_eq_true h
  · have : (B.any fun f => sLt f.Least t.End && !(sLt f.Limit t.Begin || sEq f.Limit t.Begin)) = false := by
      cases hb : B.any fun f => sLt f.Least t.End && !(sLt f.Limit t.Begin || sEq f.Limit t.Begin) with
      | false => rfl
      | true => exact absurd (h2.2 hb) h
    rw [this]
    exact decide_eq_false h
theorem db_ev (B : List File) (hB : B.length ≤ 3518437208883) (key : ByteArray) : Ev (fun k => drop_Bears k B key) (bearsAny B key) :=
  ⟨B.length + 1, fun k hk => drop_bears B key (by rw [maxLen_val]; omega) k (by omega)⟩
section
variable (l : List Entry) (hl : l.length ≤ 3518437208883) (t : List Tomb) (ht : t.length ≤ 3518437208883) (a2 : drop_Rule) (hS : a2.Snaps.length ≤ 3518437208883) (hB : a2.Below.length ≤ 3518437208883)
include hl ht hS hB
theorem d_l1 (V : List Tomb) (hV : V.length ≤ 3518437208883) (R : List Entry × List Tomb) : ∀ (s p acc : List Tomb) (J : Nat → List Tomb → Option (List Entry × List Tomb)), V = p ++ s → acc.length ≤ p.length → Ev (fun k => J k (acc ++ s.filter (deadB a2.Snaps a2.Below))) R → Ev (fun k => drop_Entries.l1 a2 (uqI a2.Snaps) V (J k) k acc p.length) R
  | [], p, acc, J, hp, ha, hJ => by
    have e1 : decide ((p.length : Int) < (V.length : Int)) = false := by rw [hp]; exact lt_end p
    refine Ev.succ ?_
    simp only [drop_Entries.l1, e1, Bool.false_eq_true, if_false]
    simpa using hJ.shift
  | x :: s, p, acc, J, hp, ha, hJ => by
    have e1 : decide ((p.length : Int) < (V.length : Int)) = true := by rw [hp]; exact lt_at p s x
    have e2 : idx V (p.length : Int) = some x := by rw [hp]; exact idx_at p x s
    have hpl : p.length + 1 ≤ V.length := by rw [hp]; simp
    have hw := step_at p s x (by rw [← hp, maxLen_val]; omega)
    have yes : deadB a2.Snaps a2.Below x = true → Ev (fun k => (push 5629499534059 acc x).bind fun l3482 => drop_Entries.l1 a2 (uqI a2.Snaps) V (J (k + 1)) k l3482 (w64 ((p.length : Int) + 1))) R := fun h => by
      simp only [push_ok (show acc.length < 5629499534059 by omega), Option.bind_some, hw]
      refine d_l1 V hV R s (p ++ [x]) (acc ++ [x]) (fun k => J (k + 1)) (by simp [hp]) (by simp; omega) ?_
      have := hJ.shift
      simpa [h] using this
    have no : deadB a2.Snaps a2.Below x = false → Ev (fun k => drop_Entries.l1 a2 (uqI a2.Snaps) V (J (k + 1)) k acc (w64 ((p.length : Int) + 1))) R := fun h => by
      rw [hw]
      refine d_l1 V hV R s (p ++ [x]) acc (fun k => J (k + 1)) (by simp [hp]) (by simp; omega) ?_
      have := hJ.shift
      simpa [h] using this
    refine Ev.succ ?_
    simp only [drop_Entries.l1, e1, e2, if_true, Option.bind_some, Jn]
    refine Ev.bind (stripe_ev a2.Snaps (by omega) x.Seq) ?_
    have hle := strN_le a2.Snaps x.Seq
    by_cases h0 : strN a2.Snaps x.Seq = 0 ∧ 0 < (uqI a2.Snaps).length
    · have c : (((strN a2.Snaps x.Seq : Int) == 0) && decide (0 < ((uqI a2.Snaps).length : Int))) = true := by
        rw [h0.1]; simp; omega
      simp only [c, if_true]
      refine Ev.bind (dtouch_ev a2.Below hB x) ?_
      have hne : ¬ strN a2.Snaps x.Seq = (uqI a2.Snaps).length := by omega
      cases h3 : touchB a2.Below x with
      | true => simp only [Bool.not_true, Bool.false_eq_true, if_false]; exact yes (by unfold deadB; rw [h3]; simp)
      | false => simp only [Bool.not_false, if_true]; exact no (by unfold deadB; rw [h3, decide_eq_false hne]; simp [h0.1])
    · have c : (((strN a2.Snaps x.Seq : Int) == 0) && decide (0 < ((uqI a2.Snaps).length : Int))) = false := by
        rw [Bool.eq_false_iff]
        intro h
        rw [Bool.and_eq_true, beq_iff_eq, decide_eq_true_eq] at h
        exact h0 ⟨by omega, by omega⟩
      simp only [c, Bool.false_eq_true, if_false]
      refine yes ?_
      unfold deadB
      by_cases h1 : strN a2.Snaps x.Seq = 0
      · have : strN a2.Snaps x.Seq = (uqI a2.Snaps).length := by
          have : ¬ 0 < (uqI a2.Snaps).length := fun h => h0 ⟨h1, h⟩
          omega
        rw [decide_eq_true this]; rfl
      · rw [decide_eq_true h1, Bool.or_true]; rfl
theorem d_l2 (V : List Tomb) (hV : V.length ≤ 3518437208883) (hok : ∀ t ∈ V, okTm t = true) (m : List Entry) (hm : m.length ≤ 3518437208883) (hs : Srt ltE m) (hq : ∀ e ∈ m, 0 ≤ e.Seq) (R : List Entry × List Tomb) : ∀ (s p acc : List Entry) (J : Nat → List Entry → Option (List Entry × List Tomb)), m = p ++ s → acc.length ≤ p.length → Ev (fun k => J k (acc ++ keepG a2.Snaps a2.Below V p s)) R → Ev (fun k => drop_Entries.l2 a2 (uqI a2.Snaps) (bucket a2.Snaps V) m (J k) k acc p.length) R
  | [], p, acc, J, hp, ha, hJ => by
    have e1 : decide ((p.length : Int) < (m.length : Int)) = false := by rw [hp]; exact lt_end p
    refine Ev.succ ?_
    simp only [drop_Entries.l2, e1, Bool.false_eq_true, if_false]
    simpa [keepG] using hJ.shift
  | e :: s, p, acc, J, hp, ha, hJ => by
    have e1 : decide ((p.length : Int) < (m.length : Int)) = true := by rw [hp]; exact lt_at p s e
    have e2 : idx m (p.length : Int) = some e := by rw [hp]; exact idx_at p e s
    have hpl : p.length + 1 ≤ m.length := by rw [hp]; simp
    have hw := step_at p s e (by rw [← hp, maxLen_val]; omega)
    have he : 0 ≤ e.Seq := hq e (by rw [hp]; simp)
    have yes : keepB a2.Snaps a2.Below V p e = true → Ev (fun k => (push 4691249611691 acc e).bind fun l4049 => drop_Entries.l2 a2 (uqI a2.Snaps) (bucket a2.Snaps V) m (J (k + 1)) k l4049 (w64 ((p.length : Int) + 1))) R := fun h => by
      simp only [push_ok (show acc.length < 4691249611691 by omega), Option.bind_some, hw]
      refine d_l2 V hV hok m hm hs hq R s (p ++ [e]) (acc ++ [e]) (fun k => J (k + 1)) (by simp [hp]) (by simp; omega) ?_
      have := hJ.shift
      simpa [keepG, h] using this
    have no : keepB a2.Snaps a2.Below V p e = false → Ev (fun k => drop_Entries.l2 a2 (uqI a2.Snaps) (bucket a2.Snaps V) m (J (k + 1)) k acc (w64 ((p.length : Int) + 1))) R := fun h => by
      rw [hw]
      refine d_l2 V hV hok m hm hs hq R s (p ++ [e]) acc (fun k => J (k + 1)) (by simp [hp]) (by simp; omega) ?_
      have := hJ.shift
      simpa [keepG, h] using this
    refine Ev.succ ?_
    simp only [drop_Entries.l2, e1, e2, if_true, Option.bind_some, Jn]
    refine Ev.bind (stripe_ev a2.Snaps (by omega) e.Seq) ?_
    by_cases h1 : strN a2.Snaps e.Seq = (uqI a2.Snaps).length
    · have c : ((strN a2.Snaps e.Seq : Int) == ((uqI a2.Snaps).length : Int)) = true := by rw [nat_beq]; exact decide_eq_true h1
      simp only [c, if_true]
      exact yes (by simp [keepB, h1])
    · have c : ((strN a2.Snaps e.Seq : Int) == ((uqI a2.Snaps).length : Int)) = false := by rw [nat_beq]; exact decide_eq_false h1
      simp only [c, Bool.false_eq_true, if_false]
      have h0 : (((strN a2.Snaps e.Seq : Nat) : Int) == 0) = decide (strN a2.Snaps e.Seq = 0) := nat_beq _ 0
      have kb : keepB a2.Snaps a2.Below V p e = !outB a2.Snaps a2.Below V p e := by simp [keepB, h1]
      -- behind the question of the one ahead
      have rest : p.any (sameB a2.Snaps e) = false → Ev (fun k => if (((strN a2.Snaps e.Seq : Int) == 0) && (e.Kind == 0)) = true then ((drop_Bears k a2.Below e.Key).bind fun r4081 => if (!r4081) = true then (drop_Entries.l2 a2 (uqI a2.Snaps) (bucket a2.Snaps V) m (J (k + 1)) k acc (w64 ((p.length : Int) + 1))) else ((idx (bucket a2.Snaps V) (strN a2.Snaps e.Seq : Int)).bind fun x4071 => (tomb_Cover k x4071 e.Key 72057594037927935).bind fun r4076 => if (r4076.2 && (decide (e.Seq < r4076.1))) = true then (drop_Entries.l2 a2 (uqI a2.Snaps) (bucket a2.Snaps V) m (J (k + 1)) k acc (w64 ((p.length : Int) + 1))) else ((push 4691249611691 acc e).bind fun l4049 => drop_Entries.l2 a2 (uqI a2.Snaps) (bucket a2.Snaps V) m (J (k + 1)) k l4049 (w64 ((p.length : Int) + 1))))) else (if false = true then (drop_Entries.l2 a2 (uqI a2.Snaps) (bucket a2.Snaps V) m (J (k + 1)) k acc (w64 ((p.length : Int) + 1))) else ((idx (bucket a2.Snaps V) (strN a2.Snaps e.Seq : Int)).bind fun x4071 => (tomb_Cover k x4071 e.Key 72057594037927935).bind fun r4076 => if (r4076.2 && (decide (e.Seq < r4076.1))) = true then (drop_Entries.l2 a2 (uqI a2.Snaps) (bucket a2.Snaps V) m (J (k + 1)) k acc (w64 ((p.length : Int) + 1))) else ((push 4691249611691 acc e).bind fun l4049 => drop_Entries.l2 a2 (uqI a2.Snaps) (bucket a2.Snaps V) m (J (k + 1)) k l4049 (w64 ((p.length : Int) + 1)))))) R := by
        intro hany
        obtain ⟨r, r1, r2⟩ := cover_ev a2.Snaps V hok hV e he
        have cov : ((e.Kind == 0) && decide (strN a2.Snaps e.Seq = 0) && !bearsAny a2.Below e.Key) = false → Ev (fun k => (idx (bucket a2.Snaps V) (strN a2.Snaps e.Seq : Int)).bind fun x4071 => (tomb_Cover k x4071 e.Key 72057594037927935).bind fun r4076 => if (r4076.2 && (decide (e.Seq < r4076.1))) = true then (drop_Entries.l2 a2 (uqI a2.Snaps) (bucket a2.Snaps V) m (J (k + 1)) k acc (w64 ((p.length : Int) + 1))) else ((push 4691249611691 acc e).bind fun l4049 => drop_Entries.l2 a2 (uqI a2.Snaps) (bucket a2.Snaps V) m (J (k + 1)) k l4049 (w64 ((p.length : Int) + 1)))) R := by
          intro hd
          refine Ev.bind0 (bucket_idx a2.Snaps V e.Seq) ?_
          refine Ev.bind r1 ?_
          rw [r2]
          cases h : V.any (hitB a2.Snaps e) with
          | true => simp only [if_true]; exact no (by rw [kb]; unfold outB; rw [h, Bool.or_true]; rfl)
          | false => simp only [Bool.false_eq_true, if_false]; exact yes (by rw [kb]; unfold outB; rw [hd, hany, h]; rfl)
        rw [h0]
        by_cases hk : (decide (strN a2.Snaps e.Seq = 0) && (e.Kind == 0)) = true
        · simp only [hk, if_true]
          refine Ev.bind (db_ev a2.Below hB e.Key) ?_
          rw [Bool.and_comm] at hk
          cases h : bearsAny a2.Below e.Key with
          | true => simp only [Bool.not_true, Bool.false_eq_true, if_false]; exact cov (by rw [h]; simp)
          | false => simp only [Bool.not_false, if_true]; exact no (by rw [kb]; unfold outB; rw [hk, h]; rfl)
        · simp only [hk, if_false, Bool.false_eq_true]
          rw [Bool.and_comm] at hk
          exact cov (by rw [Bool.eq_false_iff.2 hk]; rfl)
      rcases nil_or_snoc p with hpn | ⟨q, x, hpx⟩
      · have z : decide ((0 : Int) < ((p.length : Nat) : Int)) = false := by rw [hpn]; decide
        simp only [z, Bool.false_eq_true, if_false]
        exact rest (by rw [hpn]; rfl)
      · have z : decide ((0 : Int) < ((p.length : Nat) : Int)) = true := by rw [hpx]; exact pos_snoc q x
        have hbk : w64 ((p.length : Int) - 1) = (q.length : Int) := by rw [hpx]; exact back_at q s x e (by rw [← hpx, ← hp, maxLen_val]; omega)
        have e3 : idx m (q.length : Int) = some x := by rw [hp, hpx, List.append_assoc]; exact idx_at q x _
        have hah : p.any (sameB a2.Snaps e) = sameB a2.Snaps e x := by
          rw [hpx]
          refine ahead a2.Snaps ?_
          rw [hp, hpx] at hs
          have : Srt ltE ((q ++ [x] ++ [e]) ++ s) := by simpa using hs
          exact (Srt.app.1 this).1
        simp only [z, if_true, hbk, e3, Option.bind_some]
        by_cases hkey : sEq x.Key e.Key = true
        · simp only [hkey, if_true]
          refine Ev.bind (stripe_ev a2.Snaps (by omega) x.Seq) ?_
          rw [nat_beq]
          by_cases hst : strN a2.Snaps x.Seq = strN a2.Snaps e.Seq
          · simp only [hst, decide_true, if_true]
            exact no (by
              rw [kb]; unfold outB
              rw [hah]; simp [sameB, hkey, hst])
          · simp only [hst, decide_false, Bool.false_eq_true, if_false]
            exact rest (by rw [hah]; simp [sameB, hst])
        · simp only [hkey, if_false, Bool.false_eq_true]
          exact rest (by rw [hah]; simp [sameB, hkey])
theorem d_l0 (m : List Entry) (hm : Ev (fun k => ikey_Sorted k l) m) (hml : m.length = l.length) (hs : Srt ltE m) (hq : ∀ e ∈ m, 0 ≤ e.Seq) : ∀ (s p : List Tomb), t = p ++ s → Ev (fun k => drop_Entries.l0 l t a2 (uqI a2.Snaps) k (bucket a2.Snaps (p.filter okTm)) (p.filter okTm) p.length) (keepG a2.Snaps a2.Below (t.filter okTm) [] m, (t.filter okTm).filter (deadB a2.Snaps a2.Below))
  | [], p, hp => by
    have e1 : decide ((p.length : Int) < (t.length : Int)) = false := by rw [hp]; exact lt_end p
    have hpt : p = t := by rw [hp]; simp
    have hV : (t.filter okTm).length ≤ 3518437208883 := Nat.le_trans (List.length_filter_le _ _) ht
    refine Ev.succ ?_
    simp only [drop_Entries.l0, e1, Bool.false_eq_true, if_false, Jn]
    refine Ev.bind hm ?_
    rw [hpt]
    refine d_l2 l hl t ht a2 hS hB (t.filter okTm) hV (fun x hx => (List.mem_filter.1 hx).2) m (by omega) hs hq _ m [] [] (fun k l_1239 => drop_Entries.l1 a2 (uqI a2.Snaps) (t.filter okTm) (fun l_1394 => some (l_1239, l_1394)) k [] 0) rfl (Nat.le_refl _) ?_
    refine d_l1 l hl t ht a2 hS hB (t.filter okTm) hV _ (t.filter okTm) [] [] (fun k l_1394 => some ([] ++ keepG a2.Snaps a2.Below (t.filter okTm) [] m, l_1394)) rfl (Nat.le_refl _) ?_
    simp only [List.nil_append]
    exact Ev.ret
  | x :: s, p, hp => by
    have e1 : decide ((p.length : Int) < (t.length : Int)) = true := by rw [hp]; exact lt_at p s x
    have e2 : idx t (p.length : Int) = some x := by rw [hp]; exact idx_at p x s
    have hpl : p.length + 1 ≤ t.length := by rw [hp]; simp
    have hfl : (p.filter okTm).length ≤ p.length := List.length_filter_le _ _
    have hw := step_at p s x (by rw [← hp, maxLen_val]; omega)
    have ih := d_l0 m hm hml hs hq s (p ++ [x]) (by simp [hp])
    refine Ev.succ ?_
    simp only [drop_Entries.l0, e1, e2, if_true, Option.bind_some, tvalid_eq, Jn, hw]
    by_cases h : okTm x = true
    · have hfx : (p ++ [x]).filter okTm = p.filter okTm ++ [x] := by simp [h]
      rw [hfx] at ih
      simp only [h, if_true, push_ok (show (p.filter okTm).length < 5629499534059 by omega), Option.bind_some]
      refine Ev.bind (stripe_ev a2.Snaps (by omega) x.Seq) ?_
      refine Ev.bind0 (bucket_idx a2.Snaps _ x.Seq) ?_
      have hbl : ((p.filter okTm).filter fun y => decide (strN a2.Snaps y.Seq = strN a2.Snaps x.Seq)).length ≤ (p.filter okTm).length := List.length_filter_le _ _
      refine Ev.bind0 (push_ok (by omega)) ?_
      refine Ev.bind0 (bucket_idx a2.Snaps _ x.Seq) ?_
      refine Ev.bind0 (bucket_put a2.Snaps _ x) ?_
      exact ih
    · have hfx : (p ++ [x]).filter okTm = p.filter okTm := by simp [h]
      rw [hfx] at ih
      simp only [h, if_false, Bool.false_eq_true]
      exact ih
theorem d_l3 (R : List Entry × List Tomb) : ∀ (s p : List Int) (J : Nat → List Int → Option (List Entry × List Tomb)), a2.Snaps = p ++ s → Ev (fun k => J k a2.Snaps) R → Ev (fun k => drop_Entries.l3 a2 (J k) k p.length p) R
  | [], p, J, hp, hJ => by
    have e1 : decide ((p.length : Int) < (a2.Snaps.length : Int)) = false := by rw [hp]; exact lt_end p
    refine Ev.succ ?_
    simp only [drop_Entries.l3, e1, Bool.false_eq_true, if_false]
    rw [List.append_nil] at hp
    rw [← hp]
    exact hJ.shift
  | x :: s, p, J, hp, hJ => by
    have e1 : decide ((p.length : Int) < (a2.Snaps.length : Int)) = true := by rw [hp]; exact lt_at p s x
    have e2 : idx a2.Snaps (p.length : Int) = some x := by rw [hp]; exact idx_at p x s
    have hpl : p.length + 1 ≤ a2.Snaps.length := by rw [hp]; simp
    refine Ev.succ ?_
    simp only [drop_Entries.l3, e1, e2, if_true, Option.bind_some, Jn, Bool.not_true, Bool.false_eq_true, if_false, push_ok (show p.length < 28147497670912 by omega), step_at p s x (by rw [← hp, maxLen_val]; omega)]
    exact d_l3 R s (p ++ [x]) (fun k => J (k + 1)) (by simp [hp]) hJ.shift
theorem dent_ev (m : List Entry) (hm : Ev (fun k => ikey_Sorted k l) m) (hml : m.length = l.length) (hs : Srt ltE m) (hq : ∀ e ∈ m, 0 ≤ e.Seq) :
    Ev (fun k => drop_Entries k l t a2) (keepG a2.Snaps a2.Below (t.filter okTm) [] m, (t.filter okTm).filter (deadB a2.Snaps a2.Below)) := by
  unfold drop_Entries
  simp only [Jn]
  refine d_l3 l hl t ht a2 hS hB _ a2.Snaps [] (fun k l_885 => (slices_Sort_uint64 k l_885).bind fun r1927 => (slices_Compact_uint64 k r1927).bind fun r1930 => (mkS 11728124029610 (w64 ((r1930.length : Int) + 1)) ([])).bind fun l1938 => drop_Entries.l0 l t a2 r1930 k l1938 ([]) 0) rfl ?_
  have hu := unlike_uint64 a2.Snaps (by omega)
  have hul : (uqI a2.Snaps).length ≤ a2.Snaps.length := uq_len _
  have h0 := d_l0 l hl t ht a2 hS hB m hm hml hs hq t [] rfl
  refine Ev.congr (fun k => (Option.bind_assoc _ _ _).symm) (Ev.bind (a := uqI a2.Snaps) hu ?_)
  have hw : w64 (((uqI a2.Snaps).length : Int) + 1) = (((uqI a2.Snaps).length + 1 : Nat) : Int) := by rw [w64_of (by omega) (by omega)]; omega
  rw [hw]
  have hmk : mkS 11728124029610 (((uqI a2.Snaps).length + 1 : Nat) : Int) ([] : List Tomb) = some (List.replicate ((uqI a2.Snaps).length + 1) []) := by
    unfold mkS
    rw [if_pos ⟨by omega, by omega⟩, Int.toNat_natCast]
  refine Ev.bind0 hmk ?_
  have h1 : bucket a2.Snaps (([] : List Tomb).filter okTm) = List.replicate ((uqI a2.Snaps).length + 1) [] := bucket_nil a2.Snaps
  rw [h1] at h0
  exact h0
end
end Go.Proofs.Ytfofolmagnaimaa.Mo

set_option maxRecDepth 100000
namespace Go.Proofs.Ytfofolmagnaimaa.Mo
open Go Go.Proofs.Ytfofolmagnaimaa.Sy
theorem enq_refl (x : Entry) : Entry.eqb x x = true := by cases x; simp [Entry.eqb, sEq_refl]
theorem toq_refl (x : Tomb) : Tomb.eqb x x = true := by cases x; simp [Tomb.eqb, sEq_refl]
theorem dsame_l0 (a : List Entry) (hl : a.length ≤ 3518437208883) : ∀ (s p : List Entry), a = p ++ s → Ev (fun k => l21_same.l0 a a k p.length) true
  | [], p, hp => by
    have e1 : decide ((p.length : Int) < (a.length : Int)) = false := by rw [hp]; exact lt_end p
    refine Ev.succ ?_
    simp only [l21_same.l0, e1, Bool.false_eq_true, if_false]
    exact Ev.ret
  | x :: s, p, hp => by
    have e1 : decide ((p.length : Int) < (a.length : Int)) = true := by rw [hp]; exact lt_at p s x
    have e2 : idx a (p.length : Int) = some x := by rw [hp]; exact idx_at p x s
    refine Ev.succ ?_
    simp only [l21_same.l0, e1, e2, if_true, Option.bind_some, enq_refl, Bool.not_true, Bool.false_eq_true, if_false, step_at p s x (by rw [← hp, maxLen_val]; omega)]
    exact dsame_l0 a hl s (p ++ [x]) (by simp [hp])
theorem dsame_ev (a : List Entry) (hl : a.length ≤ 3518437208883) : Ev (fun k => l21_same k a a) true := by
  unfold l21_same
  simp only [bne_self_eq_false, Bool.false_eq_true, if_false]
  exact dsame_l0 a hl a [] rfl
theorem dtsame_l0 (a : List Tomb) (hl : a.length ≤ 3518437208883) : ∀ (s p : List Tomb), a = p ++ s → Ev (fun k => l21_sameTombs.l0 a a k p.length) true
  | [], p, hp => by
    have e1 : decide ((p.length : Int) < (a.length : Int)) = false := by rw [hp]; exact lt_end p
    refine Ev.succ ?_
    simp only [l21_sameTombs.l0, e1, Bool.false_eq_true, if_false]
    exact Ev.ret
  | x :: s, p, hp => by
    have e1 : decide ((p.length : Int) < (a.length : Int)) = true := by rw [hp]; exact lt_at p s x
    have e2 : idx a (p.length : Int) = some x := by rw [hp]; exact idx_at p x s
    refine Ev.succ ?_
    simp only [l21_sameTombs.l0, e1, e2, if_true, Option.bind_some, toq_refl, Bool.not_true, Bool.false_eq_true, if_false, step_at p s x (by rw [← hp, maxLen_val]; omega)]
    exact dtsame_l0 a hl s (p ++ [x]) (by simp [hp])
theorem dtsame_ev (a : List Tomb) (hl : a.length ≤ 3518437208883) : Ev (fun k => l21_sameTombs k a a) true := by
  unfold l21_sameTombs
  simp only [bne_self_eq_false, Bool.false_eq_true, if_false]
  exact dtsame_l0 a hl a [] rfl
end Go.Proofs.Ytfofolmagnaimaa.Mo

set_option maxRecDepth 100000
namespace Go.Proofs.Ytfofolmagnaimaa.Mo
open Go Go.Proofs.Ytfofolmagnaimaa.Sy
end Go.Proofs.Ytfofolmagnaimaa.Mo

set_option maxRecDepth 100000
namespace Go.Proofs.Ytfofolmagnaimaa.Mo
open Go Go.Proofs.Ytfofolmagnaimaa.Sy
theorem probe_ev : Ev (fun k => l21_probe k) true := by
  unfold l21_probe
  obtain ⟨m, m1, m2, m3, _⟩ := sort_both [(⟨(ByteArray.mk #[97]), 1, 1, (ByteArray.mk #[])⟩ : Entry)] (by simp)
  have hm : m = [(⟨(ByteArray.mk #[97]), 1, 1, (ByteArray.mk #[])⟩ : Entry)] := (List.perm_singleton.1 m2.1.symm)
  subst hm
  have hd := dent_ev [(⟨(ByteArray.mk #[97]), 1, 1, (ByteArray.mk #[])⟩ : Entry)] (by simp) [] (by simp) (⟨[], []⟩ : drop_Rule) (by simp) (by simp) _ m3 rfl m1 (fun e he => by simp at he; subst he; decide)
  refine Ev.bind hd ?_
  have hk : keepG [] [] (([] : List Tomb).filter okTm) [] [(⟨(ByteArray.mk #[97]), 1, 1, (ByteArray.mk #[])⟩ : Entry)] = [(⟨(ByteArray.mk #[97]), 1, 1, (ByteArray.mk #[])⟩ : Entry)] := rfl
  simp only [hk, Jn]
  have c1 : ((([(⟨(ByteArray.mk #[97]), 1, 1, (ByteArray.mk #[])⟩ : Entry)].length : Nat) : Int) == 1) = true := rfl
  have c2 : idx [(⟨(ByteArray.mk #[97]), 1, 1, (ByteArray.mk #[])⟩ : Entry)] 0 = some (⟨(ByteArray.mk #[97]), 1, 1, (ByteArray.mk #[])⟩ : Entry) := rfl
  simp only [c1, if_true, c2, Option.bind_some, sEq_refl]
  exact Ev.ret
end Go.Proofs.Ytfofolmagnaimaa.Mo

set_option maxRecDepth 100000
namespace Go.Proofs.Ytfofolmagnaimaa.Mo
open Go Go.Proofs.Ytfofolmagnaimaa.Sy
section
variable (S : List Int) (B : List File) (V : List Tomb)
theorem keepG_sub : ∀ (s p : List Entry), (keepG S B V p s).Sublist s
  | [], p => by simp [keepG]
  | e :: s, p => by
    have := keepG_sub s (p ++ [e])
    rw [keepG]
    split
    · exact this.cons_cons e
    · exact this.cons e
theorem keepG_srt {s p : List Entry} (h : Srt ltE s) : Srt ltE (keepG S B V p s) := List.Pairwise.sublist (keepG_sub S B V s p) h
end
theorem sameB_iff {S : List Int} {e j : Entry} : sameB S e j = true ↔ j.Key = e.Key ∧ strN S j.Seq = strN S e.Seq := by
  simp only [sameB, Bool.and_eq_true, decide_eq_true_eq, sEq_iff]
theorem keepB_iff {S : List Int} {B : List File} {V : List Tomb} {p : List Entry} {e : Entry} : keepB S B V p e = true ↔
    strN S e.Seq = (uqI S).length ∨ (¬ (e.Kind = 0 ∧ strN S e.Seq = 0 ∧ bearsAny B e.Key = false) ∧ (∀ j ∈ p, ¬ (j.Key = e.Key ∧ strN S j.Seq = strN S e.Seq)) ∧ ∀ t ∈ V, ¬ hitB S e t = true) := by
  simp only [keepB, outB, Bool.or_eq_true, decide_eq_true_eq, Bool.not_eq_true', Bool.or_eq_false_iff, Bool.and_eq_false_iff, List.any_eq_false, sameB_iff, beq_eq_false_iff_ne, ne_eq, decide_eq_false_iff_not, Bool.not_eq_false', and_assoc]
  constructor
  · rintro (h | ⟨h1, h2, h3⟩)
    · exact .inl h
    · refine .inr ⟨?_, h2, h3⟩
      rintro ⟨g1, g2, g3⟩
      rw [g3] at h1
      rcases h1 with (h1 | h1) | h1
      · exact h1 g1
      · exact h1 g2
      · cases h1
  · rintro (h | ⟨h1, h2, h3⟩)
    · exact .inl h
    · refine .inr ⟨?_, h2, h3⟩
      by_cases g1 : e.Kind = 0
      · by_cases g2 : strN S e.Seq = 0
        · cases g3 : bearsAny B e.Key with
          | true => exact .inr rfl
          | false => exact absurd ⟨g1, g2, g3⟩ h1
        · exact .inl (.inr g2)
      · exact .inl (.inl g1)
end Go.Proofs.Ytfofolmagnaimaa.Mo

set_option maxRecDepth 100000
namespace Go.Proofs.Ytfofolmagnaimaa.Mo
open Go Go.Proofs.Ytfofolmagnaimaa.Sy
section
variable (l : List Entry) (hl : l.length ≤ 3518437208883) (t : List Tomb) (ht : t.length ≤ 3518437208883) (hq : ∀ e ∈ l, 0 ≤ e.Seq ∧ e.Seq ≤ 18446744073709551615)
include hl ht hq
end
end Go.Proofs.Ytfofolmagnaimaa.Mo

set_option maxRecDepth 100000
namespace Go.Proofs.Ytfofolmagnaimaa.Mo
open Go Go.Proofs.Ytfofolmagnaimaa.Sy
theorem keepB_mono {S : List Int} {B : List File} {V Y : List Tomb} {p q : List Entry} {e : Entry} (hY : ∀ t ∈ Y, t ∈ V) (hp : ∀ x ∈ q, x ∈ p) (h : keepB S B V p e = true) : keepB S B Y q e = true := by
  rw [keepB_iff] at h ⊢
  rcases h with h | ⟨h1, h2, h3⟩
  · exact .inl h
  · exact .inr ⟨h1, fun j hj => h2 j (hp j hj), fun t ht => h3 t (hY t ht)⟩
theorem keepG_again (S : List Int) (B : List File) (V Y : List Tomb) (hY : ∀ t ∈ Y, t ∈ V) : ∀ (s p q : List Entry), (∀ x ∈ q, x ∈ p) → keepG S B Y q (keepG S B V p s) = keepG S B V p s
  | [], p, q, h => by simp [keepG]
  | e :: s, p, q, h => by
    rw [keepG]
    by_cases hk : keepB S B V p e = true
    · rw [if_pos hk, List.singleton_append, keepG, if_pos (keepB_mono hY h hk), List.singleton_append]
      congr 1
      refine keepG_again S B V Y hY s (p ++ [e]) (q ++ [e]) fun x hx => ?_
      rcases List.mem_append.1 hx with hx | hx
      · exact List.mem_append.2 (.inl (h x hx))
      · exact List.mem_append.2 (.inr hx)
    · rw [if_neg hk, List.nil_append]
      exact keepG_again S B V Y hY s (p ++ [e]) q fun x hx => List.mem_append.2 (.inl (h x hx))
theorem keepG_nobody (B : List File) (V : List Tomb) : ∀ (s p : List Entry), keepG [] B V p s = s
  | [], p => rfl
  | e :: s, p => by
    have : keepB [] B V p e = true := by
      rw [keepB_iff]
      exact .inl rfl
    rw [keepG, if_pos this, keepG_nobody B V s]
    rfl
theorem deadB_nobody (B : List File) (t : Tomb) : deadB [] B t = true := by
  unfold deadB
  have : decide (strN [] t.Seq = (uqI []).length) = true := decide_eq_true rfl
  rw [this]
  rfl
theorem rule_ev (a2 : R21_Rule) (hS : a2.Snaps.length ≤ 28147497670912) (hB : a2.Below.length ≤ 3518437208730) : l21_rule a2 = some (⟨a2.Snaps, a2.Below⟩ : drop_Rule) := by
  unfold l21_rule
  simp only [Jn, pushN_ok (show ([] : List Int).length + a2.Snaps.length ≤ 28147497670912 by rw [List.length_nil]; omega), pushN_ok (show ([] : List File).length + a2.Below.length ≤ 3518437208730 by rw [List.length_nil]; omega), Option.bind_some, List.nil_append]
section
variable (l : List Entry) (hl : l.length ≤ 1048576) (t : List Tomb) (ht : t.length ≤ 1048576)
include hl ht
theorem again_l0 (X : List Entry × List Tomb) (m : List Entry) (hm : Ev (fun k => ikey_Sorted k l) m) (hml : m.length = l.length) (hX : X = (m, t.filter okTm)) : ∀ (s p : List Tomb), t = p ++ s → Ev (fun k => l21_DropAgain.l0 l t X k ((p.filter okTm).length : Int) p.length) true
  | [], p, hp => by
    have e1 : decide ((p.length : Int) < (t.length : Int)) = false := by rw [hp]; exact lt_end p
    refine Ev.succ ?_
    simp only [l21_DropAgain.l0, e1, Bool.false_eq_true, if_false]
    refine Ev.bind hm ?_
    have hpt : p = t := by rw [hp]; simp
    rw [hpt, hX]
    refine Ev.bind (dsame_ev m (by omega)) ?_
    simp only [beq_self_eq_true, Bool.and_true]
    exact Ev.ret
  | x :: s, p, hp => by
    have e1 : decide ((p.length : Int) < (t.length : Int)) = true := by rw [hp]; exact lt_at p s x
    have e2 : idx t (p.length : Int) = some x := by rw [hp]; exact idx_at p x s
    have hpl : p.length + 1 ≤ t.length := by rw [hp]; simp
    have hfl : (p.filter okTm).length ≤ p.length := List.length_filter_le _ _
    have hw := step_at p s x (by rw [← hp, maxLen_val]; omega)
    have ih := again_l0 X m hm hml hX s (p ++ [x]) (by simp [hp])
    refine Ev.succ ?_
    simp only [l21_DropAgain.l0, e1, e2, if_true, Option.bind_some, tvalid_eq, Jn, hw]
    by_cases h : okTm x = true
    · have hfx : (p ++ [x]).filter okTm = p.filter okTm ++ [x] := by simp [h]
      rw [hfx] at ih
      simp only [h, if_true, w64_succ (show (p.filter okTm).length < 9223372036854775807 by omega)]
      simpa using ih
    · have hfx : (p ++ [x]).filter okTm = p.filter okTm := by simp [h]
      rw [hfx] at ih
      simp only [h, if_false, Bool.false_eq_true]
      exact ih
theorem again_law (a2 : R21_Rule) (hS : a2.Snaps.length ≤ 1048576) (hB : a2.Below.length ≤ 1048576) (hq : ∀ e ∈ l, 0 ≤ e.Seq) : Ev (fun k => l21_DropAgain k l t a2) true := by
  obtain ⟨m, m1, m2, m3, m4⟩ := sort_both l (by omega)
  have hml : m.length = l.length := m2.len.symm
  have hqm : ∀ e ∈ m, 0 ≤ e.Seq := fun e he => hq e (m2.1.mem_iff.2 he)
  have hd := dent_ev l (by omega) t (by omega) (⟨a2.Snaps, a2.Below⟩ : drop_Rule) (by simp; omega) (by simp; omega) m m3 hml m1 hqm
  have hd0 := dent_ev l (by omega) t (by omega) (⟨[], a2.Below⟩ : drop_Rule) (by simp) (by simp; omega) m m3 hml m1 hqm
  simp only at hd hd0
  have hXs := keepG_srt a2.Snaps a2.Below (t.filter okTm) (p := []) m1
  have hXl := keepG_len a2.Snaps a2.Below (t.filter okTm) m []
  have hXq : ∀ e ∈ keepG a2.Snaps a2.Below (t.filter okTm) [] m, 0 ≤ e.Seq := fun e he => hqm e ((keepG_sub _ _ _ m []).subset he)
  have hYV : ∀ x ∈ (t.filter okTm).filter (deadB a2.Snaps a2.Below), x ∈ t.filter okTm := fun x hx => (List.mem_filter.1 hx).1
  have hYok : ((t.filter okTm).filter (deadB a2.Snaps a2.Below)).filter okTm = (t.filter okTm).filter (deadB a2.Snaps a2.Below) := List.filter_eq_self.2 fun x hx => (List.mem_filter.1 (hYV x hx)).2
  have hYd : ((t.filter okTm).filter (deadB a2.Snaps a2.Below)).filter (deadB a2.Snaps a2.Below) = (t.filter okTm).filter (deadB a2.Snaps a2.Below) := List.filter_eq_self.2 fun x hx => (List.mem_filter.1 hx).2
  have hYl : ((t.filter okTm).filter (deadB a2.Snaps a2.Below)).length ≤ t.length := Nat.le_trans (List.length_filter_le _ _) (List.length_filter_le _ _)
  have hag := keepG_again a2.Snaps a2.Below (t.filter okTm) _ hYV m [] [] (fun x hx => hx)
  generalize hX : keepG a2.Snaps a2.Below (t.filter okTm) [] m = X at *
  generalize hY : (t.filter okTm).filter (deadB a2.Snaps a2.Below) = Y at *
  obtain ⟨m', n1, n2, n3, n4⟩ := sort_both X (by omega)
  have hmX : X = m' := Sst.uniq wo_E hXs n1 n2
  subst hmX
  have hd2 := dent_ev X (by omega) Y (by omega) (⟨a2.Snaps, a2.Below⟩ : drop_Rule) (by simp; omega) (by simp; omega) X n3 rfl hXs hXq
  simp only [hYok, hYd, hag] at hd2
  have hk0 : keepG [] a2.Below (t.filter okTm) [] m = m := keepG_nobody _ _ m []
  have hd00 : (t.filter okTm).filter (deadB [] a2.Below) = t.filter okTm := List.filter_eq_self.2 fun x _ => deadB_nobody _ x
  rw [hk0, hd00] at hd0
  have hr := rule_ev a2 (by omega) (by omega)
  have hr0 := rule_ev (⟨[], a2.Below⟩ : R21_Rule) (by simp) (by simp; omega)
  unfold l21_DropAgain
  refine Ev.bind probe_ev ?_
  simp only [Bool.not_true, Bool.false_eq_true, if_false, hr, hr0, Option.bind_some, Jn]
  refine Ev.bind hd ?_
  refine Ev.bind hd2 ?_
  refine Ev.bind (dsame_ev X (by omega)) ?_
  simp only [Bool.not_true, Bool.false_eq_true, if_false]
  refine Ev.bind (dtsame_ev Y (by omega)) ?_
  simp only [Bool.not_true, Bool.false_eq_true, if_false]
  refine Ev.bind hd0 ?_
  exact again_l0 l hl t ht (m, t.filter okTm) m m3 hml rfl t [] rfl
end
end Go.Proofs.Ytfofolmagnaimaa.Mo
