import Derived.Test.YtbaemhkfmddakaaMeTw
import Derived.Test.YtbaemhkfmddakaaSySt
import Derived.Test.YtbaemhkfmddakaaSyEv
import Derived.Test.YtbaemhkfmddakaaSyPlain
import Derived.Test.YtbaemhkfmddakaaSyUq
set_option linter.unusedVariables false
set_option linter.unusedSectionVars false
set_option linter.unusedSimpArgs false
set_option maxRecDepth 100000
namespace Go.Proofs.Ytbaemhkfmddakaa.Mo
open Go Go.Proofs.Ytbaemhkfmddakaa.Sy
def ikey_entries (k : Nat) (a b : Entry) : Option Int := (ikey_Compare k (⟨a.Key, a.Seq, a.Kind⟩ : IKey) (⟨b.Key, b.Seq, b.Kind⟩ : IKey)).bind fun r => some r
def cE (a b : Entry) : Int := if slt a.Key b.Key then -1 else if slt b.Key a.Key then 1 else if b.Seq < a.Seq then -1 else if a.Seq < b.Seq then 1 else if b.Kind < a.Kind then -1 else if a.Kind < b.Kind then 1 else 0
def ltE (a b : Entry) : Prop := cE a b < 0
instance : DecidableRel ltE := fun a b => inferInstanceAs (Decidable (cE a b < 0))
theorem ltE_iff {a b : Entry} : ltE a b ↔ slt a.Key b.Key ∨ (a.Key = b.Key ∧ (b.Seq < a.Seq ∨ (a.Seq = b.Seq ∧ b.Kind < a.Kind))) := by
  show cE a b < 0 ↔ _
  unfold cE
  rcases slt_tri a.Key b.Key with h | h | h
  · simp [h]
  · rw [h]
    simp only [slt_irrefl, if_false, false_or, true_and]
    split
    · simp [*]
    · split
      · constructor
        · intro h; omega
        · rintro (h | ⟨h, _⟩) <;> omega
      · split
        · constructor
          · intro _; exact .inr ⟨by omega, by assumption⟩
          · intro _; omega
        · split
          · constructor
            · intro h; omega
            · rintro (h | ⟨_, h⟩) <;> omega
          · constructor
            · intro h; omega
            · rintro (h | ⟨_, h⟩) <;> omega
  · have h1 := slt_asymm h
    have h2 : a.Key ≠ b.Key := fun e => by rw [e] at h; exact slt_irrefl _ h
    simp [h, h1, h2]
theorem wo_E : Wo ltE := by
  refine ⟨fun x y h k => ?_, fun x y z h k => ?_⟩
  · rw [ltE_iff] at h k
    rcases h with h | ⟨e, h⟩
    · rcases k with k | ⟨e, _⟩
      · exact slt_asymm h k
      · rw [e] at h; exact slt_irrefl _ h
    · rcases k with k | ⟨_, k⟩
      · rw [e] at k; exact slt_irrefl _ k
      · omega
  · rw [ltE_iff] at h k ⊢
    rintro (g | ⟨e, g⟩)
    · rcases slt_tri x.Key y.Key with h1 | h1 | h1
      · exact h (.inl h1)
      · rw [h1] at g; exact k (.inl g)
      · exact k (.inl (slt_trans h1 g))
    · rcases slt_tri x.Key y.Key with h1 | h1 | h1
      · exact h (.inl h1)
      · have h2 : ¬ (y.Seq < x.Seq ∨ (x.Seq = y.Seq ∧ y.Kind < x.Kind)) := fun c => h (.inr ⟨h1, c⟩)
        have k2 : ¬ (z.Seq < y.Seq ∨ (y.Seq = z.Seq ∧ z.Kind < y.Kind)) := fun c => k (.inr ⟨h1.symm.trans e, c⟩)
        omega
      · rw [e] at h1; exact k (.inl h1)
theorem entries_eq (k : Nat) (a b : Entry) : ikey_entries (k + 4) a b = some (cE a b) := by
  have w1 : w64 (0 + 1) = 1 := by decide
  have w2 : w64 (1 + 1) = 2 := by decide
  have w3 : w64 (2 + 1) = 3 := by decide
  have key : ∀ p q r : Int, cmp_Or_int (k + 4) [p, q, r] = some (if p ≠ 0 then p else if q ≠ 0 then q else if r ≠ 0 then r else 0) := by
    intro p q r
    have i0 : idx [p, q, r] 0 = some p := rfl
    have i1 : idx [p, q, r] 1 = some q := rfl
    have i2 : idx [p, q, r] 2 = some r := rfl
    have l0 : decide ((0 : Int) < ([p, q, r].length : Int)) = true := rfl
    have l1 : decide ((1 : Int) < ([p, q, r].length : Int)) = true := rfl
    have l2 : decide ((2 : Int) < ([p, q, r].length : Int)) = true := rfl
    have l3 : decide ((3 : Int) < ([p, q, r].length : Int)) = false := rfl
    simp only [cmp_Or_int, cmp_Or_int.l0, i0, i1, i2, l0, l1, l2, l3, if_true, Option.bind_some, w1, w2, w3, bne_iff_ne, Bool.false_eq_true, if_false]
    split
    · rfl
    · split
      · rfl
      · split <;> rfl
  unfold ikey_entries ikey_Compare
  simp only [strings_Compare, internal_bytealg_CompareString, Option.bind_some]
  have hu : cmp_Compare_uint64 b.Seq a.Seq = some (if b.Seq < a.Seq then -1 else if a.Seq < b.Seq then 1 else 0) := by
    simp only [cmp_Compare_uint64, cmp_isNaN_uint64, bne_self_eq_false, Option.bind_some, Bool.false_eq_true, if_false, decide_eq_true_eq]
    split
    · rfl
    · split <;> rfl
  have hi : cmp_Compare_int b.Kind a.Kind = some (if b.Kind < a.Kind then -1 else if a.Kind < b.Kind then 1 else 0) := by
    simp only [cmp_Compare_int, cmp_isNaN_int, bne_self_eq_false, Option.bind_some, Bool.false_eq_true, if_false, decide_eq_true_eq]
    split
    · rfl
    · split <;> rfl
  rw [hu, hi]
  simp only [Option.bind_some, key]
  congr 1
  unfold cE ordS
  simp only [sLt_iff]
  by_cases h1 : slt a.Key b.Key
  · simp [h1]
  · by_cases h2 : slt b.Key a.Key
    · simp [h1, h2]
    · by_cases h3 : b.Seq < a.Seq
      · simp [h1, h2, h3]
      · by_cases h4 : a.Seq < b.Seq
        · simp [h1, h2, h3, h4]
        · by_cases h5 : b.Kind < a.Kind
          · simp [h1, h2, h3, h4, h5]
          · by_cases h6 : a.Kind < b.Kind
            · simp [h1, h2, h3, h4, h5, h6]
            · simp [h1, h2, h3, h4, h5, h6]
theorem rcomp_eq (a b : Entry) : r03_Compare (⟨a.Key, a.Seq, a.Kind⟩ : IKey) (⟨b.Key, b.Seq, b.Kind⟩ : IKey) = some (cE a b) := by
  unfold r03_Compare cE
  rcases slt_tri a.Key b.Key with h | h | h
  · have hne : sEq a.Key b.Key = false := by
      rw [Bool.eq_false_iff, ne_eq, sEq_iff]
      intro e; rw [e] at h; exact slt_irrefl _ h
    simp [hne, h, sLt_iff.2 h]
  · have he : sEq a.Key b.Key = true := sEq_iff.2 h
    rw [h] at he ⊢
    simp only [he, slt_irrefl, Bool.not_true, Bool.false_eq_true, if_false]
    by_cases h3 : b.Seq < a.Seq
    · have : a.Seq ≠ b.Seq := by omega
      simp [this, h3]
    · by_cases h4 : a.Seq < b.Seq
      · have : a.Seq ≠ b.Seq := by omega
        simp [this, h3, h4]
      · have e2 : a.Seq = b.Seq := by omega
        by_cases h5 : b.Kind < a.Kind
        · have : a.Kind ≠ b.Kind := by omega
          simp [e2, this, h5]
        · by_cases h6 : a.Kind < b.Kind
          · have : a.Kind ≠ b.Kind := by omega
            simp [e2, this, h5, h6]
          · have e3 : a.Kind = b.Kind := by omega
            simp [e2, e3]
  · have hne : sEq a.Key b.Key = false := by
      rw [Bool.eq_false_iff, ne_eq, sEq_iff]
      intro e; rw [e] at h; exact slt_irrefl _ h
    have h1 := slt_asymm h
    simp [hne, h, h1, sLt_false.2 h1]
def keyE (k : IKey) : Entry := ⟨k.Key, k.Seq, k.Kind, ByteArray.mk #[]⟩
theorem comp_eq (k : Nat) (x y : IKey) : ikey_Compare (k + 4) x y = some (cE (keyE x) (keyE y)) := by
  have := entries_eq k (keyE x) (keyE y)
  unfold ikey_entries at this
  have e : (⟨(keyE x).Key, (keyE x).Seq, (keyE x).Kind⟩ : IKey) = x := by cases x; rfl
  have e2 : (⟨(keyE y).Key, (keyE y).Seq, (keyE y).Kind⟩ : IKey) = y := by cases y; rfl
  rw [e, e2] at this
  cases h : ikey_Compare (k + 4) x y with
  | none => rw [h] at this; cases this
  | some v => rw [h] at this; exact this
theorem rcomp (x y : IKey) : r03_Compare x y = some (cE (keyE x) (keyE y)) := by
  have := rcomp_eq (keyE x) (keyE y)
  cases x; cases y; exact this
end Go.Proofs.Ytbaemhkfmddakaa.Mo

set_option maxRecDepth 100000
namespace Go.Proofs.Ytbaemhkfmddakaa.Mo
open Go Go.Proofs.Ytbaemhkfmddakaa.Sy
def kl (x y : IKey) : Prop := cE (keyE x) (keyE y) < 0
instance : DecidableRel kl := fun a b => inferInstanceAs (Decidable (cE (keyE a) (keyE b) < 0))
theorem kl_asymm {x y : IKey} (h : kl x y) : ¬ kl y x := wo_E.asymm _ _ h
theorem kl_tri {x y : IKey} (h : ¬ kl x y) (k : ¬ kl y x) : x = y := by
  have h' : ¬ ltE (keyE x) (keyE y) := h
  have k' : ¬ ltE (keyE y) (keyE x) := k
  rw [ltE_iff] at h' k'
  obtain ⟨a, b, c⟩ := x
  obtain ⟨a', b', c'⟩ := y
  simp only [keyE] at h' k'
  rcases slt_tri a a' with g | g | g
  · exact absurd (.inl g) h'
  · subst g
    have h1 : ¬ (b' < b ∨ (b = b' ∧ c' < c)) := fun q => h' (.inr ⟨rfl, q⟩)
    have k1 : ¬ (b < b' ∨ (b' = b ∧ c < c')) := fun q => k' (.inr ⟨rfl, q⟩)
    have e1 : b = b' := by omega
    have e2 : c = c' := by omega
    subst e1 e2; rfl
  · exact absurd (.inl g) k'
theorem kl_trans {x y z : IKey} (h : kl x y) (k : kl y z) : kl x z := by
  refine Decidable.byContradiction fun g => ?_
  have := wo_E.neg (keyE x) (keyE z) (keyE y) g (kl_asymm k)
  exact this h
theorem kl_irrefl (x : IKey) : ¬ kl x x := fun h => kl_asymm h h
def Ch (f : Nat → Int) : Nat → List Nat → Prop
  | a, [] => f a = 0
  | a, b :: r => f a = (b : Int) ∧ Ch f b r
theorem ch_congr {f g : Nat → Int} : ∀ {l : List Nat} {a : Nat}, (∀ j ∈ a :: l, g j = f j) → Ch f a l → Ch g a l
  | [], a, h, hc => by
    show g a = 0
    rw [h a (by simp)]; exact hc
  | b :: r, a, h, hc => ⟨by rw [h a (by simp)]; exact hc.1, ch_congr (fun j hj => h j (List.mem_cons_of_mem _ hj)) hc.2⟩
theorem ch_split {f : Nat → Int} : ∀ {P R : List Nat} {a b : Nat}, Ch f a (P ++ b :: R) → Ch f b R
  | [], R, a, b, h => h.2
  | p :: P, R, a, b, h => ch_split (P := P) h.2
def lastD (a : Nat) (l : List Nat) : Nat := l.getLast?.getD a
theorem lastD_nil (a : Nat) : lastD a [] = a := rfl
theorem lastD_cons (a b : Nat) (l : List Nat) : lastD a (b :: l) = lastD b l := by
  unfold lastD
  cases l with
  | nil => rfl
  | cons c r => rw [List.getLast?_cons_cons, List.getLast?_cons]; rfl
theorem lastD_app (a b : Nat) (P R : List Nat) : lastD a (P ++ b :: R) = lastD b R := by
  unfold lastD
  rw [List.getLast?_append, List.getLast?_cons]
  rfl
theorem lastD_mem (a : Nat) : ∀ (l : List Nat), lastD a l ∈ a :: l
  | [] => by simp [lastD]
  | b :: r => by
    rw [lastD_cons]
    exact List.mem_cons_of_mem _ (lastD_mem b r)
theorem ch_insert {f g : Nat → Int} {n : Nat} : ∀ {A B : List Nat} {a : Nat}, Ch f a (A ++ B) → (a :: (A ++ B)).Nodup → n ∉ a :: (A ++ B) → g (lastD a A) = (n : Int) → g n = f (lastD a A) → (∀ j ∈ a :: (A ++ B), j ≠ lastD a A → g j = f j) → Ch g a (A ++ n :: B)
  | [], B, a, hc, hnd, hn, h1, h2, h3 => by
    rw [lastD_nil] at h1 h2 h3
    refine ⟨h1, ?_⟩
    cases B with
    | nil => show g n = 0; rw [h2]; exact hc
    | cons b r =>
      refine ⟨by rw [h2]; exact hc.1, ch_congr (fun j hj => h3 j (by simp at hj ⊢; exact .inr hj) ?_) hc.2⟩
      rintro rfl
      exact (List.nodup_cons.1 hnd).1 hj
  | b :: A, B, a, hc, hnd, hn, h1, h2, h3 => by
    rw [lastD_cons] at h1 h2 h3
    have hnd' := (List.nodup_cons.1 hnd)
    refine ⟨?_, ch_insert hc.2 hnd'.2 (fun h => hn (List.mem_cons_of_mem _ h)) h1 h2 fun j hj hne => h3 j (List.mem_cons_of_mem _ hj) hne⟩
    rw [h3 a (by simp) (fun e => hnd'.1 (by
      rw [e]
      have := lastD_mem b A
      simp only [List.cons_append, List.mem_cons, List.mem_append] at this ⊢
      rcases this with h | h
      · exact .inl h
      · exact .inr (.inl h)))]
    exact hc.1
/-- Links backwards. -/
def Pc (f : Nat → Int) : Nat → List Nat → Prop
  | _, [] => True
  | a, b :: r => f b = (a : Int) ∧ Pc f b r
theorem pc_congr {f g : Nat → Int} : ∀ {l : List Nat} {a : Nat}, (∀ j ∈ l, g j = f j) → Pc f a l → Pc g a l
  | [], a, h, hc => trivial
  | b :: r, a, h, hc => ⟨by rw [h b (by simp)]; exact hc.1, pc_congr (fun j hj => h j (List.mem_cons_of_mem _ hj)) hc.2⟩
theorem pc_insert {f g : Nat → Int} {n : Nat} : ∀ {A B : List Nat} {a : Nat}, Pc f a (A ++ B) → (A ++ B).Nodup → n ∉ (A ++ B) → g n = (lastD a A : Nat) → (∀ b, B.head? = some b → g b = (n : Int)) → (∀ j ∈ A ++ B, B.head? ≠ some j → g j = f j) → Pc g a (A ++ n :: B)
  | [], B, a, hc, hnd, hn, h1, h2, h3 => by
    refine ⟨h1, ?_⟩
    cases B with
    | nil => trivial
    | cons b r =>
      refine ⟨h2 b rfl, pc_congr (fun j hj => h3 j (by simp [hj]) ?_) hc.2⟩
      simp only [List.head?_cons, ne_eq, Option.some.injEq]
      rintro rfl
      exact (List.nodup_cons.1 hnd).1 hj
  | b :: A, B, a, hc, hnd, hn, h1, h2, h3 => by
    rw [lastD_cons] at h1
    have hnd' := (List.nodup_cons.1 hnd)
    refine ⟨?_, pc_insert hc.2 hnd'.2 (fun h => hn (List.mem_cons_of_mem _ h)) h1 h2 fun j hj hne => h3 j (List.mem_cons_of_mem _ hj) hne⟩
    rw [h3 b (by simp) ?_]
    · exact hc.1
    · intro e
      cases B with
      | nil => cases e
      | cons c r =>
        simp only [List.head?_cons, Option.some.injEq] at e
        subst e
        exact hnd'.1 (by simp)
abbrev Nd := skip_node_string
def z0 : Nd := ⟨⟨ByteArray.mk #[], 0, 0⟩, ByteArray.mk #[], 0, ⟨0, 0, 0, 0, 0, 0, 0, 0, 0, 0, 0, 0⟩, 0⟩
def nd (N : List Nd) (i : Nat) : Nd := N.getD i z0
def ky (N : List Nd) (i : Nat) : IKey := (nd N i).key
def ht (N : List Nd) (i : Nat) : Int := (nd N i).height
def nx (N : List Nd) (lv : Nat) (i : Nat) : Int := St104.get (nd N i).next_ (lv : Int)
def pv (N : List Nd) (i : Nat) : Int := (nd N i).prev
theorem nd_idx {N : List Nd} {i : Nat} (h : i < N.length) : idx N (i : Int) = some (nd N i) := getD_idx2 z0 h
theorem nd_set {N : List Nd} {a : Nat} (h : a < N.length) (x : Nd) (j : Nat) : nd (N.set a x) j = if j = a then x else nd N j := by
  unfold nd
  rw [List.getD_eq_getElem?_getD, List.getElem?_set]
  by_cases e : a = j
  · subst e; simp [h]
  · rw [if_neg e, if_neg (fun h => e h.symm), List.getD_eq_getElem?_getD]
theorem nd_snoc (N : List Nd) (x : Nd) (j : Nat) : nd (N ++ [x]) j = if j = N.length then x else nd N j := by
  unfold nd
  rw [List.getD_eq_getElem?_getD, List.getD_eq_getElem?_getD]
  by_cases e : j = N.length
  · subst e; simp
  · rw [if_neg e]
    rcases Nat.lt_or_ge j N.length with h | h
    · rw [List.getElem?_append_left h]
    · rw [List.getElem?_eq_none (by simp; omega), List.getElem?_eq_none (by omega)]
def onL (N : List Nd) (l : List Nat) (lv : Nat) : List Nat := l.filter fun i => decide ((lv : Int) < ht N i)
theorem onL_app (N : List Nd) (a b : List Nat) (lv : Nat) : onL N (a ++ b) lv = onL N a lv ++ onL N b lv := List.filter_append ..
theorem get_ofl {l : List Int} (h : l.length = 12) (i : Int) : St104.get (St104.ofl l) i = l.getD i.toNat 0 := by unfold St104.get; rw [St104.l_ofl l h]
theorem get_put4 (x : St104) (i : Nat) (hi : i < 12) (v : Int) (j : Nat) : St104.get (St104.put x (i : Int) v) (j : Int) = if j = i then v else St104.get x (j : Int) := by
  have hl : (St104.l x).length = 12 := rfl
  unfold St104.put
  rw [get_ofl (by rw [List.length_set]; rfl)]
  unfold St104.get
  rw [Int.toNat_natCast, Int.toNat_natCast, List.getD_eq_getElem?_getD, List.getElem?_set, List.getD_eq_getElem?_getD]
  by_cases e : i = j
  · subst e; simp [hl, hi]
  · rw [if_neg e, if_neg (fun h => e h.symm)]
theorem get_put7 (x : St107) (i : Nat) (hi : i < 12) (v : Int) (j : Nat) : St107.get (St107.put x (i : Int) v) (j : Int) = if j = i then v else St107.get x (j : Int) := by
  have hl : (St107.l x).length = 12 := rfl
  unfold St107.put
  unfold St107.get
  rw [St107.l_ofl _ (by rw [List.length_set]; rfl), Int.toNat_natCast, Int.toNat_natCast, List.getD_eq_getElem?_getD, List.getElem?_set, List.getD_eq_getElem?_getD]
  by_cases e : i = j
  · subst e; simp [hl, hi]
  · rw [if_neg e, if_neg (fun h => e h.symm)]
structure Inv (L : skip_List_string) (ord : List Nat) : Prop where
  most : L.most = 1048576
  len : L.nodes.length = ord.length + 1
  small : ord.length ≤ 1048576
  rng : ∀ i ∈ ord, 1 ≤ i ∧ i < L.nodes.length
  nd : ord.Nodup
  srt : ord.Pairwise fun i j => kl (ky L.nodes i) (ky L.nodes j)
  hts : ∀ i ∈ ord, 1 ≤ ht L.nodes i ∧ ht L.nodes i ≤ L.height
  hgt : 0 ≤ L.height ∧ L.height ≤ 12
  chn : ∀ lv, lv < 12 → Ch (nx L.nodes lv) 0 (onL L.nodes ord lv)
  prv : Pc (pv L.nodes) 0 ord
  lst : L.last = (lastD 0 ord : Nat)
theorem Inv.cut {L : skip_List_string} {ord : List Nat} (h : Inv L ord) (key : IKey) : ∃ A B, ord = A ++ B ∧ (∀ i ∈ A, kl (ky L.nodes i) key) ∧ (∀ i ∈ B, ¬ kl (ky L.nodes i) key) := by
  have hs := h.srt
  generalize ord = l at hs
  induction l with
  | nil => exact ⟨[], [], rfl, fun i hi => (by cases hi), fun i hi => (by cases hi)⟩
  | cons x l ih =>
    obtain ⟨h1, h2⟩ := List.pairwise_cons.1 hs
    by_cases hk : kl (ky L.nodes x) key
    · obtain ⟨A, B, e, hA, hB⟩ := ih h2
      refine ⟨x :: A, B, by rw [e]; rfl, fun i hi => ?_, hB⟩
      rcases List.mem_cons.1 hi with rfl | hi
      · exact hk
      · exact hA i hi
    · refine ⟨[], x :: l, rfl, fun i hi => (by cases hi), fun i hi => ?_⟩
      rcases List.mem_cons.1 hi with rfl | hi
      · exact hk
      · exact fun g => hk (kl_trans (h1 i hi) g)
end Go.Proofs.Ytbaemhkfmddakaa.Mo

set_option maxRecDepth 100000
namespace Go.Proofs.Ytbaemhkfmddakaa.Mo
open Go Go.Proofs.Ytbaemhkfmddakaa.Sy
theorem comp_ev (x y : IKey) : Ev (fun k => ikey_Compare k x y) (cE (keyE x) (keyE y)) := ⟨4, fun k hk => by
  obtain ⟨j, rfl⟩ := Nat.exists_eq_add_of_le' hk
  exact comp_eq j x y⟩
section
variable {L : skip_List_string} {ord A B : List Nat} {key : IKey}
/-- What stands first behind. -/
def hd (l : List Nat) : Int := match l with | [] => 0 | b :: _ => (b : Int)
theorem ch_hd {f : Nat → Int} {a : Nat} {l : List Nat} (h : Ch f a l) : f a = hd l := by
  cases l with
  | nil => exact h
  | cons b r => exact h.1
theorem mem_onL {N : List Nd} {l : List Nat} {lv i : Nat} : i ∈ onL N l lv ↔ i ∈ l ∧ (lv : Int) < ht N i := by
  unfold onL
  rw [List.mem_filter, decide_eq_true_eq]
/-- One round, where there is something below. -/
theorem trail_go (hI : Inv L ord) {k : Nat} {y : St107} {at_ b lv : Nat} (hlv : lv < 12) (hat : at_ < L.nodes.length) (hb : nx L.nodes lv at_ = (b : Int)) (hb1 : 1 ≤ b) (hb2 : b < L.nodes.length)
    (hc : ikey_Compare k (ky L.nodes b) key = some (cE (keyE (ky L.nodes b)) (keyE key))) :
    skip_List_string_trail.l0 L key (k + 1) y.e0 y.e1 y.e2 y.e3 y.e4 y.e5 y.e6 y.e7 y.e8 y.e9 y.e10 y.e11 (at_ : Int) (lv : Int) =
      if kl (ky L.nodes b) key then skip_List_string_trail.l0 L key k y.e0 y.e1 y.e2 y.e3 y.e4 y.e5 y.e6 y.e7 y.e8 y.e9 y.e10 y.e11 (b : Int) (lv : Int)
      else (some (St107.put y (lv : Int) (at_ : Int))).bind fun y => skip_List_string_trail.l0 L key k y.e0 y.e1 y.e2 y.e3 y.e4 y.e5 y.e6 y.e7 y.e8 y.e9 y.e10 y.e11 (at_ : Int) ((lv : Int) - 1) := by
  have hsm := hI.small
  have hln := hI.len
  have e0 : decide ((0 : Int) ≤ (lv : Int)) = true := decide_eq_true (by omega)
  have e1 := nd_idx hat
  have e2 : (0 : Int) ≤ (lv : Int) ∧ (lv : Int) < 12 := ⟨by omega, by omega⟩
  have e3 : w64 (St104.get (nd L.nodes at_).next_ (lv : Int)) = (b : Int) := by
    have : St104.get (nd L.nodes at_).next_ (lv : Int) = (b : Int) := hb
    rw [this, w64_of (by omega) (by omega)]
  have e4 : ((b : Int) != 0) = true := by rw [bne_iff_ne]; omega
  have e5 := nd_idx hb2
  have e6 : w64 ((lv : Int) - 1) = (lv : Int) - 1 := w64_of (by omega) (by omega)
  simp only [skip_List_string_trail.l0, e0, e1, Option.bind_some, if_true, if_pos e2, e3, e4, e5, Jn, e6]
  have hc' : ikey_Compare k (nd L.nodes b).key key = some (cE (keyE (ky L.nodes b)) (keyE key)) := hc
  rw [hc', Option.bind_some]
  by_cases h : kl (ky L.nodes b) key
  · have h' : decide (cE (keyE (ky L.nodes b)) (keyE key) < 0) = true := decide_eq_true h
    rw [if_pos h', if_pos h]
  · have h' : decide (cE (keyE (ky L.nodes b)) (keyE key) < 0) = false := decide_eq_false h
    rw [h', if_neg h]
    simp only [Bool.false_eq_true, if_false]
theorem trail_end (hI : Inv L ord) {k : Nat} {y : St107} {at_ lv : Nat} (hlv : lv < 12) (hat : at_ < L.nodes.length) (hb : nx L.nodes lv at_ = 0) :
    skip_List_string_trail.l0 L key (k + 1) y.e0 y.e1 y.e2 y.e3 y.e4 y.e5 y.e6 y.e7 y.e8 y.e9 y.e10 y.e11 (at_ : Int) (lv : Int) =
      (some (St107.put y (lv : Int) (at_ : Int))).bind fun y => skip_List_string_trail.l0 L key k y.e0 y.e1 y.e2 y.e3 y.e4 y.e5 y.e6 y.e7 y.e8 y.e9 y.e10 y.e11 (at_ : Int) ((lv : Int) - 1) := by
  have e0 : decide ((0 : Int) ≤ (lv : Int)) = true := decide_eq_true (by omega)
  have e1 := nd_idx hat
  have e2 : (0 : Int) ≤ (lv : Int) ∧ (lv : Int) < 12 := ⟨by omega, by omega⟩
  have e3 : w64 (St104.get (nd L.nodes at_).next_ (lv : Int)) = 0 := by
    have : St104.get (nd L.nodes at_).next_ (lv : Int) = 0 := hb
    rw [this]; rfl
  have e6 : w64 ((lv : Int) - 1) = (lv : Int) - 1 := w64_of (by omega) (by omega)
  simp only [skip_List_string_trail.l0, e0, e1, Option.bind_some, if_true, if_pos e2, e3, bne_self_eq_false, Bool.false_eq_true, if_false, Jn, e6]
theorem trail_row (hI : Inv L ord) (e : ord = A ++ B) (hA : ∀ i ∈ A, kl (ky L.nodes i) key) (hB : ∀ i ∈ B, ¬ kl (ky L.nodes i) key) {lv : Nat} (hlv : lv < 12) (y : St107) {T : St107} :
    ∀ (R : List Nat) (at_ : Nat), at_ < L.nodes.length → (∀ i ∈ R, i ∈ A) → Ch (nx L.nodes lv) at_ (R ++ onL L.nodes B lv) →
    (Ev (fun k => skip_List_string_trail.l0 L key k (St107.put y (lv : Int) (lastD at_ R : Nat)).e0 (St107.put y (lv : Int) (lastD at_ R : Nat)).e1 (St107.put y (lv : Int) (lastD at_ R : Nat)).e2 (St107.put y (lv : Int) (lastD at_ R : Nat)).e3 (St107.put y (lv : Int) (lastD at_ R : Nat)).e4 (St107.put y (lv : Int) (lastD at_ R : Nat)).e5 (St107.put y (lv : Int) (lastD at_ R : Nat)).e6 (St107.put y (lv : Int) (lastD at_ R : Nat)).e7 (St107.put y (lv : Int) (lastD at_ R : Nat)).e8 (St107.put y (lv : Int) (lastD at_ R : Nat)).e9 (St107.put y (lv : Int) (lastD at_ R : Nat)).e10 (St107.put y (lv : Int) (lastD at_ R : Nat)).e11 (lastD at_ R : Nat) ((lv : Int) - 1)) T) →
    Ev (fun k => skip_List_string_trail.l0 L key k y.e0 y.e1 y.e2 y.e3 y.e4 y.e5 y.e6 y.e7 y.e8 y.e9 y.e10 y.e11 (at_ : Int) (lv : Int)) T
  | [], at_, hat, hR, hc, h => by
    rw [lastD_nil] at h
    cases hb : onL L.nodes B lv with
    | nil =>
      rw [hb] at hc
      refine Ev.succ (Ev.congr (fun k => trail_end hI hlv hat hc) ?_)
      exact h
    | cons b r =>
      rw [hb] at hc
      have hbm : b ∈ B := (mem_onL.1 (by rw [hb]; simp : b ∈ onL L.nodes B lv)).1
      have hr := hI.rng b (by rw [e]; simp [hbm])
      obtain ⟨n1, c1⟩ := comp_ev (ky L.nodes b) key
      obtain ⟨n2, c2⟩ := h
      refine ⟨n1 + n2 + 1, fun k hk => ?_⟩
      obtain ⟨k, rfl⟩ : ∃ j, k = j + 1 := ⟨k - 1, by omega⟩
      show skip_List_string_trail.l0 L key (k + 1) y.e0 y.e1 y.e2 y.e3 y.e4 y.e5 y.e6 y.e7 y.e8 y.e9 y.e10 y.e11 (at_ : Int) (lv : Int) = some T
      rw [trail_go hI hlv hat hc.1 hr.1 hr.2 (c1 k (by omega)), if_neg (hB b hbm), Option.bind_some]
      exact c2 k (by omega)
  | b :: R, at_, hat, hR, hc, h => by
    rw [lastD_cons] at h
    have hbm : b ∈ A := hR b (by simp)
    have hr := hI.rng b (by rw [e]; simp [hbm])
    have ih := trail_row hI e hA hB hlv y R b hr.2 (fun i hi => hR i (List.mem_cons_of_mem _ hi)) hc.2 h
    obtain ⟨n1, c1⟩ := comp_ev (ky L.nodes b) key
    obtain ⟨n2, c2⟩ := ih
    refine ⟨n1 + n2 + 1, fun k hk => ?_⟩
    obtain ⟨k, rfl⟩ : ∃ j, k = j + 1 := ⟨k - 1, by omega⟩
    show skip_List_string_trail.l0 L key (k + 1) y.e0 y.e1 y.e2 y.e3 y.e4 y.e5 y.e6 y.e7 y.e8 y.e9 y.e10 y.e11 (at_ : Int) (lv : Int) = some T
    rw [trail_go hI hlv hat hc.1 hr.1 hr.2 (c1 k (by omega)), if_pos (hA b hbm)]
    exact c2 k (by omega)
theorem onL_mono {N : List Nd} {l : List Nat} {lv i : Nat} (h : i ∈ onL N l (lv + 1)) : i ∈ onL N l lv := by
  rw [mem_onL] at h ⊢
  exact ⟨h.1, by omega⟩
/-- Where a trail ends, at each level. -/
def la (N : List Nd) (A : List Nat) (lv : Nat) : Nat := lastD 0 (onL N A lv)
theorem trail_lv (hI : Inv L ord) (e : ord = A ++ B) (hA : ∀ i ∈ A, kl (ky L.nodes i) key) (hB : ∀ i ∈ B, ¬ kl (ky L.nodes i) key) :
    ∀ (n : Nat), n ≤ 12 → ∀ (at_ : Nat) (y : St107), (at_ = 0 ∨ ∀ lv, lv + 1 = n → at_ ∈ onL L.nodes A lv) →
    ∃ T, Ev (fun k => skip_List_string_trail.l0 L key k y.e0 y.e1 y.e2 y.e3 y.e4 y.e5 y.e6 y.e7 y.e8 y.e9 y.e10 y.e11 (at_ : Int) ((n : Int) - 1)) T ∧ ∀ lv : Nat, lv < 12 → St107.get T (lv : Int) = if lv < n then (la L.nodes A lv : Int) else St107.get y (lv : Int)
  | 0, hn, at_, y, hat => by
    refine ⟨y, Ev.succ ?_, fun lv hl => by simp⟩
    have e0 : decide ((0 : Int) ≤ ((0 : Nat) : Int) - 1) = false := decide_eq_false (by omega)
    simp only [skip_List_string_trail.l0, e0, Bool.false_eq_true, if_false]
    exact Ev.ret
  | n + 1, hn, at_, y, hat => by
    have hch := hI.chn n (by omega)
    rw [e, onL_app] at hch
    have en : ((n + 1 : Nat) : Int) - 1 = (n : Int) := by omega
    obtain ⟨R, hR1, hR2, hR3, hR4⟩ : ∃ R, (∀ i ∈ R, i ∈ A) ∧ Ch (nx L.nodes n) at_ (R ++ onL L.nodes B n) ∧ lastD at_ R = la L.nodes A n ∧ at_ < L.nodes.length := by
      rcases hat with rfl | hat
      · exact ⟨onL L.nodes A n, fun i hi => (mem_onL.1 hi).1, hch, rfl, by have := hI.len; omega⟩
      · have hm := hat n rfl
        obtain ⟨P, R, hPR⟩ := List.append_of_mem hm
        refine ⟨R, fun i hi => ?_, ?_, ?_, ?_⟩
        · exact (mem_onL.1 (by rw [hPR]; simp [hi] : i ∈ onL L.nodes A n)).1
        · rw [hPR, List.append_assoc, List.cons_append] at hch
          exact ch_split hch
        · unfold la
          rw [hPR, lastD_app]
        · exact (hI.rng at_ (by rw [e]; simp [(mem_onL.1 hm).1])).2
    have hla : la L.nodes A n = 0 ∨ la L.nodes A n ∈ onL L.nodes A n := by
      have := lastD_mem 0 (onL L.nodes A n)
      rcases List.mem_cons.1 this with h | h
      · exact .inl h
      · exact .inr h
    obtain ⟨T, hT, hT2⟩ := trail_lv hI e hA hB n (by omega) (la L.nodes A n) (St107.put y (n : Int) (la L.nodes A n : Nat)) (hla.imp id fun h lv hlv => by subst hlv; exact onL_mono h)
    refine ⟨T, ?_, fun lv hl => ?_⟩
    · rw [en]
      refine trail_row hI e hA hB (by omega) y R at_ hR4 hR1 hR2 ?_
      rw [hR3]
      exact hT
    · rw [hT2 lv hl, get_put7 y n (by omega)]
      by_cases h1 : lv < n
      · rw [if_pos h1, if_pos (by omega)]
      · rw [if_neg h1]
        by_cases h2 : lv = n
        · subst h2; rw [if_pos rfl, if_pos (by omega)]
        · rw [if_neg h2, if_neg (by omega)]
theorem la_top (hI : Inv L ord) (e : ord = A ++ B) {lv : Nat} (h : L.height ≤ (lv : Int)) : onL L.nodes A lv = [] ∧ onL L.nodes B lv = [] := by
  constructor
  · refine List.filter_eq_nil_iff.2 fun i hi => ?_
    have := hI.hts i (by rw [e]; simp [hi])
    simp; omega
  · refine List.filter_eq_nil_iff.2 fun i hi => ?_
    have := hI.hts i (by rw [e]; simp [hi])
    simp; omega
theorem trail_ev (hI : Inv L ord) (e : ord = A ++ B) (hA : ∀ i ∈ A, kl (ky L.nodes i) key) (hB : ∀ i ∈ B, ¬ kl (ky L.nodes i) key) :
    ∃ T, Ev (fun k => skip_List_string_trail k L key) T ∧ ∀ lv : Nat, lv < 12 → St107.get T (lv : Int) = (la L.nodes A lv : Int) := by
  obtain ⟨h0, h12⟩ := hI.hgt
  obtain ⟨n, hn⟩ : ∃ n : Nat, L.height = (n : Int) := ⟨L.height.toNat, by omega⟩
  obtain ⟨T, hT, hT2⟩ := trail_lv hI e hA hB n (by omega) 0 (⟨0, 0, 0, 0, 0, 0, 0, 0, 0, 0, 0, 0⟩ : St107) (.inl rfl)
  refine ⟨T, ?_, fun lv hl => ?_⟩
  · unfold skip_List_string_trail
    have : w64 (L.height - 1) = (n : Int) - 1 := by rw [hn]; exact w64_of (by omega) (by omega)
    simp only [this]
    exact hT
  · rw [hT2 lv hl]
    by_cases h : lv < n
    · rw [if_pos h]
    · rw [if_neg h]
      unfold la
      rw [(la_top hI e (by omega)).1]
      have : ∀ lv : Nat, lv < 12 → St107.get (⟨0, 0, 0, 0, 0, 0, 0, 0, 0, 0, 0, 0⟩ : St107) ((lv : Nat) : Int) = 0 := by decide
      rw [this lv hl]; rfl
theorem hts1 (hI : Inv L ord) (e : ord = A ++ B) : onL L.nodes A 0 = A ∧ onL L.nodes B 0 = B := by
  constructor
  · refine List.filter_eq_self.2 fun i hi => ?_
    have := hI.hts i (by rw [e]; simp [hi])
    simp; omega
  · refine List.filter_eq_self.2 fun i hi => ?_
    have := hI.hts i (by rw [e]; simp [hi])
    simp; omega
theorem la0 (hI : Inv L ord) (e : ord = A ++ B) : la L.nodes A 0 = lastD 0 A := by unfold la; rw [(hts1 hI e).1]
theorem lastD_in (hI : Inv L ord) (e : ord = A ++ B) (lv : Nat) : la L.nodes A lv < L.nodes.length := by
  have := lastD_mem 0 (onL L.nodes A lv)
  rcases List.mem_cons.1 this with h | h
  · unfold la; rw [h]; have := hI.len; omega
  · have h' : la L.nodes A lv ∈ onL L.nodes A lv := h
    exact (hI.rng _ (by rw [e]; simp [(mem_onL.1 h').1])).2
theorem nx_la (hI : Inv L ord) (e : ord = A ++ B) {lv : Nat} (hlv : lv < 12) : nx L.nodes lv (la L.nodes A lv) = hd (onL L.nodes B lv) := by
  have hch := hI.chn lv hlv
  rw [e, onL_app] at hch
  unfold la
  rcases List.eq_nil_or_concat (onL L.nodes A lv) with h | ⟨P, x, h⟩
  · rw [h] at hch ⊢
    exact ch_hd hch
  · rw [List.concat_eq_append] at h
    rw [h, lastD_app, lastD_nil]
    rw [h, List.append_assoc, List.singleton_append] at hch
    exact ch_hd (ch_split hch)
theorem none_ev (hI : Inv L ord) : skip_List_string_none L = some false := by
  unfold skip_List_string_none
  have : ((L.nodes.length : Int) == 0) = false := by rw [beq_eq_false_iff_ne]; have := hI.len; omega
  rw [this]
theorem hd_in (hI : Inv L ord) (e : ord = A ++ B) (lv : Nat) : 0 ≤ hd (onL L.nodes B lv) ∧ hd (onL L.nodes B lv) < (L.nodes.length : Int) := by
  cases h : onL L.nodes B lv with
  | nil => have := hI.len; simp [hd]; omega
  | cons b r =>
    have := hI.rng b (by rw [e]; simp [(mem_onL.1 (by rw [h]; simp : b ∈ onL L.nodes B lv)).1])
    simp [hd]; omega
/-- Seek tells the first one that is not below. -/
theorem seek_ev (hI : Inv L ord) (e : ord = A ++ B) (hA : ∀ i ∈ A, kl (ky L.nodes i) key) (hB : ∀ i ∈ B, ¬ kl (ky L.nodes i) key) : Ev (fun k => skip_List_string_Seek k L key) (hd B) := by
  obtain ⟨T, hT, hT2⟩ := trail_ev hI e hA hB
  unfold skip_List_string_Seek skip_List_string_Before
  rw [none_ev hI]
  simp only [Option.bind_some, Bool.false_eq_true, if_false]
  have t0 : St107.get T 0 = (la L.nodes A 0 : Int) := hT2 0 (by omega)
  have hx := nd_idx (lastD_in hI e 0)
  have hn := nx_la hI e (lv := 0) (by omega)
  have hr := hd_in hI e 0
  rw [(hts1 hI e).2] at hn hr
  have hs := hI.small
  have hl := hI.len
  refine Ev.bind (Ev.bind hT (Ev.of fun _ => by rw [t0])) ?_
  rw [hx, Option.bind_some]
  have hn' : St104.get (nd L.nodes (la L.nodes A 0)).next_ 0 = hd B := hn
  rw [hn', w64_of (by omega) (by omega)]
  exact Ev.ret
end
end Go.Proofs.Ytbaemhkfmddakaa.Mo

set_option maxRecDepth 100000
namespace Go.Proofs.Ytbaemhkfmddakaa.Mo
open Go Go.Proofs.Ytbaemhkfmddakaa.Sy
theorem w32_of {x : Int} (h1 : 0 ≤ x) (h2 : x ≤ 2147483647) : w32 x = x := by
  unfold w32 IntKind.wrap
  simp [IntKind.bits, IntKind.signed]
  omega
/-- What the loop over the levels has made so far. -/
structure LI (N0 : List Nd) (A : List Nat) (l : List Nd) (x : St104) (i : Nat) : Prop where
  len : l.length = N0.length
  same : ∀ j, (nd l j).key = (nd N0 j).key ∧ (nd l j).value = (nd N0 j).value ∧ (nd l j).height = (nd N0 j).height ∧ (nd l j).prev = (nd N0 j).prev
  nx : ∀ lv, lv < 12 → ∀ j, nx l lv j = if lv < i ∧ j = la N0 A lv then (N0.length : Int) else nx N0 lv j
  new : ∀ lv : Nat, lv < 12 → St104.get x (lv : Int) = if lv < i then Go.Proofs.Ytbaemhkfmddakaa.Mo.nx N0 lv (la N0 A lv) else 0
section
variable {L : skip_List_string} {ord A B : List Nat} {key : IKey}
theorem li_step (hI : Inv L ord) (e : ord = A ++ B) {l : List Nd} {x : St104} {i : Nat} (hi : i < 12) (h : LI L.nodes A l x i) :
    LI L.nodes A (l.set (la L.nodes A i) ⟨(nd l (la L.nodes A i)).key, (nd l (la L.nodes A i)).value, (nd l (la L.nodes A i)).height, St104.put (nd l (la L.nodes A i)).next_ (i : Int) (L.nodes.length : Int), (nd l (la L.nodes A i)).prev⟩)
      (St104.put x (i : Int) (St104.get (nd l (la L.nodes A i)).next_ (i : Int))) (i + 1) := by
  have ha : la L.nodes A i < l.length := by rw [h.len]; exact lastD_in hI e i
  refine ⟨by rw [List.length_set]; exact h.len, fun j => ?_, fun lv hlv j => ?_, fun lv hlv => ?_⟩
  · rw [nd_set ha]
    by_cases hj : j = la L.nodes A i
    · subst hj; rw [if_pos rfl]; exact h.same _
    · rw [if_neg hj]; exact h.same j
  · unfold nx
    rw [nd_set ha]
    by_cases hj : j = la L.nodes A i
    · subst hj
      rw [if_pos rfl]
      show St104.get (St104.put (nd l (la L.nodes A i)).next_ (i : Int) (L.nodes.length : Int)) (lv : Int) = _
      rw [get_put4 _ i hi]
      by_cases h1 : lv = i
      · subst h1; rw [if_pos rfl, if_pos ⟨by omega, rfl⟩]
      · rw [if_neg h1]
        have := h.nx lv hlv (la L.nodes A i)
        unfold nx at this
        rw [this]
        by_cases h2 : lv < i ∧ la L.nodes A i = la L.nodes A lv
        · rw [if_pos h2, if_pos ⟨by omega, h2.2⟩]
        · rw [if_neg h2, if_neg (fun g => h2 ⟨by omega, g.2⟩)]
    · rw [if_neg hj]
      have := h.nx lv hlv j
      unfold nx at this
      rw [this]
      by_cases h2 : lv < i ∧ j = la L.nodes A lv
      · rw [if_pos h2, if_pos ⟨by omega, h2.2⟩]
      · rw [if_neg h2, if_neg (fun g => h2 ⟨?_, g.2⟩)]
        rcases Nat.lt_or_ge lv i with q | q
        · exact q
        · obtain rfl : lv = i := by omega
          exact absurd g.2 hj
  · rw [get_put4 _ i hi]
    by_cases h1 : lv = i
    · subst h1
      rw [if_pos rfl, if_pos (by omega)]
      have := h.nx lv hlv (la L.nodes A lv)
      unfold nx at this
      rw [this, if_neg (by omega)]
      rfl
    · rw [if_neg h1, h.new lv hlv]
      by_cases h2 : lv < i
      · rw [if_pos h2, if_pos (by omega)]
      · rw [if_neg h2, if_neg (by omega)]
/-- What an insertion leaves. -/
structure Made (L L' : skip_List_string) (ord : List Nat) (key : IKey) (v : ByteArray) : Prop where
  inv : Inv L' ord
  len : L'.nodes.length = L.nodes.length + 1
  old : ∀ j, j < L.nodes.length → (nd L'.nodes j).key = (nd L.nodes j).key ∧ (nd L'.nodes j).value = (nd L.nodes j).value
  new : (nd L'.nodes L.nodes.length).key = key ∧ (nd L'.nodes L.nodes.length).value = v
theorem made_of (hI : Inv L ord) (e : ord = A ++ B) (hA : ∀ i ∈ A, kl (ky L.nodes i) key) (hB : ∀ i ∈ B, ¬ kl (ky L.nodes i) key) (hne : ∀ i ∈ ord, ky L.nodes i ≠ key) (hfull : ord.length < 1048576) {v : ByteArray} {h : Nat} (h1 : 1 ≤ h) (h2 : h ≤ 12)
    {N' : List Nd} {last : Int} {H : Int} (hH : H = maxI L.height (h : Int)) (hlen : N'.length = L.nodes.length + 1)
    (hold : ∀ j, j < L.nodes.length → (nd N' j).key = (nd L.nodes j).key ∧ (nd N' j).value = (nd L.nodes j).value ∧ (nd N' j).height = (nd L.nodes j).height ∧ (nd N' j).prev = if (0 < hd B ∧ (j : Int) = hd B) then (L.nodes.length : Int) else (nd L.nodes j).prev)
    (hnew : (nd N' L.nodes.length).key = key ∧ (nd N' L.nodes.length).value = v ∧ (nd N' L.nodes.length).height = (h : Int) ∧ (nd N' L.nodes.length).prev = (la L.nodes A 0 : Int))
    (hnx : ∀ lv, lv < 12 → (∀ j, j < L.nodes.length → nx N' lv j = if lv < h ∧ j = la L.nodes A lv then (L.nodes.length : Int) else nx L.nodes lv j) ∧ nx N' lv L.nodes.length = if lv < h then nx L.nodes lv (la L.nodes A lv) else 0)
    (hlast : last = if 0 < hd B then L.last else (L.nodes.length : Int)) : Made L ⟨N', L.most, H, last⟩ (A ++ L.nodes.length :: B) key v := by
  have hlt : ∀ i ∈ A ++ B, 1 ≤ i ∧ i < L.nodes.length := fun i hi => hI.rng i (by rw [e]; exact hi)
  have hnA : L.nodes.length ∉ A ++ B := fun h => by have := hlt _ h; omega
  have hkyo : ∀ i, i < L.nodes.length → ky N' i = ky L.nodes i := fun i hi => (hold i hi).1
  have hhto : ∀ i, i < L.nodes.length → ht N' i = ht L.nodes i := fun i hi => (hold i hi).2.2.1
  have hAm : ∀ i ∈ A, 1 ≤ i ∧ i < L.nodes.length := fun i hi => hlt i (by simp [hi])
  have hBm : ∀ i ∈ B, 1 ≤ i ∧ i < L.nodes.length := fun i hi => hlt i (by simp [hi])
  have hkn : ky N' L.nodes.length = key := hnew.1
  have hHge : L.height ≤ H ∧ (h : Int) ≤ H ∧ H ≤ 12 := by
    have := hI.hgt
    rw [hH]; unfold maxI; split <;> omega
  have hhd : 0 < hd B ∨ B = [] := by
    cases B with
    | nil => exact .inr rfl
    | cons b r => left; have := hBm b (by simp); simp [hd]; omega
  refine ⟨⟨hI.most, ?_, ?_, ?_, ?_, ?_, ?_, ⟨(by have := hI.hgt; have := hHge.1; show 0 ≤ H; omega), hHge.2.2⟩, ?_, ?_, ?_⟩, hlen, fun j hj => ⟨(hold j hj).1, (hold j hj).2.1⟩, ⟨hnew.1, hnew.2.1⟩⟩
  · show N'.length = _
    rw [hlen, hI.len, e]; simp; omega
  · rw [e] at hfull; simp at hfull ⊢; omega
  · intro i hi
    show 1 ≤ i ∧ i < N'.length
    rw [hlen]
    simp only [List.mem_append, List.mem_cons] at hi
    rcases hi with hi | rfl | hi
    · have := hAm i hi; omega
    · have := hI.len; omega
    · have := hBm i hi; omega
  · have hn := hI.nd
    rw [e] at hn
    rw [List.nodup_append] at hn ⊢
    obtain ⟨n1, n2, n3⟩ := hn
    refine ⟨n1, List.nodup_cons.2 ⟨fun g => hnA (by simp [g]), n2⟩, fun a ha b hb => ?_⟩
    rcases List.mem_cons.1 hb with rfl | hb
    · rintro rfl; exact hnA (by simp [ha])
    · exact n3 a ha b hb
  · have hs := hI.srt
    rw [e] at hs
    show List.Pairwise (fun i j => kl (ky N' i) (ky N' j)) (A ++ L.nodes.length :: B)
    rw [List.pairwise_append] at hs ⊢
    obtain ⟨s1, s2, s3⟩ := hs
    refine ⟨s1.imp_of_mem fun ha hb g => ?_, List.pairwise_cons.2 ⟨fun j hj => ?_, s2.imp_of_mem fun ha hb g => ?_⟩, fun a ha b hb => ?_⟩
    · rw [hkyo _ (hAm _ ha).2, hkyo _ (hAm _ hb).2]; exact g
    · rw [hkn, hkyo _ (hBm _ hj).2]
      refine Decidable.byContradiction fun g => hne j (by rw [e]; simp [hj]) (kl_tri (hB j hj) g)
    · rw [hkyo _ (hBm _ ha).2, hkyo _ (hBm _ hb).2]; exact g
    · rcases List.mem_cons.1 hb with rfl | hb
      · rw [hkyo _ (hAm _ ha).2, hkn]; exact hA a ha
      · rw [hkyo _ (hAm _ ha).2, hkyo _ (hBm _ hb).2]; exact s3 a ha b hb
  · intro i hi
    show 1 ≤ ht N' i ∧ ht N' i ≤ H
    simp only [List.mem_append, List.mem_cons] at hi
    rcases hi with hi | rfl | hi
    · rw [hhto i (hAm i hi).2]; have := hI.hts i (by rw [e]; simp [hi]); omega
    · have : ht N' L.nodes.length = (h : Int) := hnew.2.2.1
      rw [this]; omega
    · rw [hhto i (hBm i hi).2]; have := hI.hts i (by rw [e]; simp [hi]); omega
  · intro lv hlv
    show Ch (nx N' lv) 0 (onL N' (A ++ L.nodes.length :: B) lv)
    obtain ⟨x1, x2⟩ := hnx lv hlv
    have oA : onL N' A lv = onL L.nodes A lv := List.filter_congr fun i hi => by rw [hhto i (hAm i hi).2]
    have oB : onL N' B lv = onL L.nodes B lv := List.filter_congr fun i hi => by rw [hhto i (hBm i hi).2]
    have hch := hI.chn lv hlv
    rw [e, onL_app] at hch
    have hht : ht N' L.nodes.length = (h : Int) := hnew.2.2.1
    have hmem : ∀ j ∈ 0 :: (onL L.nodes A lv ++ onL L.nodes B lv), j < L.nodes.length := fun j hj => by
      simp only [List.mem_cons, List.mem_append, mem_onL] at hj
      rcases hj with rfl | hj | hj
      · have := hI.len; omega
      · exact (hAm j hj.1).2
      · exact (hBm j hj.1).2
    rw [onL_app, oA]
    by_cases hh : lv < h
    · have : onL N' (L.nodes.length :: B) lv = L.nodes.length :: onL L.nodes B lv := by
        rw [← oB]; unfold onL; rw [List.filter_cons_of_pos (by rw [hht]; simp; omega)]
      rw [this]
      have hla := lastD_in hI e lv
      refine ch_insert hch ?_ (fun g => by have := hmem _ g; omega) ?_ ?_ fun j hj hne => ?_
      · refine List.nodup_cons.2 ⟨fun g => ?_, ?_⟩
        · simp only [List.mem_append, mem_onL] at g
          rcases g with g | g
          · have := hAm 0 g.1; omega
          · have := hBm 0 g.1; omega
        · rw [← onL_app, ← e]
          exact hI.nd.sublist List.filter_sublist
      · show nx N' lv (la L.nodes A lv) = _
        rw [x1 _ hla, if_pos ⟨hh, rfl⟩]
      · rw [x2, if_pos hh]; rfl
      · rw [x1 j (hmem j hj), if_neg (fun g => hne g.2)]
    · have : onL N' (L.nodes.length :: B) lv = onL L.nodes B lv := by
        rw [← oB]; unfold onL; rw [List.filter_cons_of_neg (by rw [hht]; simp; omega)]
      rw [this]
      exact ch_congr (fun j hj => by rw [x1 j (hmem j hj), if_neg (fun g => hh g.1)]) hch
  · show Pc (pv N') 0 (A ++ L.nodes.length :: B)
    have hp := hI.prv
    rw [e] at hp
    have hn := hI.nd
    rw [e] at hn
    refine pc_insert hp hn hnA ?_ (fun b hb => ?_) fun j hj hne => ?_
    · have : pv N' L.nodes.length = (la L.nodes A 0 : Int) := hnew.2.2.2
      rw [this, la0 hI e]
    · cases B with
      | nil => cases hb
      | cons c r =>
        simp only [List.head?_cons, Option.some.injEq] at hb
        subst hb
        have hc := hBm c (by simp)
        show (nd N' c).prev = _
        rw [(hold c hc.2).2.2.2, if_pos ⟨by simp [hd]; omega, rfl⟩]
    · show (nd N' j).prev = (nd L.nodes j).prev
      rw [(hold j (hlt j hj).2).2.2.2, if_neg ?_]
      rintro ⟨g1, g2⟩
      cases B with
      | nil => simp [hd] at g1
      | cons c r =>
        apply hne
        simp only [hd] at g2
        simp only [List.head?_cons, Option.some.injEq]
        omega
  · show last = _
    rw [hlast, lastD_app]
    rcases hhd with g | g
    · rw [if_pos g, hI.lst, e]
      cases B with
      | nil => simp [hd] at g
      | cons b r => rw [lastD_app, lastD_cons]
    · subst g
      rw [if_neg (by simp [hd])]; rfl
theorem insert_l0 (hI : Inv L ord) (e : ord = A ++ B) (hA : ∀ i ∈ A, kl (ky L.nodes i) key) (hB : ∀ i ∈ B, ¬ kl (ky L.nodes i) key) (hne : ∀ i ∈ ord, ky L.nodes i ≠ key) (hfull : ord.length < 1048576) (v : ByteArray) {h : Nat} (h1 : 1 ≤ h) (h2 : h ≤ 12)
    {T : St107} (hT : ∀ lv : Nat, lv < 12 → St107.get T (lv : Int) = (la L.nodes A lv : Int)) :
    ∀ (d i : Nat) (l : List Nd) (x : St104), i + d = h → LI L.nodes A l x i →
    ∃ L', Ev (fun k => skip_List_string_Insert.l0 L key v (h : Int) T k l x.e0 x.e1 x.e2 x.e3 x.e4 x.e5 x.e6 x.e7 x.e8 x.e9 x.e10 x.e11 (i : Int)) (0, L') ∧ Made L L' (A ++ L.nodes.length :: B) key v
  | 0, i, l, x, hd0, hli => by
    have hih : i = h := by omega
    subst hih
    have hlen := hI.len
    have hsm := hI.small
    have e0 : decide (((i : Nat) : Int) < (i : Int)) = false := decide_eq_false (by omega)
    have hwn : w32 (L.nodes.length : Int) = (L.nodes.length : Int) := w32_of (by omega) (by omega)
    have ht0 : St107.get T 0 = (la L.nodes A 0 : Int) := hT 0 (by omega)
    have hla := lastD_in hI e 0
    have hw0 : w32 (St107.get T 0) = (la L.nodes A 0 : Int) := by rw [ht0]; exact w32_of (by omega) (by omega)
    have hx0 : St104.get x 0 = hd B := by
      have := hli.new 0 (by omega)
      rw [if_pos (by omega), nx_la hI e (by omega), (hts1 hI e).2] at this
      exact this
    have hhr := hd_in hI e 0
    rw [(hts1 hI e).2] at hhr
    have hwx : w64 (St104.get x 0) = hd B := by rw [hx0]; exact w64_of (by omega) (by omega)
    have hlast0 : hd B = 0 ∨ 0 < hd B := by omega
    have hll := hli.len
    have hpush : push 2010535547779 l (⟨key, v, (i : Int), x, (la L.nodes A 0 : Int)⟩ : Nd) = some (l ++ [⟨key, v, (i : Int), x, (la L.nodes A 0 : Int)⟩]) := push_ok (by omega)
    have key0 : ∀ j, j < L.nodes.length → nd (l ++ [(⟨key, v, (i : Int), x, (la L.nodes A 0 : Int)⟩ : Nd)]) j = nd l j := fun j hj => by rw [nd_snoc, if_neg (by omega)]
    have key1 : nd (l ++ [(⟨key, v, (i : Int), x, (la L.nodes A 0 : Int)⟩ : Nd)]) L.nodes.length = ⟨key, v, (i : Int), x, (la L.nodes A 0 : Int)⟩ := by rw [nd_snoc, if_pos (by omega)]
    rcases hlast0 with hz | hz
    · refine ⟨⟨l ++ [⟨key, v, (i : Int), x, (la L.nodes A 0 : Int)⟩], L.most, maxI L.height (i : Int), (L.nodes.length : Int)⟩, Ev.succ ?_, ?_⟩
      · have e1 : (hd B != 0) = false := by rw [hz]; rfl
        simp only [skip_List_string_Insert.l0, e0, Bool.false_eq_true, if_false, hw0, hpush, Option.bind_some, Jn]
        simp only [show (⟨x.e0, x.e1, x.e2, x.e3, x.e4, x.e5, x.e6, x.e7, x.e8, x.e9, x.e10, x.e11⟩ : St104) = x from rfl, hwx, e1, Bool.false_eq_true, if_false, hpush, Option.bind_some]
        exact Ev.ret
      · refine made_of hI e hA hB hne hfull h1 h2 rfl (by simp [hll]) (fun j hj => ?_) ?_ (fun lv hlv => ⟨fun j hj => ?_, ?_⟩) (by rw [if_neg (by omega)])
        · rw [key0 j hj, if_neg (by omega)]
          exact hli.same j
        · rw [key1]; exact ⟨rfl, rfl, rfl, rfl⟩
        · unfold nx; rw [key0 j hj]
          exact hli.nx lv hlv j
        · unfold nx; rw [key1]
          exact hli.new lv hlv
    · obtain ⟨b, hb⟩ : ∃ b : Nat, hd B = (b : Int) := ⟨(hd B).toNat, by omega⟩
      have hbl : b < L.nodes.length := by omega
      have hbl' : b < (l ++ [(⟨key, v, (i : Int), x, (la L.nodes A 0 : Int)⟩ : Nd)]).length := by simp; omega
      have hidx := nd_idx hbl'
      have hupd : ∀ y : Nd, upd (l ++ [(⟨key, v, (i : Int), x, (la L.nodes A 0 : Int)⟩ : Nd)]) (b : Int) y = some ((l ++ [(⟨key, v, (i : Int), x, (la L.nodes A 0 : Int)⟩ : Nd)]).set b y) := fun y => by
        unfold upd
        rw [if_pos ⟨by omega, by omega⟩, Int.toNat_natCast]
      refine ⟨⟨(l ++ [(⟨key, v, (i : Int), x, (la L.nodes A 0 : Int)⟩ : Nd)]).set b ⟨(nd l b).key, (nd l b).value, (nd l b).height, (nd l b).next_, (L.nodes.length : Int)⟩, L.most, maxI L.height (i : Int), L.last⟩, Ev.succ ?_, ?_⟩
      · have e1 : (((b : Nat) : Int) != 0) = true := by rw [bne_iff_ne]; omega
        simp only [skip_List_string_Insert.l0, e0, Bool.false_eq_true, if_false, hw0, hpush, Option.bind_some, Jn]
        simp only [show (⟨x.e0, x.e1, x.e2, x.e3, x.e4, x.e5, x.e6, x.e7, x.e8, x.e9, x.e10, x.e11⟩ : St104) = x from rfl, hwx, hb, e1, if_true, hpush, Option.bind_some, hidx, hupd, hwn, key0 b hbl]
        exact Ev.ret
      · have nset : ∀ j, nd ((l ++ [(⟨key, v, (i : Int), x, (la L.nodes A 0 : Int)⟩ : Nd)]).set b ⟨(nd l b).key, (nd l b).value, (nd l b).height, (nd l b).next_, (L.nodes.length : Int)⟩) j = if j = b then ⟨(nd l b).key, (nd l b).value, (nd l b).height, (nd l b).next_, (L.nodes.length : Int)⟩ else nd (l ++ [(⟨key, v, (i : Int), x, (la L.nodes A 0 : Int)⟩ : Nd)]) j := fun j => nd_set hbl' _ j
        refine made_of hI e hA hB hne hfull h1 h2 rfl (by simp [hll]) (fun j hj => ?_) ?_ (fun lv hlv => ⟨fun j hj => ?_, ?_⟩) (by rw [if_pos hz])
        · rw [nset]
          have hs := hli.same j
          by_cases g : j = b
          · subst g
            rw [if_pos rfl, if_pos ⟨hz, hb.symm⟩]
            exact ⟨hs.1, hs.2.1, hs.2.2.1, rfl⟩
          · rw [if_neg g, key0 j hj, if_neg (fun q => g (by omega))]
            exact hs
        · rw [nset, if_neg (by omega), key1]; exact ⟨rfl, rfl, rfl, rfl⟩
        · have q := hli.nx lv hlv j
          unfold nx at q ⊢
          rw [nset]
          by_cases g : j = b
          · subst g; rw [if_pos rfl]; exact q
          · rw [if_neg g, key0 j hj]; exact q
        · unfold nx
          rw [nset, if_neg (by omega), key1]
          exact hli.new lv hlv
  | d + 1, i, l, x, hd0, hli => by
    have hlen := hI.len
    have hsm := hI.small
    have e0 : decide ((i : Int) < (h : Int)) = true := decide_eq_true (by omega)
    have e2 : (0 : Int) ≤ (i : Int) ∧ (i : Int) < 12 := ⟨by omega, by omega⟩
    have hla := lastD_in hI e i
    have hll := hli.len
    have hti := hT i (by omega)
    have hidx := nd_idx (N := l) (i := la L.nodes A i) (by omega)
    have hwn : w32 (L.nodes.length : Int) = (L.nodes.length : Int) := w32_of (by omega) (by omega)
    have hw1 : w64 ((i : Int) + 1) = ((i + 1 : Nat) : Int) := w64_succ (by omega)
    have hupd : ∀ y : Nd, upd l (la L.nodes A i : Int) y = some (l.set (la L.nodes A i) y) := fun y => by
      unfold upd
      rw [if_pos ⟨by omega, by omega⟩, Int.toNat_natCast]
    obtain ⟨L', hL', hM⟩ := insert_l0 hI e hA hB hne hfull v h1 h2 hT d (i + 1) _ _ (by omega) (li_step hI e (by omega) hli)
    refine ⟨L', Ev.succ ?_, hM⟩
    simp only [skip_List_string_Insert.l0, e0, if_true, if_pos e2, hti, hidx, Option.bind_some, hwn, hupd, hw1]
    simp only [show (⟨x.e0, x.e1, x.e2, x.e3, x.e4, x.e5, x.e6, x.e7, x.e8, x.e9, x.e10, x.e11⟩ : St104) = x from rfl]
    exact hL'
end
end Go.Proofs.Ytbaemhkfmddakaa.Mo

set_option maxRecDepth 100000
namespace Go.Proofs.Ytbaemhkfmddakaa.Mo
open Go Go.Proofs.Ytbaemhkfmddakaa.Sy
section
variable {L : skip_List_string} {ord A B P S : List Nat} {key : IKey}
theorem pc_at {f : Nat → Int} : ∀ {P S : List Nat} {a i : Nat}, Pc f a (P ++ i :: S) → f i = (lastD a P : Nat)
  | [], S, a, i, h => h.1
  | p :: P, S, a, i, h => by rw [lastD_cons]; exact pc_at (P := P) h.2
theorem ch0 (hI : Inv L ord) : Ch (nx L.nodes 0) 0 ord := by
  have h := hI.chn 0 (by omega)
  have := (hts1 hI (A := ord) (B := []) (by simp)).1
  rwa [this] at h
theorem nx_at (hI : Inv L ord) {i : Nat} (e : ord = P ++ i :: S) : nx L.nodes 0 i = hd S := by
  have h := ch0 hI
  rw [e] at h
  exact ch_hd (ch_split h)
theorem hd_rng (hI : Inv L ord) (e : ord = P ++ S) : 0 ≤ hd S ∧ hd S ≤ 1048577 := by
  have hs := hI.small
  have hl := hI.len
  cases S with
  | nil => simp [hd]
  | cons b r =>
    have := hI.rng b (by rw [e]; simp)
    simp [hd]; omega
theorem lastD_rng (hI : Inv L ord) (e : ord = P ++ S) : (lastD 0 P : Nat) ≤ 1048577 := by
  have hs := hI.small
  have hl := hI.len
  rcases List.mem_cons.1 (lastD_mem 0 P) with h | h
  · omega
  · have := hI.rng (lastD 0 P) (by rw [e]; simp [h]); omega
theorem first_ev (hI : Inv L ord) : skip_List_string_First L = some (hd ord) := by
  unfold skip_List_string_First
  have h0 : (0 : Nat) < L.nodes.length := by have := hI.len; omega
  have h1 := nd_idx h0
  have h2 : St104.get (nd L.nodes 0).next_ 0 = hd ord := ch_hd (ch0 hI)
  have hr := hd_rng hI (P := []) (S := ord) rfl
  have h1' : idx L.nodes 0 = some (nd L.nodes 0) := h1
  rw [none_ev hI, Option.bind_some]
  simp only [Bool.false_eq_true, if_false, h1', Option.bind_some, h2]
  rw [w64_of (by omega) (by omega)]
theorem last_ev (hI : Inv L ord) : skip_List_string_Last L = some ((lastD 0 ord : Nat) : Int) := by
  unfold skip_List_string_Last
  rw [none_ev hI, Option.bind_some]
  simp only [Bool.false_eq_true, if_false, hI.lst]
theorem has_ev (hI : Inv L ord) {i : Nat} (hi : i ∈ ord) : skip_List_string_has L (i : Int) = some true := by
  unfold skip_List_string_has
  have := hI.rng i hi
  rw [none_ev hI, Option.bind_some, decide_eq_true (by omega : (1 : Int) ≤ (i : Int)), decide_eq_true (by omega : (i : Int) < (L.nodes.length : Int))]
  rfl
theorem next_ev (hI : Inv L ord) {i : Nat} (e : ord = P ++ i :: S) : skip_List_string_Next L (i : Int) = some (hd S) := by
  unfold skip_List_string_Next
  have hi : i ∈ ord := by rw [e]; simp
  have hr := hI.rng i hi
  have h2 : St104.get (nd L.nodes i).next_ 0 = hd S := nx_at hI e
  have hh := hd_rng hI (P := P ++ [i]) (S := S) (by rw [e]; simp)
  rw [has_ev hI hi, Option.bind_some]
  simp only [Bool.not_true, Bool.false_eq_true, if_false, nd_idx hr.2, Option.bind_some, h2]
  rw [w64_of (by omega) (by omega)]
theorem prev_ev (hI : Inv L ord) {i : Nat} (e : ord = P ++ i :: S) : skip_List_string_Prev L (i : Int) = some ((lastD 0 P : Nat) : Int) := by
  unfold skip_List_string_Prev
  have hi : i ∈ ord := by rw [e]; simp
  have hr := hI.rng i hi
  have h2 : (nd L.nodes i).prev = (lastD 0 P : Nat) := by
    have := hI.prv
    rw [e] at this
    exact pc_at this
  have hh := lastD_rng hI (P := P) (S := i :: S) e
  rw [has_ev hI hi, Option.bind_some]
  simp only [Bool.not_true, Bool.false_eq_true, if_false, nd_idx hr.2, Option.bind_some, h2]
  rw [w64_of (by omega) (by omega)]
def eN (N : List Nd) (i : Nat) : Entry := ⟨(ky N i).Key, (ky N i).Seq, (ky N i).Kind, (nd N i).value⟩
theorem node_ev (hI : Inv L ord) {i : Nat} (hi : i ∈ ord) : skip_List_string_Node L (i : Int) = some (ky L.nodes i, (nd L.nodes i).value, true) := by
  unfold skip_List_string_Node
  have hr := hI.rng i hi
  rw [has_ev hI hi, Option.bind_some]
  simp only [Bool.not_true, Bool.false_eq_true, if_false, nd_idx hr.2, Option.bind_some]
  rfl
theorem ieqb {x y : IKey} : IKey.eqb x y = true ↔ x = y := by
  obtain ⟨a, b, c⟩ := x
  obtain ⟨a', b', c'⟩ := y
  simp only [IKey.eqb, Bool.and_eq_true, sEq_iff, beq_iff_eq, Bool.and_true, IKey.mk.injEq, and_assoc, and_true]
/-- An insertion, whole. -/
theorem insert_ev (hI : Inv L ord) (e : ord = A ++ B) (hA : ∀ i ∈ A, kl (ky L.nodes i) key) (hB : ∀ i ∈ B, ¬ kl (ky L.nodes i) key) (v : ByteArray) {h : Nat} (h1 : 1 ≤ h) (h2 : h ≤ 12) (hv : ikey_Valid key = some true) :
    ((∃ b r, B = b :: r ∧ ky L.nodes b = key) ∧ Ev (fun k => skip_List_string_Insert k L key v (h : Int)) (81, L)) ∨
    ((∀ b r, B = b :: r → ky L.nodes b ≠ key) ∧ ((1048576 ≤ ord.length ∧ Ev (fun k => skip_List_string_Insert k L key v (h : Int)) (82, L)) ∨
      (ord.length < 1048576 ∧ ∃ L', Ev (fun k => skip_List_string_Insert k L key v (h : Int)) (0, L') ∧ Made L L' (A ++ L.nodes.length :: B) key v))) := by
  have hs := seek_ev hI e hA hB
  have hr := hd_rng hI (P := A) (S := B) e
  have hlen := hI.len
  have hmost := hI.most
  have eh : (decide ((h : Int) < 1) || decide (12 < (h : Int))) = false := by
    rw [decide_eq_false (by omega), decide_eq_false (by omega)]; rfl
  obtain ⟨T, hT, hT2⟩ := trail_ev hI e hA hB
  have rest : (∀ b r, B = b :: r → ky L.nodes b ≠ key) →
      ∀ (Q : Int × skip_List_string), Ev (fun k => if decide (L.most < (L.nodes.length : Int)) = true then some (82, L) else (skip_List_string_trail k L key).bind fun r40 => skip_List_string_Insert.l0 L key v (h : Int) r40 k L.nodes 0 0 0 0 0 0 0 0 0 0 0 0 0) Q →
      Ev (fun k => skip_List_string_Insert k L key v (h : Int)) Q := fun hne Q hQ => by
    unfold skip_List_string_Insert
    simp only [none_ev hI, Option.bind_some, Bool.false_eq_true, if_false, hv, Bool.not_true, eh]
    refine Ev.bind hs ?_
    cases B with
    | nil =>
      have : (hd ([] : List Nat) != 0) = false := rfl
      simp only [this, Bool.false_eq_true, if_false, Jn]
      exact hQ
    | cons b r =>
      have hb := hI.rng b (by rw [e]; simp)
      have e1 : (hd (b :: r) != 0) = true := by rw [bne_iff_ne]; simp [hd]; omega
      have e2 : idx L.nodes (hd (b :: r)) = some (nd L.nodes b) := nd_idx hb.2
      have e3 : IKey.eqb (nd L.nodes b).key key = false := by
        rw [Bool.eq_false_iff, ne_eq, ieqb]; exact hne b r rfl
      simp only [e1, if_true, e2, Option.bind_some, e3, Bool.false_eq_true, if_false, Jn]
      exact hQ
  by_cases hthere : ∃ b r, B = b :: r ∧ ky L.nodes b = key
  · left
    refine ⟨hthere, ?_⟩
    obtain ⟨b, r, rfl, hk⟩ := hthere
    unfold skip_List_string_Insert
    simp only [none_ev hI, Option.bind_some, Bool.false_eq_true, if_false, hv, Bool.not_true, eh]
    refine Ev.bind hs ?_
    have hb := hI.rng b (by rw [e]; simp)
    have e1 : (hd (b :: r) != 0) = true := by rw [bne_iff_ne]; simp [hd]; omega
    have e2 : idx L.nodes (hd (b :: r)) = some (nd L.nodes b) := nd_idx hb.2
    have e3 : IKey.eqb (nd L.nodes b).key key = true := ieqb.2 hk
    simp only [e1, if_true, e2, Option.bind_some, e3, Jn]
    exact Ev.ret
  · right
    have hne : ∀ b r, B = b :: r → ky L.nodes b ≠ key := fun b r e' hk => hthere ⟨b, r, e', hk⟩
    refine ⟨hne, ?_⟩
    rcases Nat.lt_or_ge ord.length 1048576 with hf | hf
    · right
      refine ⟨hf, ?_⟩
      have hne2 : ∀ i ∈ ord, ky L.nodes i ≠ key := fun i hi hk => by
        rw [e] at hi
        rcases List.mem_append.1 hi with hi | hi
        · exact kl_irrefl key (by have := hA i hi; rwa [hk] at this)
        · cases hBe : B with
          | nil => rw [hBe] at hi; cases hi
          | cons b r =>
            rw [hBe] at hi
            rcases List.mem_cons.1 hi with rfl | hi
            · exact hne _ r hBe hk
            · have hs := hI.srt
              rw [e, hBe] at hs
              have := (List.pairwise_cons.1 (List.pairwise_append.1 hs).2.1).1 i hi
              rw [hk] at this
              exact hB b (by rw [hBe]; simp) this
      obtain ⟨L', hL', hM⟩ := insert_l0 hI e hA hB hne2 hf v h1 h2 hT2 h 0 L.nodes ⟨0, 0, 0, 0, 0, 0, 0, 0, 0, 0, 0, 0⟩ (by omega)
        ⟨rfl, fun j => ⟨rfl, rfl, rfl, rfl⟩, fun lv hlv j => by rw [if_neg (by omega)], fun lv hlv => by
          rw [if_neg (by omega)]
          have : ∀ lv : Nat, lv < 12 → St104.get (⟨0, 0, 0, 0, 0, 0, 0, 0, 0, 0, 0, 0⟩ : St104) ((lv : Nat) : Int) = 0 := by decide
          exact this lv hlv⟩
      refine ⟨L', rest hne _ ?_, hM⟩
      have ef : decide (L.most < (L.nodes.length : Int)) = false := decide_eq_false (by rw [hmost]; omega)
      simp only [ef, Bool.false_eq_true, if_false]
      exact Ev.bind hT hL'
    · left
      refine ⟨hf, rest hne _ ?_⟩
      have ef : decide (L.most < (L.nodes.length : Int)) = true := decide_eq_true (by rw [hmost]; omega)
      simp only [ef, if_true]
      exact Ev.ret
end
section
variable {L : skip_List_string} {ord A B P S : List Nat} {key : IKey} {E : List Entry}
theorem idx_map2 {α β : Type} (f : α → β) (l : List α) (n : Nat) : idx (l.map f) (n : Int) = (l[n]?).map f := by rw [idx_nat, List.getElem?_map]
theorem place_l0 (hI : Inv L ord) (hE : E = ord.map (eN L.nodes)) (e : ord = A ++ B) (hA : ∀ i ∈ A, kl (ky L.nodes i) key) (hB : ∀ i ∈ B, ¬ kl (ky L.nodes i) key) :
    ∀ (d i j : Nat), j - i ≤ d → i ≤ A.length → A.length ≤ j → j ≤ ord.length → Ev (fun k => r10_place.l0 E key k (i : Int) (j : Int)) (A.length : Int)
  | 0, i, j, hd, h1, h2, h3 => by
    have : i = j := by omega
    subst this
    have : A.length = i := by omega
    refine Ev.succ ?_
    have e0 : decide ((i : Int) < (i : Int)) = false := decide_eq_false (by omega)
    simp only [r10_place.l0, e0, Bool.false_eq_true, if_false, this]
    exact Ev.ret
  | d + 1, i, j, hd, h1, h2, h3 => by
    have hs := hI.small
    by_cases hij : i < j
    · have e0 : decide ((i : Int) < (j : Int)) = true := decide_eq_true (by omega)
      have em : w64 (Int.tdiv (w64 ((i : Int) + (j : Int))) 2) = (((i + j) / 2 : Nat) : Int) := by
        have g1 : w64 ((i : Int) + (j : Int)) = ((i + j : Nat) : Int) := by rw [w64_of (by omega) (by omega)]; omega
        have g2 : Int.tdiv ((i + j : Nat) : Int) 2 = (((i + j) / 2 : Nat) : Int) := by rw [Int.tdiv_eq_ediv_of_nonneg (by omega)]; omega
        rw [g1, g2]
        exact w64_of (by omega) (by omega)
      obtain ⟨x, hx⟩ : ∃ x, ord[(i + j) / 2]? = some x := ⟨_, List.getElem?_eq_getElem (by omega)⟩
      have ei : idx E (((i + j) / 2 : Nat) : Int) = some (eN L.nodes x) := by rw [hE, idx_map2, hx]; rfl
      have ew : w64 ((((i + j) / 2 : Nat) : Int) + 1) = (((i + j) / 2 + 1 : Nat) : Int) := w64_succ (by omega)
      have ek : r10_key (eN L.nodes x) = some (ky L.nodes x) := rfl
      refine Ev.succ ?_
      simp only [r10_place.l0, e0, if_true, em, ei, Option.bind_some, ek, rcomp, ew]
      rcases Nat.lt_or_ge ((i + j) / 2) A.length with hm | hm
      · have hxA : x ∈ A := by
          rw [e, List.getElem?_append_left hm] at hx
          exact List.mem_of_getElem? hx
        have hlt : decide (cE (keyE (ky L.nodes x)) (keyE key) < 0) = true := decide_eq_true (hA x hxA)
        simp only [hlt, if_true]
        exact place_l0 hI hE e hA hB d ((i + j) / 2 + 1) j (by omega) (by omega) h2 h3
      · have hxB : x ∈ B := by
          rw [e, List.getElem?_append_right hm] at hx
          exact List.mem_of_getElem? hx
        have hlt : decide (cE (keyE (ky L.nodes x)) (keyE key) < 0) = false := decide_eq_false (hB x hxB)
        simp only [hlt, Bool.false_eq_true, if_false]
        exact place_l0 hI hE e hA hB d i ((i + j) / 2) (by omega) h1 hm (by omega)
    · exact place_l0 hI hE e hA hB 0 i j (by omega) h1 h2 h3
theorem place_ev (hI : Inv L ord) (hE : E = ord.map (eN L.nodes)) (e : ord = A ++ B) (hA : ∀ i ∈ A, kl (ky L.nodes i) key) (hB : ∀ i ∈ B, ¬ kl (ky L.nodes i) key) : Ev (fun k => r10_place k E key) (A.length : Int) := by
  unfold r10_place
  have hl : (E.length : Int) = (ord.length : Int) := by rw [hE, List.length_map]
  rw [hl]
  exact place_l0 hI hE e hA hB ord.length 0 ord.length (by omega) (by omega) (by rw [e]; simp) (Nat.le_refl _)
def spot0 : R10_Spot := ⟨0, ⟨ByteArray.mk #[], 0, 0⟩⟩
def spot2 : R10_Spot := ⟨2, ⟨ByteArray.mk #[], 0, 0⟩⟩
def spotH (N : List Nd) (l : List Nat) : R10_Spot := match l with | [] => spot2 | b :: _ => ⟨1, ky N b⟩
def spotL (N : List Nd) (l : List Nat) : R10_Spot := match l.getLast? with | none => spot0 | some b => ⟨1, ky N b⟩
theorem at_pos (hE : E = ord.map (eN L.nodes)) (e : ord = A ++ B) : r10_at E (A.length : Int) = some (spotH L.nodes B) := by
  unfold r10_at
  have e0 : decide ((A.length : Int) < 0) = false := decide_eq_false (by omega)
  have hl : (E.length : Int) = ((A.length + B.length : Nat) : Int) := by rw [hE, List.length_map, e, List.length_append]
  rw [e0, hl]
  simp only [Bool.false_eq_true, if_false]
  cases B with
  | nil =>
    rw [decide_eq_true (by simp)]
    rfl
  | cons b r =>
    rw [decide_eq_false (by simp; omega)]
    have : idx E (A.length : Int) = some (eN L.nodes b) := by rw [hE, idx_map2, e]; simp
    simp only [Bool.false_eq_true, if_false, this, Option.bind_some]
    rfl
theorem at_last (hE : E = ord.map (eN L.nodes)) (e : ord = A ++ B) : r10_at E ((A.length : Int) - 1) = some (spotL L.nodes A) := by
  rcases List.eq_nil_or_concat A with h | ⟨Q, x, h⟩
  · subst h
    unfold r10_at
    rw [decide_eq_true (by simp)]
    rfl
  · rw [List.concat_eq_append] at h
    subst h
    have e' : ord = Q ++ x :: B := by rw [e]; simp
    have := at_pos hE e'
    rw [show (((Q ++ [x]).length : Nat) : Int) - 1 = (Q.length : Int) by simp, this]
    simp [spotL, spotH]
/-- Where a cursor stands, and the document's. -/
inductive CR (N : List Nd) (ord : List Nat) : Int → Int → R10_Spot → Prop
  | ahead (n : Int) : CR N ord 0 n spot0
  | behind (n : Int) : CR N ord 2 n spot2
  | at (i : Nat) (h : i ∈ ord) : CR N ord 1 (i : Int) ⟨1, ky N i⟩
theorem CR.same {N N' : List Nd} {ord ord' : List Nat} {w n : Int} {s : R10_Spot} (h : CR N ord w n s) (ho : ∀ i ∈ ord, i ∈ ord' ∧ ky N' i = ky N i) : CR N' ord' w n s := by
  cases h with
  | ahead n => exact .ahead n
  | behind n => exact .behind n
  | «at» i hi =>
    have := CR.at (N := N') (ord := ord') i (ho i hi).1
    rwa [(ho i hi).2] at this
theorem CR.state {N : List Nd} {ord : List Nat} {w n : Int} {s : R10_Spot} (h : CR N ord w n s) : s.State = w := by cases h <;> rfl
theorem stand_hd (hI : Inv L ord) (e : ord = P ++ S) (c : mem_Cursor) (n : Int) (hn : n = hd S) : ∃ w m, mem_Cursor_stand c n 2 = some (((spotH L.nodes S).State == 1), ⟨c.t, w, m⟩) ∧ CR L.nodes ord w m (spotH L.nodes S) := by
  subst hn
  unfold mem_Cursor_stand
  cases S with
  | nil => exact ⟨2, 0, rfl, .behind 0⟩
  | cons b r =>
    have hb := hI.rng b (by rw [e]; simp)
    have e1 : (hd (b :: r) == 0) = false := by rw [beq_eq_false_iff_ne]; simp [hd]; omega
    have e2 : (hd (b :: r) != 0) = true := by rw [bne_iff_ne]; simp [hd]; omega
    refine ⟨1, (b : Int), ?_, .at b (by rw [e]; simp)⟩
    simp only [Jn, e1, e2, Bool.false_eq_true, if_false]
    rfl
theorem stand_last (hI : Inv L ord) (e : ord = P ++ S) (c : mem_Cursor) (n : Int) (hn : n = (lastD 0 P : Nat)) : ∃ w m, mem_Cursor_stand c n 0 = some (((spotL L.nodes P).State == 1), ⟨c.t, w, m⟩) ∧ CR L.nodes ord w m (spotL L.nodes P) := by
  subst hn
  unfold mem_Cursor_stand
  rcases List.eq_nil_or_concat P with h | ⟨Q, x, h⟩
  · subst h
    exact ⟨0, 0, rfl, .ahead 0⟩
  · rw [List.concat_eq_append] at h
    subst h
    have hb := hI.rng x (by rw [e]; simp)
    have hx : lastD 0 (Q ++ [x]) = x := by rw [lastD_app, lastD_nil]
    have e1 : (((lastD 0 (Q ++ [x]) : Nat) : Int) == 0) = false := by rw [hx, beq_eq_false_iff_ne]; omega
    have e2 : (((lastD 0 (Q ++ [x]) : Nat) : Int) != 0) = true := by rw [hx, bne_iff_ne]; omega
    have hsp : spotL L.nodes (Q ++ [x]) = ⟨1, ky L.nodes x⟩ := by simp [spotL]
    refine ⟨1, (x : Int), ?_, by rw [hsp]; exact .at x (by rw [e]; simp)⟩
    simp only [Jn, e1, e2, Bool.false_eq_true, if_false, hsp]
    rw [hx]; rfl
theorem cut_at (hI : Inv L ord) {i : Nat} (e : ord = P ++ i :: S) : (∀ j ∈ P, kl (ky L.nodes j) (ky L.nodes i)) ∧ (∀ j ∈ i :: S, ¬ kl (ky L.nodes j) (ky L.nodes i)) := by
  have hs := hI.srt
  rw [e] at hs
  obtain ⟨s1, s2, s3⟩ := List.pairwise_append.1 hs
  refine ⟨fun j hj => s3 j hj i (by simp), fun j hj => ?_⟩
  rcases List.mem_cons.1 hj with rfl | hj
  · exact kl_irrefl _
  · exact kl_asymm ((List.pairwise_cons.1 s2).1 j hj)
/-- A move, both ways. -/
theorem move_ev {t : mem_Table} (hI : Inv t.list ord) (hE : E = ord.map (eN t.list.nodes)) {w n : Int} {s : R10_Spot} (hc : CR t.list.nodes ord w n s) (kind : Int) (hk : kind = 1 ∨ kind = 2 ∨ kind = 3 ∨ kind = 4 ∨ kind = 5) (key : IKey) :
    ∃ s' w' n', Ev (fun k => r10_Move k E s kind key) s' ∧ Ev (fun k => l10_moved k ⟨t, w, n⟩ kind key) ((s'.State == 1), ⟨t, w', n'⟩) ∧ CR t.list.nodes ord w' n' s' := by
  have hst := hc.state
  have hl : (E.length : Int) = (ord.length : Int) := by rw [hE, List.length_map]
  have hsm := hI.small
  have first : ∃ w' n', mem_Cursor_First ⟨t, w, n⟩ = some (((spotH t.list.nodes ord).State == 1), ⟨t, w', n'⟩) ∧ CR t.list.nodes ord w' n' (spotH t.list.nodes ord) := by
    obtain ⟨w', m, h1, h2⟩ := stand_hd hI (P := []) (S := ord) rfl ⟨t, w, n⟩ (hd ord) rfl
    refine ⟨w', m, ?_, h2⟩
    unfold mem_Cursor_First
    rw [first_ev hI, Option.bind_some, h1, Option.bind_some]
  have last : ∃ w' n', mem_Cursor_Last ⟨t, w, n⟩ = some (((spotL t.list.nodes ord).State == 1), ⟨t, w', n'⟩) ∧ CR t.list.nodes ord w' n' (spotL t.list.nodes ord) := by
    obtain ⟨w', m, h1, h2⟩ := stand_last hI (P := ord) (S := []) (by simp) ⟨t, w, n⟩ _ rfl
    refine ⟨w', m, ?_, h2⟩
    unfold mem_Cursor_Last
    rw [last_ev hI, Option.bind_some, h1, Option.bind_some]
  have rfirst : r10_at E 0 = some (spotH t.list.nodes ord) := at_pos (A := []) hE rfl
  have rlast : r10_at E (w64 ((E.length : Int) - 1)) = some (spotL t.list.nodes ord) := by
    rw [hl, w64_of (by omega) (by omega)]
    exact at_last (B := []) hE (by simp)
  rcases hk with rfl | rfl | rfl | rfl | rfl
  · obtain ⟨w', n', h1, h2⟩ := first
    refine ⟨_, w', n', Ev.of fun k => ?_, Ev.of fun k => ?_, h2⟩
    · unfold r10_Move
      simp only [beq_self_eq_true, Bool.true_or, if_true, rfirst, Option.bind_some]
    · unfold l10_moved
      simp only [beq_self_eq_true, if_true, h1, Option.bind_some]
  · obtain ⟨w', n', h1, h2⟩ := last
    have q1 : ((2 : Int) == 1) = false := rfl
    have q2 : ((2 : Int) == 4) = false := rfl
    refine ⟨_, w', n', Ev.of fun k => ?_, Ev.of fun k => ?_, h2⟩
    · unfold r10_Move
      simp only [q1, q2, beq_self_eq_true, Bool.true_or, Bool.false_and, Bool.or_self, Bool.false_eq_true, if_false, if_true, rlast, Option.bind_some]
    · unfold l10_moved
      simp only [q1, beq_self_eq_true, Bool.false_eq_true, if_false, if_true, h1, Option.bind_some]
  · obtain ⟨A, B, e, hA, hB⟩ := hI.cut key
    obtain ⟨w', m, h1, h2⟩ := stand_hd hI e ⟨t, w, n⟩ (hd B) rfl
    have q1 : ((3 : Int) == 1) = false := rfl
    have q2 : ((3 : Int) == 2) = false := rfl
    have q4 : ((3 : Int) == 4) = false := rfl
    have q5 : ((3 : Int) == 5) = false := rfl
    refine ⟨_, w', m, ?_, ?_, h2⟩
    · unfold r10_Move
      simp only [q1, q2, q4, q5, beq_self_eq_true, Bool.false_and, Bool.or_self, Bool.false_eq_true, if_false, if_true]
      refine Ev.bind (place_ev hI hE e hA hB) ?_
      rw [at_pos hE e]
      exact Ev.ret
    · unfold l10_moved mem_Cursor_Seek
      simp only [q1, q2, beq_self_eq_true, Bool.false_eq_true, if_false, if_true]
      refine Ev.bind (a := (((spotH t.list.nodes B).State == 1), (⟨t, w', m⟩ : mem_Cursor))) (Ev.bind (seek_ev hI e hA hB) ?_) Ev.ret
      simp only [h1, Option.bind_some]
      exact Ev.ret
  · -- Next
    have q1 : ((4 : Int) == 1) = false := rfl
    have q2 : ((4 : Int) == 2) = false := rfl
    have q3 : ((4 : Int) == 3) = false := rfl
    have q5 : ((4 : Int) == 5) = false := rfl
    cases hc with
    | ahead n =>
      obtain ⟨w', n', h1, h2⟩ := first
      refine ⟨_, w', n', Ev.of fun k => ?_, Ev.of fun k => ?_, h2⟩
      · unfold r10_Move
        have : (spot0.State == 0) = true := rfl
        simp only [q1, this, beq_self_eq_true, Bool.and_self, Bool.false_or, if_true, rfirst, Option.bind_some]
      · unfold l10_moved mem_Cursor_Next
        simp only [q1, q2, q3, beq_self_eq_true, Bool.false_eq_true, if_false, if_true, h1, Option.bind_some, Jn]
    | behind n =>
      refine ⟨spot2, 2, n, Ev.of fun k => ?_, Ev.of fun k => ?_, .behind n⟩
      · unfold r10_Move
        have t0 : (spot2.State == 0) = false := rfl
        have t1 : (spot2.State == 1) = false := rfl
        simp only [q1, q2, q3, q5, t0, t1, Bool.false_and, Bool.and_false, Bool.or_self, Bool.false_eq_true, if_false]
      · unfold l10_moved mem_Cursor_Next
        have t0 : ((2 : Int) == 0) = false := rfl
        simp only [q1, q2, q3, t0, beq_self_eq_true, Bool.false_eq_true, if_false, if_true, Option.bind_some, Jn]
        rfl
    | «at» i hi =>
      obtain ⟨P, S, e⟩ := List.append_of_mem hi
      obtain ⟨hP, hS⟩ := cut_at hI e
      have e' : ord = (P ++ [i]) ++ S := by rw [e]; simp
      obtain ⟨w', m, h1, h2⟩ := stand_hd hI e' ⟨t, 1, (i : Int)⟩ (hd S) rfl
      have t0 : ((1 : Int) == 0) = false := rfl
      have t2 : ((1 : Int) == 2) = false := rfl
      refine ⟨_, w', m, ?_, Ev.of fun k => ?_, h2⟩
      · unfold r10_Move
        simp only [q1, q2, q3, q5, t0, t2, beq_self_eq_true, Bool.false_and, Bool.and_false, Bool.and_self, Bool.or_self, Bool.false_eq_true, if_false, if_true]
        refine Ev.bind (place_ev hI hE e hP hS) ?_
        have hpl : P.length + 1 ≤ ord.length := by rw [e]; simp
        have d1 : decide ((P.length : Int) < (E.length : Int)) = true := decide_eq_true (by rw [hl]; omega)
        have d2 : idx E (P.length : Int) = some (eN t.list.nodes i) := by rw [hE, idx_map2, e]; simp
        have d3 : r10_key (eN t.list.nodes i) = some (ky t.list.nodes i) := rfl
        have d4 : IKey.eqb (ky t.list.nodes i) (ky t.list.nodes i) = true := ieqb.2 rfl
        have d5 : w64 ((P.length : Int) + 1) = ((P ++ [i]).length : Int) := by rw [w64_succ (by omega)]; simp
        simp only [d1, d2, d3, d4, d5, if_true, Option.bind_some, Jn]
        rw [at_pos hE e']
        exact Ev.ret
      · unfold l10_moved mem_Cursor_Next
        simp only [q1, q2, q3, t0, t2, beq_self_eq_true, Bool.false_eq_true, if_false, if_true, next_ev hI e, h1, Option.bind_some, Jn]
  · -- Prev
    have q1 : ((5 : Int) == 1) = false := rfl
    have q2 : ((5 : Int) == 2) = false := rfl
    have q3 : ((5 : Int) == 3) = false := rfl
    have q4 : ((5 : Int) == 4) = false := rfl
    cases hc with
    | ahead n =>
      refine ⟨spot0, 0, n, Ev.of fun k => ?_, Ev.of fun k => ?_, .ahead n⟩
      · unfold r10_Move
        have t0 : (spot0.State == 2) = false := rfl
        have t1 : (spot0.State == 1) = false := rfl
        simp only [q1, q2, q3, q4, t0, t1, Bool.false_and, Bool.and_false, Bool.or_self, Bool.false_eq_true, if_false]
      · unfold l10_moved mem_Cursor_Prev
        have t0 : ((0 : Int) == 2) = false := rfl
        simp only [q1, q2, q3, q4, t0, beq_self_eq_true, Bool.false_eq_true, if_false, if_true, Option.bind_some, Jn]
        rfl
    | behind n =>
      obtain ⟨w', n', h1, h2⟩ := last
      refine ⟨_, w', n', Ev.of fun k => ?_, Ev.of fun k => ?_, h2⟩
      · unfold r10_Move
        have t0 : (spot2.State == 2) = true := rfl
        simp only [q1, q2, q4, t0, beq_self_eq_true, Bool.false_and, Bool.and_self, Bool.or_self, Bool.false_or, Bool.false_eq_true, if_false, if_true, rlast, Option.bind_some]
      · unfold l10_moved mem_Cursor_Prev
        simp only [q1, q2, q3, q4, beq_self_eq_true, Bool.false_eq_true, if_false, if_true, h1, Option.bind_some, Jn]
    | «at» i hi =>
      obtain ⟨P, S, e⟩ := List.append_of_mem hi
      obtain ⟨hP, hS⟩ := cut_at hI e
      obtain ⟨w', m, h1, h2⟩ := stand_last hI e ⟨t, 1, (i : Int)⟩ _ rfl
      have t0 : ((1 : Int) == 0) = false := rfl
      have t2 : ((1 : Int) == 2) = false := rfl
      refine ⟨_, w', m, ?_, Ev.of fun k => ?_, h2⟩
      · unfold r10_Move
        simp only [q1, q2, q3, q4, t0, t2, beq_self_eq_true, Bool.false_and, Bool.and_false, Bool.and_self, Bool.or_self, Bool.false_eq_true, if_false, if_true]
        refine Ev.bind (place_ev hI hE e hP hS) ?_
        have hpl : P.length + 1 ≤ ord.length := by rw [e]; simp
        rw [w64_of (by omega) (by omega), at_last hE e]
        exact Ev.ret
      · unfold l10_moved mem_Cursor_Prev
        simp only [q1, q2, q3, q4, t0, t2, beq_self_eq_true, Bool.false_eq_true, if_false, if_true, prev_ev hI e, h1, Option.bind_some, Jn]
def none_e : Entry := ⟨ByteArray.mk #[], 0, 0, ByteArray.mk #[]⟩
/-- Where it stands, both ways. -/
theorem here_ev {t : mem_Table} (hI : Inv t.list ord) (hE : E = ord.map (eN t.list.nodes)) {w n : Int} {s : R10_Spot} (hc : CR t.list.nodes ord w n s) :
    ∃ e b, Ev (fun k => r10_Here k E s) (e, b) ∧ mem_Cursor_Here ⟨t, w, n⟩ = some (e, b) := by
  have hl : (E.length : Int) = (ord.length : Int) := by rw [hE, List.length_map]
  cases hc with
  | ahead n => exact ⟨none_e, false, Ev.of fun k => rfl, rfl⟩
  | behind n => exact ⟨none_e, false, Ev.of fun k => rfl, rfl⟩
  | «at» i hi =>
    obtain ⟨P, S, e⟩ := List.append_of_mem hi
    obtain ⟨hP, hS⟩ := cut_at hI e
    refine ⟨eN t.list.nodes i, true, ?_, ?_⟩
    · unfold r10_Here
      simp only [bne_self_eq_false, Bool.false_eq_true, if_false]
      refine Ev.bind (place_ev hI hE e hP hS) ?_
      have hpl : P.length + 1 ≤ ord.length := by rw [e]; simp
      have d1 : decide ((E.length : Int) ≤ (P.length : Int)) = false := decide_eq_false (by rw [hl]; omega)
      have d2 : idx E (P.length : Int) = some (eN t.list.nodes i) := by rw [hE, idx_map2, e]; simp
      have d3 : r10_key (eN t.list.nodes i) = some (ky t.list.nodes i) := rfl
      have d4 : IKey.eqb (ky t.list.nodes i) (ky t.list.nodes i) = true := ieqb.2 rfl
      simp only [d1, d2, d3, d4, Bool.not_true, Bool.false_eq_true, if_false, Option.bind_some, Jn]
      exact Ev.ret
    · unfold mem_Cursor_Here mem_Table_entry
      simp only [bne_self_eq_false, Bool.false_eq_true, if_false, node_ev hI hi, Option.bind_some]
      rfl
end
end Go.Proofs.Ytbaemhkfmddakaa.Mo

set_option maxRecDepth 100000
namespace Go.Proofs.Ytbaemhkfmddakaa.Mo
open Go Go.Proofs.Ytbaemhkfmddakaa.Sy
/-- What the document makes of an operation; then J. -/
def radd (J_5756 : (List Entry) → (List Tomb) → Int → Int → Int → Int → Int → Option Bool) (k_4642 : Nat) (l_3351 : List Entry) (l_3354 : List Tomb) (i_3355 i_3356 i_3357 i_3358 : Int) (x23977 : L10_Move) : Option Bool := if ((decide (x23977.Put.Seq < 1)) || (decide (72057594037927935 < x23977.Put.Seq))) = true then (J_5756 l_3351 l_3354 i_3355 i_3356 i_3357 i_3358 2) else ((r04_May x23977.Put.Op).bind fun r25889 => if (!r25889) = true then (J_5756 l_3351 l_3354 i_3355 i_3356 i_3357 i_3358 40) else (if ((decide (x23977.Put.Height < 1)) || (decide (12 < x23977.Put.Height))) = true then (J_5756 l_3351 l_3354 i_3355 i_3356 i_3357 i_3358 2) else (Jn ((r10_key (⟨x23977.Put.Op.Key, x23977.Put.Seq, x23977.Put.Op.Kind, x23977.Put.Op.Value⟩ : Entry)).bind fun r26136 => (r10_place k_4642 l_3351 r26136).bind fun r26138 => Jn (fun (b_5827 : Bool) => if b_5827 = true then (J_5756 l_3351 l_3354 i_3355 i_3356 i_3357 i_3358 81) else (if (decide (1048576 ≤ (l_3351.length : Int))) = true then (J_5756 l_3351 l_3354 i_3355 i_3356 i_3357 i_3358 82) else ((cut l_3351 0 r26138).bind fun l26173 => (pushN 4691249611691 ([]) l26173).bind fun l26174 => (push 4691249611691 l26174 (⟨x23977.Put.Op.Key, x23977.Put.Seq, x23977.Put.Op.Kind, x23977.Put.Op.Value⟩ : Entry)).bind fun l26179 => (cut l_3351 r26138 (l_3351.length : Int)).bind fun l26182 => (pushN 4691249611691 l26179 l26182).bind fun l26183 => Jn (fun (i_5833 : Int) => J_5756 l26183 l_3354 (w64 (i_3355 + 1)) (w64 (i_3356 + (w64 ((w64 (16 + (x23977.Put.Op.Key.size : Int))) + (x23977.Put.Op.Value.size : Int))))) i_5833 (maxI i_3358 x23977.Put.Seq) 0) (fun J_5835 => if ((i_3355 == 0) || (decide (x23977.Put.Seq < i_3357))) = true then (J_5835 x23977.Put.Seq) else (J_5835 i_3357))))) (fun J_5828 => if (decide (r26138 < (l_3351.length : Int))) = true then ((idx l_3351 r26138).bind fun x26222 => (r10_key x26222).bind fun r26223 => (r10_key (⟨x23977.Put.Op.Key, x23977.Put.Seq, x23977.Put.Op.Kind, x23977.Put.Op.Value⟩ : Entry)).bind fun r26225 => J_5828 (IKey.eqb r26223 r26225)) else (J_5828 false))) (fun J_5823 => if (x23977.Put.Op.Kind == 2) = true then (Jn (Jn (fun (l_5866 : (List Tomb)) => Jn (fun (i_5872 : Int) => J_5756 l_3351 l_5866 (w64 (i_3355 + 1)) (w64 (i_3356 + (w64 ((w64 (16 + (x23977.Put.Op.Key.size : Int))) + (x23977.Put.Op.Value.size : Int))))) i_5872 (maxI i_3358 x23977.Put.Seq) 0) (fun J_5874 => if ((i_3355 == 0) || (decide (x23977.Put.Seq < i_3357))) = true then (J_5874 x23977.Put.Seq) else (J_5874 i_3357))) (fun J_5868 => (pushN 5629499534059 ([]) l_3354).bind fun l26368 => (push 5629499534059 l26368 (⟨x23977.Put.Op.Key, x23977.Put.Op.Value, x23977.Put.Seq⟩ : Tomb)).bind fun l26375 => J_5868 l26375)) (fun J_5863 => l10_MemCursors.l1 l_3351 l_3354 i_3355 i_3356 i_3357 i_3358 x23977 J_5756 J_5863 k_4642 0)) else (J_5823)))))
/-- Both cursors tell what they must; then J. -/
def chk (J_5280 : mem_Table → (List Entry) → (List Tomb) → Int → Int → Int → Int → Int → Int → Int → Int → (List R10_Spot) → Option Bool) (k_4642 : Nat) (x_5582 : mem_Table) (l_5585 : (List Entry)) (l_5588 : (List Tomb)) (i_5589 : Int) (i_5590 : Int) (i_5591 : Int) (i_5592 : Int) (i_5593 : Int) (i_5594 : Int) (i_5595 : Int) (i_5596 : Int) (l_5597 : (List R10_Spot)) : Option Bool := (mem_Cursor_Here (⟨x_5582, i_5593, i_5594⟩ : mem_Cursor)).bind fun r25221 => (idx l_5597 0).bind fun x25226 => (r10_Here k_4642 l_5585 x25226).bind fun r25227 => if ((!Entry.eqb r25221.1 r25227.1) || (!(r25221.2 == r25227.2))) = true then (some false) else ((mem_Cursor_Here (⟨x_5582, i_5595, i_5596⟩ : mem_Cursor)).bind fun r25253 => (idx l_5597 1).bind fun x25258 => (r10_Here k_4642 l_5585 x25258).bind fun r25259 => if ((!Entry.eqb r25253.1 r25259.1) || (!(r25253.2 == r25259.2))) = true then (some false) else (J_5280 x_5582 l_5585 l_5588 i_5589 i_5590 i_5591 i_5592 i_5593 i_5594 i_5595 i_5596 l_5597))
def mayB (x : Op) : Bool := (mem_may x).getD false
theorem may_eq (x : Op) : mem_may x = some (mayB x) := by
  unfold mayB mem_may
  (repeat' split) <;> rfl
theorem emp_iff {b : ByteArray} : b = ByteArray.mk #[] ↔ b.size = 0 := by
  obtain ⟨d⟩ := b
  simp [ByteArray.size]
theorem rmay_eq (x : Op) : r04_May x = some (mayB x) := by
  have key : slt x.Key x.Value → 1 ≤ (x.Value.size : Int) := fun h => by
    by_cases e : x.Value.size = 0
    · rw [emp_iff.2 e] at h
      exact absurd h (slt_empty _)
    · omega
  unfold mayB mem_may r04_May
  split
  · rfl
  · split
    · rfl
    · split
      · rfl
      · split
        · simp only [Option.getD_some]
          congr 1
          rw [sLt_dec]
          by_cases h : slt x.Key x.Value
          · have := key h; simp [h, this]
          · simp [h]
        · rfl
theorem may_sizes {x : Op} (h : mayB x = true) : 1 ≤ x.Key.size ∧ x.Key.size ≤ 1024 ∧ x.Value.size ≤ 65536 := by
  unfold mayB mem_may at h
  split at h
  · simp at h
  · rename_i h0
    simp only [Bool.or_eq_true, decide_eq_true_eq, not_or] at h0
    refine ⟨by omega, by omega, ?_⟩
    split at h
    · simp only [Option.getD_some, sEq_iff] at h
      rw [emp_iff.1 h]; omega
    · split at h
      · simp only [Option.getD_some, decide_eq_true_eq] at h; omega
      · split at h
        · simp only [Option.getD_some, Bool.and_eq_true, decide_eq_true_eq] at h; omega
        · simp at h
theorem may_kind {x : Op} (h : mayB x = true) : x.Kind = 0 ∨ x.Kind = 1 ∨ (x.Kind = 2 ∧ x.Value.size ≤ 1024 ∧ slt x.Key x.Value) := by
  unfold mayB mem_may at h
  split at h
  · simp at h
  · split at h
    · rename_i h1; rw [beq_iff_eq] at h1; exact .inl h1
    · split at h
      · rename_i h1; rw [beq_iff_eq] at h1; exact .inr (.inl h1)
      · split at h
        · rename_i h1
          rw [beq_iff_eq] at h1
          simp only [Option.getD_some, Bool.and_eq_true, decide_eq_true_eq, sLt_iff] at h
          exact .inr (.inr ⟨h1, by omega, h.2⟩)
        · simp at h
theorem valid_key {x : Op} {seq : Int} (h : mayB x = true) (hk : x.Kind ≠ 2) (hs : seq ≤ 72057594037927935) : ikey_Valid (⟨x.Key, seq, x.Kind⟩ : IKey) = some true := by
  have h1 := may_sizes h
  have h0 : sEq x.Key (ByteArray.mk #[]) = false := by
    rw [sEq_false]
    intro e
    rw [emp_iff] at e
    omega
  have hk2 : ikey_isKind x.Kind = some true := by
    rcases may_kind h with e | e | e
    · rw [e]; rfl
    · rw [e]; rfl
    · exact absurd e.1 hk
  unfold ikey_Valid
  simp only [h0, Bool.not_false, decide_eq_true (by omega : (x.Key.size : Int) ≤ 1024), decide_eq_true hs, Bool.and_self, if_true, hk2, Option.bind_some, Jn]
theorem valid_tomb {x : Op} {seq : Int} (h : mayB x = true) (hk : x.Kind = 2) (hs : seq ≤ 72057594037927935) : tomb_Valid (⟨x.Key, x.Value, seq⟩ : Tomb) = some true := by
  have h1 := may_sizes h
  have h0 : sEq x.Key (ByteArray.mk #[]) = false := by
    rw [sEq_false]
    intro e
    rw [emp_iff] at e
    omega
  obtain ⟨h2, h3⟩ : x.Value.size ≤ 1024 ∧ slt x.Key x.Value := by
    rcases may_kind h with e | e | e
    · omega
    · omega
    · exact e.2
  unfold tomb_Valid
  simp only [h0, Bool.not_false, decide_eq_true (by omega : (x.Key.size : Int) ≤ 1024), decide_eq_true (by omega : (x.Value.size : Int) ≤ 1025), sLt_iff.2 h3, decide_eq_true hs, Bool.and_self]
/-- A memtable that says entries and tombs. -/
structure TR (t : mem_Table) (ord : List Nat) (E : List Entry) (TT : List Tomb) : Prop where
  made : t.made = true
  fro : t.frozen = false
  inv : Inv t.list ord
  ent : E = ord.map (eN t.list.nodes)
  tmb : t.tombs = ⟨TT, true⟩
def tq (x : Tomb) (y : Tomb) : Bool := (sEq y.Begin x.Begin) && (y.Seq == x.Seq)
theorem cont_l0 (TT : List Tomb) (x : Tomb) (hl : TT.length ≤ 5629499534050) : ∀ (s p : List Tomb), TT = p ++ s → ∃ r : Int, (0 ≤ r ↔ s.any (tq x) = true) ∧ Ev (fun k => slices_IndexFunc_Tomb.l0 TT (fun x0 => mem_Table_addTomb_1 x0 x) k (p.length : Int)) r
  | [], p, hp => by
    have e1 : decide ((p.length : Int) < (TT.length : Int)) = false := by rw [hp]; exact lt_end p
    refine ⟨-1, by simp, Ev.succ ?_⟩
    simp only [slices_IndexFunc_Tomb.l0, e1, Bool.false_eq_true, if_false]
    exact Ev.ret
  | y :: s, p, hp => by
    have e1 : decide ((p.length : Int) < (TT.length : Int)) = true := by rw [hp]; exact lt_at p s y
    have e2 : idx TT (p.length : Int) = some y := by rw [hp]; exact idx_at p y s
    have hw := step_at p s y (by rw [← hp, maxLen_val]; omega)
    have e3 : mem_Table_addTomb_1 y x = some (tq x y) := rfl
    cases h : tq x y with
    | true =>
      refine ⟨(p.length : Int), by simp [h], Ev.succ ?_⟩
      simp only [slices_IndexFunc_Tomb.l0, e1, e2, e3, h, if_true, Option.bind_some]
      exact Ev.ret
    | false =>
      obtain ⟨r, h1, h2⟩ := cont_l0 TT x hl s (p ++ [y]) (by simp [hp])
      refine ⟨r, by rw [h1]; simp [h], Ev.succ ?_⟩
      simp only [slices_IndexFunc_Tomb.l0, e1, e2, e3, h, if_true, Option.bind_some, Bool.false_eq_true, if_false, hw]
      exact h2
theorem rtomb_l1 (E : List Entry) (TT : List Tomb) (n1 n2 n3 n4 : Int) (v : L10_Move) (J : Nat → List Entry → List Tomb → Int → Int → Int → Int → Int → Option Bool) (J2 : Nat → Option Bool) (R : Bool) (hl : TT.length ≤ 5629499534050)
    (hJ : TT.any (tq ⟨v.Put.Op.Key, v.Put.Op.Value, v.Put.Seq⟩) = true → Ev (fun k => J k E TT n1 n2 n3 n4 81) R) (hJ2 : TT.any (tq ⟨v.Put.Op.Key, v.Put.Op.Value, v.Put.Seq⟩) = false → Ev J2 R) :
    ∀ (s p : List Tomb), TT = p ++ s → p.any (tq ⟨v.Put.Op.Key, v.Put.Op.Value, v.Put.Seq⟩) = false → ∃ N, ∀ k q, N ≤ k → N ≤ q → l10_MemCursors.l1 E TT n1 n2 n3 n4 v (J q) (J2 q) k (p.length : Int) = some R
  | [], p, hp, hno => by
    have hpt : p = TT := by rw [hp]; simp
    subst hpt
    obtain ⟨N, hN⟩ := hJ2 hno
    refine ⟨N + 1, fun k q hk hq => ?_⟩
    obtain ⟨k, rfl⟩ : ∃ j, k = j + 1 := ⟨k - 1, by omega⟩
    have e1 : decide ((p.length : Int) < (p.length : Int)) = false := decide_eq_false (by omega)
    simp only [l10_MemCursors.l1, e1, Bool.false_eq_true, if_false]
    exact hN q (by omega)
  | y :: s, p, hp, hno => by
    have e1 : decide ((p.length : Int) < (TT.length : Int)) = true := by rw [hp]; exact lt_at p s y
    have e2 : idx TT (p.length : Int) = some y := by rw [hp]; exact idx_at p y s
    have hw := step_at p s y (by rw [← hp, maxLen_val]; omega)
    cases h : tq ⟨v.Put.Op.Key, v.Put.Op.Value, v.Put.Seq⟩ y with
    | true =>
      obtain ⟨N, hN⟩ := hJ (by rw [hp]; simp [h])
      refine ⟨N + 1, fun k q hk hq => ?_⟩
      obtain ⟨k, rfl⟩ : ∃ j, k = j + 1 := ⟨k - 1, by omega⟩
      have h' : sEq y.Begin v.Put.Op.Key = true ∧ (y.Seq == v.Put.Seq) = true := by
        unfold tq at h; simpa using h
      simp only [l10_MemCursors.l1, e1, e2, h'.1, h'.2, if_true, Option.bind_some, Jn]
      exact hN q (by omega)
    | false =>
      obtain ⟨N, hN⟩ := rtomb_l1 E TT n1 n2 n3 n4 v J J2 R hl hJ hJ2 s (p ++ [y]) (by simp [hp]) (by simp [List.any_append, hno, h])
      refine ⟨N + 1, fun k q hk hq => ?_⟩
      obtain ⟨k, rfl⟩ : ∃ j, k = j + 1 := ⟨k - 1, by omega⟩
      have h' : (sEq y.Begin v.Put.Op.Key && (y.Seq == v.Put.Seq)) = false := h
      simp only [l10_MemCursors.l1, e1, e2, if_true, Option.bind_some, Jn, hw]
      cases h1 : sEq y.Begin v.Put.Op.Key with
      | false =>
        simp only [Bool.false_eq_true, if_false]
        exact hN k q (by omega) (by omega)
      | true =>
        rw [h1, Bool.true_and] at h'
        simp only [if_true, h', Bool.false_eq_true, if_false]
        exact hN k q (by omega) (by omega)
/-- An operation, both ways. -/
theorem add_ev {t : mem_Table} {ord : List Nat} {E : List Entry} {TT : List Tomb} (h : TR t ord E TT) (hT : TT.length ≤ 5629499534000) (v : L10_Move) :
    ∃ (r : Int) (t' : mem_Table) (ord' : List Nat) (E' : List Entry) (TT' : List Tomb), Ev (fun k => mem_Table_Add k t v.Put.Seq v.Put.Op v.Put.Height) (r, t') ∧ TR t' ord' E' TT' ∧ TT'.length ≤ TT.length + 1 ∧
      (∀ i ∈ ord, i ∈ ord' ∧ ky t'.list.nodes i = ky t.list.nodes i) ∧
      ∀ (J : Nat → List Entry → List Tomb → Int → Int → Int → Int → Int → Option Bool) (R : Bool), Ev (fun k => J k E' TT' t'.n t'.size t'.low t'.high r) R → Ev (fun k => radd (J k) k E TT t.n t.size t.low t.high v) R := by
  have hm := h.made
  have hf := h.fro
  have hI := h.inv
  have fail : ∀ r : Int, Ev (fun k => mem_Table_Add k t v.Put.Seq v.Put.Op v.Put.Height) (r, t) → (∀ (J : Nat → List Entry → List Tomb → Int → Int → Int → Int → Int → Option Bool) (R : Bool), Ev (fun k => J k E TT t.n t.size t.low t.high r) R → Ev (fun k => radd (J k) k E TT t.n t.size t.low t.high v) R) →
      ∃ (r : Int) (t' : mem_Table) (ord' : List Nat) (E' : List Entry) (TT' : List Tomb), Ev (fun k => mem_Table_Add k t v.Put.Seq v.Put.Op v.Put.Height) (r, t') ∧ TR t' ord' E' TT' ∧ TT'.length ≤ TT.length + 1 ∧
      (∀ i ∈ ord, i ∈ ord' ∧ ky t'.list.nodes i = ky t.list.nodes i) ∧
      ∀ (J : Nat → List Entry → List Tomb → Int → Int → Int → Int → Int → Option Bool) (R : Bool), Ev (fun k => J k E' TT' t'.n t'.size t'.low t'.high r) R → Ev (fun k => radd (J k) k E TT t.n t.size t.low t.high v) R := fun r h1 h2 =>
    ⟨r, t, ord, E, TT, h1, h, by omega, fun i hi => ⟨hi, rfl⟩, h2⟩
  by_cases c1 : ((decide (v.Put.Seq < 1)) || (decide (72057594037927935 < v.Put.Seq))) = true
  · refine fail 2 (Ev.of fun k => ?_) fun J R hJ => ?_
    · unfold mem_Table_Add
      simp only [hm, hf, Bool.not_true, Bool.false_eq_true, if_false, c1, if_true]
    · unfold radd
      simp only [c1, if_true]
      exact hJ
  by_cases c2 : ¬ mayB v.Put.Op = true
  · have c2' := Bool.eq_false_iff.2 c2
    have hmm : mem_may v.Put.Op = some false := by rw [may_eq, c2']
    have hrm : r04_May v.Put.Op = some false := by rw [rmay_eq, c2']
    refine fail 40 (Ev.of fun k => ?_) fun J R hJ => ?_
    · unfold mem_Table_Add
      simp only [hm, hf, Bool.not_true, Bool.false_eq_true, if_false, c1, hmm, Option.bind_some, Bool.not_false, if_true]
    · unfold radd
      simp only [c1, Bool.false_eq_true, if_false, hrm, Option.bind_some, Bool.not_false, if_true]
      exact hJ
  replace c2 := Decidable.not_not.1 c2
  have hmm : mem_may v.Put.Op = some true := by rw [may_eq, c2]
  have hrm : r04_May v.Put.Op = some true := by rw [rmay_eq, c2]
  by_cases c3 : ((decide (v.Put.Height < 1)) || (decide (12 < v.Put.Height))) = true
  · refine fail 2 (Ev.of fun k => ?_) fun J R hJ => ?_
    · unfold mem_Table_Add
      simp only [hm, hf, Bool.not_true, Bool.false_eq_true, if_false, c1, hmm, Option.bind_some, c3, if_true]
    · unfold radd
      simp only [c1, Bool.false_eq_true, if_false, hrm, Option.bind_some, Bool.not_true, c3, if_true]
      exact hJ
  have s1 : 1 ≤ v.Put.Seq ∧ v.Put.Seq ≤ 72057594037927935 := by
    simp only [Bool.or_eq_true, decide_eq_true_eq, not_or] at c1; omega
  have s3 : 1 ≤ v.Put.Height ∧ v.Put.Height ≤ 12 := by
    simp only [Bool.or_eq_true, decide_eq_true_eq, not_or] at c3; omega
  have c1' := Bool.eq_false_iff.2 c1
  have c3' := Bool.eq_false_iff.2 c3
  by_cases c4 : v.Put.Op.Kind = 2
  · have c4' : (v.Put.Op.Kind == 2) = true := beq_iff_eq.2 c4
    have htl : t.tombs.tombs = TT := by rw [h.tmb]
    have htm : t.tombs.made = true := by rw [h.tmb]
    have hcl : tomb_Set_Tombs t.tombs = some TT := by
      unfold tomb_Set_Tombs slices_Clone_Tomb
      rw [htl, pushN_ok (by simp; omega)]; rfl
    obtain ⟨r, hr1, hr2⟩ := cont_l0 TT ⟨v.Put.Op.Key, v.Put.Op.Value, v.Put.Seq⟩ (by omega) TT [] rfl
    have hadd : ∀ (b : Bool), TT.any (tq ⟨v.Put.Op.Key, v.Put.Op.Value, v.Put.Seq⟩) = b → Ev (fun k => slices_ContainsFunc_Tomb k TT (fun x0 => mem_Table_addTomb_1 x0 ⟨v.Put.Op.Key, v.Put.Op.Value, v.Put.Seq⟩)) b := fun b hb => by
      unfold slices_ContainsFunc_Tomb slices_IndexFunc_Tomb
      refine Ev.bind hr2 ?_
      have : decide (0 ≤ r) = b := by
        cases b with
        | true => exact decide_eq_true (hr1.2 hb)
        | false => exact decide_eq_false (fun g => by rw [hr1.1 g] at hb; cases hb)
      rw [this]
      exact Ev.ret
    cases hany : TT.any (tq ⟨v.Put.Op.Key, v.Put.Op.Value, v.Put.Seq⟩) with
    | true =>
      refine fail 81 ?_ fun J R hJ => ?_
      · unfold mem_Table_Add
        simp only [hm, hf, Bool.not_true, Bool.false_eq_true, if_false, c1', hmm, Option.bind_some, c3', c4', if_true, Jn]
        refine Ev.bind (a := ((81 : Int), t)) ?_ Ev.ret
        unfold mem_Table_addTomb
        rw [hcl]
        simp only [Option.bind_some]
        refine Ev.bind (hadd true hany) ?_
        exact Ev.ret
      · unfold radd
        simp only [c1', Bool.false_eq_true, if_false, hrm, Option.bind_some, Bool.not_true, c3', c4', if_true]
        obtain ⟨N, hN⟩ := rtomb_l1 E TT t.n t.size t.low t.high v J (fun q => (Jn (fun (l_5866 : (List Tomb)) => Jn (fun (i_5872 : Int) => J q E l_5866 (w64 (t.n + 1)) (w64 (t.size + (w64 ((w64 (16 + (v.Put.Op.Key.size : Int))) + (v.Put.Op.Value.size : Int))))) i_5872 (maxI t.high v.Put.Seq) 0) (fun J_5874 => if ((t.n == 0) || (decide (v.Put.Seq < t.low))) = true then (J_5874 v.Put.Seq) else (J_5874 t.low))) (fun J_5868 => (pushN 5629499534059 ([]) TT).bind fun l26368 => (push 5629499534059 l26368 (⟨v.Put.Op.Key, v.Put.Op.Value, v.Put.Seq⟩ : Tomb)).bind fun l26375 => J_5868 l26375))) R (by omega) (fun _ => hJ) (fun hh => by rw [hany] at hh; cases hh) TT [] rfl rfl
        exact ⟨N, fun k hk => hN k k hk hk⟩
    | false =>
      have hpush : push 5629499534059 TT (⟨v.Put.Op.Key, v.Put.Op.Value, v.Put.Seq⟩ : Tomb) = some (TT ++ [⟨v.Put.Op.Key, v.Put.Op.Value, v.Put.Seq⟩]) := push_ok (by omega)
      have hpn : pushN 5629499534059 ([] : List Tomb) TT = some TT := by rw [pushN_ok (by simp; omega)]; rfl
      refine ⟨0, ⟨t.made, t.frozen, t.log, t.list, ⟨TT ++ [⟨v.Put.Op.Key, v.Put.Op.Value, v.Put.Seq⟩], true⟩, w64 (t.size + (w64 ((w64 (16 + (v.Put.Op.Key.size : Int))) + (v.Put.Op.Value.size : Int)))), w64 (t.n + 1), if ((t.n == 0) || (decide (v.Put.Seq < t.low))) = true then v.Put.Seq else t.low, maxI t.high v.Put.Seq⟩, ord, E, TT ++ [⟨v.Put.Op.Key, v.Put.Op.Value, v.Put.Seq⟩], ?_, ⟨hm, hf, hI, h.ent, rfl⟩, by simp, fun i hi => ⟨hi, rfl⟩, fun J R hJ => ?_⟩
      · unfold mem_Table_Add
        simp only [hm, hf, Bool.not_true, Bool.false_eq_true, if_false, c1', hmm, Option.bind_some, c3', c4', if_true, Jn]
        refine Ev.bind (a := ((0 : Int), (⟨true, false, t.log, t.list, ⟨TT ++ [⟨v.Put.Op.Key, v.Put.Op.Value, v.Put.Seq⟩], true⟩, t.size, t.n, t.low, t.high⟩ : mem_Table))) ?_ ?_
        · unfold mem_Table_addTomb
          rw [hcl]
          simp only [Option.bind_some]
          refine Ev.bind (hadd false hany) ?_
          unfold tomb_Set_Add
          simp only [htm, htl, Bool.not_true, Bool.false_eq_true, if_false, valid_tomb c2 c4 s1.2, hpush, Option.bind_some, hm, hf]
          exact Ev.ret
        · refine Ev.of fun k => ?_
          simp only [bne_self_eq_false, Bool.false_eq_true, if_false]
          by_cases g : ((t.n == 0) || (decide (v.Put.Seq < t.low))) = true
          · simp only [g, if_true]
          · simp only [g, Bool.false_eq_true, if_false]
      · unfold radd
        simp only [c1', Bool.false_eq_true, if_false, hrm, Option.bind_some, Bool.not_true, c3', c4', if_true]
        obtain ⟨N, hN⟩ := rtomb_l1 E TT t.n t.size t.low t.high v J (fun q => (Jn (fun (l_5866 : (List Tomb)) => Jn (fun (i_5872 : Int) => J q E l_5866 (w64 (t.n + 1)) (w64 (t.size + (w64 ((w64 (16 + (v.Put.Op.Key.size : Int))) + (v.Put.Op.Value.size : Int))))) i_5872 (maxI t.high v.Put.Seq) 0) (fun J_5874 => if ((t.n == 0) || (decide (v.Put.Seq < t.low))) = true then (J_5874 v.Put.Seq) else (J_5874 t.low))) (fun J_5868 => (pushN 5629499534059 ([]) TT).bind fun l26368 => (push 5629499534059 l26368 (⟨v.Put.Op.Key, v.Put.Op.Value, v.Put.Seq⟩ : Tomb)).bind fun l26375 => J_5868 l26375))) R (by omega) (fun hh => by rw [hany] at hh; cases hh) (fun _ => by
            simp only [Jn, hpn, hpush, Option.bind_some]
            by_cases g : ((t.n == 0) || (decide (v.Put.Seq < t.low))) = true
            · simp only [g, if_true] at hJ ⊢; exact hJ
            · simp only [g, Bool.false_eq_true, if_false] at hJ ⊢; exact hJ) TT [] rfl rfl
        exact ⟨N, fun k hk => hN k k hk hk⟩
  · have c4' : (v.Put.Op.Kind == 2) = false := beq_eq_false_iff_ne.2 c4
    obtain ⟨A, B, e, hA, hB⟩ := hI.cut ⟨v.Put.Op.Key, v.Put.Seq, v.Put.Op.Kind⟩
    obtain ⟨hh, hhe⟩ : ∃ hh : Nat, v.Put.Height = (hh : Int) := ⟨v.Put.Height.toNat, by omega⟩
    have hpl := place_ev hI h.ent e hA hB
    have hlE : (E.length : Int) = (ord.length : Int) := by rw [h.ent, List.length_map]
    have hsm := hI.small
    have hAl : A.length ≤ ord.length := by rw [e]; simp
    have hk1 : r10_key (⟨v.Put.Op.Key, v.Put.Seq, v.Put.Op.Kind, v.Put.Op.Value⟩ : Entry) = some ⟨v.Put.Op.Key, v.Put.Seq, v.Put.Op.Kind⟩ := rfl
    have prog : ∀ (r : Int) (L' : skip_List_string), Ev (fun k => skip_List_string_Insert k t.list ⟨v.Put.Op.Key, v.Put.Seq, v.Put.Op.Kind⟩ v.Put.Op.Value (hh : Int)) (r, L') →
        Ev (fun k => mem_Table_Add k t v.Put.Seq v.Put.Op v.Put.Height) (if (r != 0) = true then (r, (⟨t.made, t.frozen, t.log, L', t.tombs, t.size, t.n, t.low, t.high⟩ : mem_Table)) else (0, ⟨t.made, t.frozen, t.log, L', t.tombs, w64 (t.size + (w64 ((w64 (16 + (v.Put.Op.Key.size : Int))) + (v.Put.Op.Value.size : Int)))), w64 (t.n + 1), if ((t.n == 0) || (decide (v.Put.Seq < t.low))) = true then v.Put.Seq else t.low, maxI t.high v.Put.Seq⟩)) := fun r L' hL => by
      unfold mem_Table_Add
      simp only [hm, hf, Bool.not_true, Bool.false_eq_true, if_false, c1', hmm, Option.bind_some, c3', c4', Jn]
      rw [hhe]
      refine Ev.bind hL (Ev.of fun k => ?_)
      by_cases g0 : (r != 0) = true
      · simp only [g0, if_true]
      · simp only [g0, Bool.false_eq_true, if_false]
        by_cases g : ((t.n == 0) || (decide (v.Put.Seq < t.low))) = true
        · simp only [g, if_true]
        · simp only [g, Bool.false_eq_true, if_false]
    have idxB : ∀ b r, B = b :: r → idx E (A.length : Int) = some (eN t.list.nodes b) := fun b r hb => by rw [h.ent, idx_map2, e, hb]; simp
    rcases insert_ev hI e hA hB v.Put.Op.Value (h := hh) (by omega) (by omega) (valid_key c2 c4 s1.2) with ⟨⟨b, r, hb, hkb⟩, hev⟩ | ⟨hne, hor⟩
    · refine fail 81 ((prog 81 t.list hev).to ?_) fun J R hJ => ?_
      · rfl
      · unfold radd
        simp only [c1', Bool.false_eq_true, if_false, hrm, Option.bind_some, Bool.not_true, c3', c4', hk1, Jn]
        refine Ev.bind hpl ?_
        have d1 : decide ((A.length : Int) < (E.length : Int)) = true := decide_eq_true (by rw [hlE, e, hb]; simp; omega)
        have d3 : r10_key (eN t.list.nodes b) = some (ky t.list.nodes b) := rfl
        have d4 : IKey.eqb (ky t.list.nodes b) ⟨v.Put.Op.Key, v.Put.Seq, v.Put.Op.Kind⟩ = true := ieqb.2 hkb
        simp only [d1, idxB b r hb, d3, d4, if_true, Option.bind_some]
        exact hJ
    · have rest : ∀ (J : Nat → List Entry → List Tomb → Int → Int → Int → Int → Int → Option Bool) (R : Bool), Ev (fun k => if (decide (1048576 ≤ (E.length : Int))) = true then (J k E TT t.n t.size t.low t.high 82) else ((cut E 0 (A.length : Int)).bind fun l26173 => (pushN 4691249611691 ([]) l26173).bind fun l26174 => (push 4691249611691 l26174 (⟨v.Put.Op.Key, v.Put.Seq, v.Put.Op.Kind, v.Put.Op.Value⟩ : Entry)).bind fun l26179 => (cut E (A.length : Int) (E.length : Int)).bind fun l26182 => (pushN 4691249611691 l26179 l26182).bind fun l26183 => if ((t.n == 0) || (decide (v.Put.Seq < t.low))) = true then (J k l26183 TT (w64 (t.n + 1)) (w64 (t.size + (w64 ((w64 (16 + (v.Put.Op.Key.size : Int))) + (v.Put.Op.Value.size : Int))))) v.Put.Seq (maxI t.high v.Put.Seq) 0) else (J k l26183 TT (w64 (t.n + 1)) (w64 (t.size + (w64 ((w64 (16 + (v.Put.Op.Key.size : Int))) + (v.Put.Op.Value.size : Int))))) t.low (maxI t.high v.Put.Seq) 0))) R →
          Ev (fun k => radd (J k) k E TT t.n t.size t.low t.high v) R := fun J R hJ => by
        unfold radd
        simp only [c1', Bool.false_eq_true, if_false, hrm, Option.bind_some, Bool.not_true, c3', c4', hk1, Jn]
        refine Ev.bind hpl ?_
        cases hBe : B with
        | nil =>
          have d1 : decide ((A.length : Int) < (E.length : Int)) = false := decide_eq_false (by rw [hlE, e, hBe]; simp)
          simp only [d1, Bool.false_eq_true, if_false]
          exact hJ
        | cons b r =>
          have d1 : decide ((A.length : Int) < (E.length : Int)) = true := decide_eq_true (by rw [hlE, e, hBe]; simp; omega)
          have d3 : r10_key (eN t.list.nodes b) = some (ky t.list.nodes b) := rfl
          have d4 : IKey.eqb (ky t.list.nodes b) ⟨v.Put.Op.Key, v.Put.Seq, v.Put.Op.Kind⟩ = false := by
            rw [Bool.eq_false_iff, ne_eq, ieqb]; exact hne b r hBe
          simp only [d1, idxB b r hBe, d3, d4, if_true, Option.bind_some, Bool.false_eq_true, if_false]
          exact hJ
      rcases hor with ⟨hfull, hev⟩ | ⟨hfull, L', hev, hM⟩
      · refine fail 82 ((prog 82 t.list hev).to rfl) fun J R hJ => rest J R ?_
        have d1 : decide (1048576 ≤ (E.length : Int)) = true := decide_eq_true (by rw [hlE]; omega)
        simp only [d1, if_true]
        exact hJ
      · have hEl : E.length = ord.length := by rw [h.ent, List.length_map]
        have ht : E.take A.length = A.map (eN t.list.nodes) := by rw [h.ent, e, List.map_append, List.take_left' (by simp)]
        have hd' : E.drop A.length = B.map (eN t.list.nodes) := by rw [h.ent, e, List.map_append, List.drop_left' (by simp)]
        have hold : ∀ i ∈ ord, eN L'.nodes i = eN t.list.nodes i := fun i hi => by
          have := hM.old i (hI.rng i hi).2
          unfold eN ky
          rw [this.1, this.2]
        refine ⟨0, ⟨t.made, t.frozen, t.log, L', t.tombs, w64 (t.size + (w64 ((w64 (16 + (v.Put.Op.Key.size : Int))) + (v.Put.Op.Value.size : Int)))), w64 (t.n + 1), if ((t.n == 0) || (decide (v.Put.Seq < t.low))) = true then v.Put.Seq else t.low, maxI t.high v.Put.Seq⟩, A ++ t.list.nodes.length :: B, A.map (eN t.list.nodes) ++ ⟨v.Put.Op.Key, v.Put.Seq, v.Put.Op.Kind, v.Put.Op.Value⟩ :: B.map (eN t.list.nodes), TT, (prog 0 L' hev).to rfl, ⟨hm, hf, hM.inv, ?_, h.tmb⟩, by omega, fun i hi => ?_, fun J R hJ => rest J R ?_⟩
        · have e1 : A.map (eN L'.nodes) = A.map (eN t.list.nodes) := List.map_congr_left fun i hi => hold i (by rw [e]; simp [hi])
          have e2 : B.map (eN L'.nodes) = B.map (eN t.list.nodes) := List.map_congr_left fun i hi => hold i (by rw [e]; simp [hi])
          have e3 : eN L'.nodes t.list.nodes.length = ⟨v.Put.Op.Key, v.Put.Seq, v.Put.Op.Kind, v.Put.Op.Value⟩ := by
            unfold eN ky
            rw [hM.new.1, hM.new.2]
          rw [List.map_append, List.map_cons, e1, e2, e3]
        · refine ⟨?_, (hM.old i (hI.rng i hi).2).1⟩
          rw [e] at hi
          simp only [List.mem_append, List.mem_cons] at hi ⊢
          rcases hi with hi | hi
          · exact .inl hi
          · exact .inr (.inr hi)
        · have d1 : decide (1048576 ≤ (E.length : Int)) = false := decide_eq_false (by rw [hlE]; omega)
          have q1 : cut E 0 (A.length : Int) = some (A.map (eN t.list.nodes)) := by rw [cut_take (by omega), ht]
          have q2 : cut E (A.length : Int) (E.length : Int) = some (B.map (eN t.list.nodes)) := by rw [cut_drop rfl (by omega), hd']
          have hBl : B.length ≤ ord.length := by rw [e]; simp
          have q3 : pushN 4691249611691 ([] : List Entry) (A.map (eN t.list.nodes)) = some (A.map (eN t.list.nodes)) := by rw [pushN_ok (by simp; omega)]; rfl
          have q4 : push 4691249611691 (A.map (eN t.list.nodes)) (⟨v.Put.Op.Key, v.Put.Seq, v.Put.Op.Kind, v.Put.Op.Value⟩ : Entry) = some (A.map (eN t.list.nodes) ++ [⟨v.Put.Op.Key, v.Put.Seq, v.Put.Op.Kind, v.Put.Op.Value⟩]) := push_ok (by simp; omega)
          have q5 : pushN 4691249611691 (A.map (eN t.list.nodes) ++ [(⟨v.Put.Op.Key, v.Put.Seq, v.Put.Op.Kind, v.Put.Op.Value⟩ : Entry)]) (B.map (eN t.list.nodes)) = some (A.map (eN t.list.nodes) ++ ⟨v.Put.Op.Key, v.Put.Seq, v.Put.Op.Kind, v.Put.Op.Value⟩ :: B.map (eN t.list.nodes)) := by
            rw [pushN_ok (by simp; omega)]; simp
          simp only [d1, Bool.false_eq_true, if_false, q1, q2, q3, q4, q5, Option.bind_some]
          by_cases g : ((t.n == 0) || (decide (v.Put.Seq < t.low))) = true
          · simp only [g, if_true] at hJ ⊢; exact hJ
          · simp only [g, Bool.false_eq_true, if_false] at hJ ⊢; exact hJ
end Go.Proofs.Ytbaemhkfmddakaa.Mo

set_option maxRecDepth 100000
namespace Go.Proofs.Ytbaemhkfmddakaa.Mo
open Go Go.Proofs.Ytbaemhkfmddakaa.Sy
theorem among_rng (x n : Int) (h0 : 0 < n) (h1 : n ≤ 1000) : ∃ r, l10_among x n = some r ∧ 0 ≤ r ∧ r < n := by
  unfold l10_among
  rw [if_neg (by omega), if_neg (by omega)]
  have a1 := Int.tmod_lt_of_pos x h0
  have a2 : -n < Int.tmod x n := Int.lt_tmod_of_pos x h0
  have hw : w64 (Int.tmod x n + n) = Int.tmod x n + n := w64_of (by omega) (by omega)
  rw [hw]
  exact ⟨_, rfl, Int.tmod_nonneg _ (by omega), Int.tmod_lt_of_pos _ h0⟩
theorem eneq (x : Entry) : Entry.eqb x x = true := by cases x; simp [Entry.eqb, sEq_refl]
theorem chk_ev {t : mem_Table} {ord : List Nat} {E : List Entry} {TT : List Tomb} (h : TR t ord E TT) {w1 n1 w2 n2 : Int} {s0 s1 : R10_Spot} (c1 : CR t.list.nodes ord w1 n1 s0) (c2 : CR t.list.nodes ord w2 n2 s1) (a b c d : Int)
    (J : Nat → mem_Table → List Entry → List Tomb → Int → Int → Int → Int → Int → Int → Int → Int → List R10_Spot → Option Bool) (hJ : Ev (fun k => J k t E TT a b c d w1 n1 w2 n2 [s0, s1]) true) :
    Ev (fun k => chk (J k) k t E TT a b c d w1 n1 w2 n2 [s0, s1]) true := by
  unfold chk
  obtain ⟨e, q, h1, h2⟩ := here_ev h.inv h.ent c1
  obtain ⟨e', q', h1', h2'⟩ := here_ev h.inv h.ent c2
  have i0 : idx [s0, s1] 0 = some s0 := rfl
  have i1 : idx [s0, s1] 1 = some s1 := rfl
  simp only [h2, h2', i0, i1, Option.bind_some]
  refine Ev.bind h1 ?_
  have z1 : ((!Entry.eqb e e) || (!(q == q))) = false := by simp [eneq]
  have z2 : ((!Entry.eqb e' e') || (!(q' == q'))) = false := by simp [eneq]
  simp only [z1, Bool.false_eq_true, if_false]
  refine Ev.bind h1' ?_
  simp only [z2, Bool.false_eq_true, if_false]
  exact hJ
theorem cursors_l0 (a0 : List L10_Move) (ha : a0.length ≤ 5629499533000) : ∀ (s p : List L10_Move) (t : mem_Table) (ord : List Nat) (E : List Entry) (TT : List Tomb) (w1 n1 w2 n2 : Int) (s0 s1 : R10_Spot), a0 = p ++ s → TR t ord E TT → TT.length ≤ p.length →
    CR t.list.nodes ord w1 n1 s0 → CR t.list.nodes ord w2 n2 s1 → Ev (fun k => l10_MemCursors.l0 a0 k t E TT t.n t.size t.low t.high w1 n1 w2 n2 [s0, s1] (p.length : Int)) true
  | [], p, t, ord, E, TT, w1, n1, w2, n2, s0, s1, hp, h, hT, c1, c2 => by
    have e1 : decide ((p.length : Int) < (a0.length : Int)) = false := by rw [hp]; exact lt_end p
    refine Ev.succ ?_
    simp only [l10_MemCursors.l0, e1, Bool.false_eq_true, if_false]
    exact Ev.ret
  | v :: s, p, t, ord, E, TT, w1, n1, w2, n2, s0, s1, hp, h, hT, c1, c2 => by
    have e1 : decide ((p.length : Int) < (a0.length : Int)) = true := by rw [hp]; exact lt_at p s v
    have e2 : idx a0 (p.length : Int) = some v := by rw [hp]; exact idx_at p v s
    have hw := step_at p s v (by rw [← hp, maxLen_val]; omega)
    have hpl : p.length + 1 ≤ a0.length := by rw [hp]; simp
    obtain ⟨ro, g1, o1, o2⟩ := among_rng v.On 2 (by omega) (by omega)
    obtain ⟨r, g2, r1, r2⟩ := among_rng v.Kind 6 (by omega) (by omega)
    have ih := cursors_l0 a0 ha s (p ++ [v])
    refine Ev.succ ?_
    simp only [l10_MemCursors.l0, e1, e2, g1, g2, if_true, Option.bind_some, hw]
    by_cases hr : r = 0
    · subst hr
      show Ev (fun k => ((mem_Table_Add k t v.Put.Seq v.Put.Op v.Put.Height).bind fun q => radd (fun l l' a b c d e => if (q.1 != e) = true then some false else chk (fun t l l' a b c d w n w' n' ls => l10_MemCursors.l0 a0 k t l l' a b c d w n w' n' ls ((p ++ [v]).length : Int)) k q.2 l l' a b c d w1 n1 w2 n2 [s0, s1]) k E TT t.n t.size t.low t.high v)) true
      obtain ⟨r, t', ord', E', TT', hadd, hTR, hTl, hold, hJ⟩ := add_ev h (by omega) v
      refine Ev.bind hadd ?_
      refine hJ (fun k l l' a b c d e => if (r != e) = true then some false else chk (fun t l l' a b c d w n w' n' ls => l10_MemCursors.l0 a0 k t l l' a b c d w n w' n' ls ((p ++ [v]).length : Int)) k t' l l' a b c d w1 n1 w2 n2 [s0, s1]) true ?_
      simp only [bne_self_eq_false, Bool.false_eq_true, if_false]
      exact chk_ev hTR (c1.same hold) (c2.same hold) _ _ _ _ (fun k t l l' a b c d w n w' n' ls => l10_MemCursors.l0 a0 k t l l' a b c d w n w' n' ls ((p ++ [v]).length : Int)) (ih t' ord' E' TT' w1 n1 w2 n2 s0 s1 (by simp [hp]) hTR (by simp; omega) (c1.same hold) (c2.same hold))
    · have hr' : (r == 0) = false := beq_eq_false_iff_ne.2 hr
      have hk : r = 1 ∨ r = 2 ∨ r = 3 ∨ r = 4 ∨ r = 5 := by omega
      simp only [hr', Bool.false_eq_true, if_false]
      have hro : ro = 0 ∨ ro = 1 := by omega
      rcases hro with rfl | rfl
      · obtain ⟨s', w', n', m1, m2, m3⟩ := move_ev h.inv h.ent c1 r hk v.Key
        have i0 : idx [s0, s1] 0 = some s0 := rfl
        have u0 : upd [s0, s1] 0 s' = some [s', s1] := rfl
        have i1 : idx [s', s1] 0 = some s' := rfl
        show Ev (fun k => (idx [s0, s1] 0).bind fun x => (r10_Move k E x r v.Key).bind fun y => (idx [s0, s1] 0).bind fun _ => (upd [s0, s1] 0 y).bind fun l => ((idx l 0).bind fun z => (l10_moved k ⟨t, w1, n1⟩ r v.Key).bind fun m => if (!(m.1 == (z.State == 1))) = true then some false else chk (fun t l l' a b c d w n w' n' ls => l10_MemCursors.l0 a0 k t l l' a b c d w n w' n' ls ((p ++ [v]).length : Int)) k t E TT t.n t.size t.low t.high m.2.where_ m.2.n w2 n2 l)) true
        simp only [i0, Option.bind_some]
        refine Ev.bind m1 ?_
        simp only [u0, i1, Option.bind_some]
        refine Ev.bind m2 ?_
        simp only [beq_self_eq_true, Bool.not_true, Bool.false_eq_true, if_false]
        exact chk_ev h m3 c2 _ _ _ _ (fun k t l l' a b c d w n w' n' ls => l10_MemCursors.l0 a0 k t l l' a b c d w n w' n' ls ((p ++ [v]).length : Int)) (ih t ord E TT w' n' w2 n2 s' s1 (by simp [hp]) h (by simp; omega) m3 c2)
      · obtain ⟨s', w', n', m1, m2, m3⟩ := move_ev h.inv h.ent c2 r hk v.Key
        have i0 : idx [s0, s1] 1 = some s1 := rfl
        have u0 : upd [s0, s1] 1 s' = some [s0, s'] := rfl
        have i1 : idx [s0, s'] 1 = some s' := rfl
        show Ev (fun k => (idx [s0, s1] 1).bind fun x => (r10_Move k E x r v.Key).bind fun y => (idx [s0, s1] 1).bind fun _ => (upd [s0, s1] 1 y).bind fun l => ((idx l 1).bind fun z => (l10_moved k ⟨t, w2, n2⟩ r v.Key).bind fun m => if (!(m.1 == (z.State == 1))) = true then some false else chk (fun t l l' a b c d w n w' n' ls => l10_MemCursors.l0 a0 k t l l' a b c d w n w' n' ls ((p ++ [v]).length : Int)) k t E TT t.n t.size t.low t.high w1 n1 m.2.where_ m.2.n l)) true
        simp only [i0, Option.bind_some]
        refine Ev.bind m1 ?_
        simp only [u0, i1, Option.bind_some]
        refine Ev.bind m2 ?_
        simp only [beq_self_eq_true, Bool.not_true, Bool.false_eq_true, if_false]
        exact chk_ev h c1 m3 _ _ _ _ (fun k t l l' a b c d w n w' n' ls => l10_MemCursors.l0 a0 k t l l' a b c d w n w' n' ls ((p ++ [v]).length : Int)) (ih t ord E TT w1 n1 w' n' s0 s' (by simp [hp]) h (by simp; omega) c1 m3)
/-- An empty skip list. -/
theorem inv0 : Inv ⟨[z0], 1048576, 0, 0⟩ [] := by
  refine ⟨rfl, rfl, by simp, fun i hi => (by cases hi), List.nodup_nil, List.Pairwise.nil, fun i hi => (by cases hi), ⟨Int.le_refl _, (by decide)⟩, fun lv hlv => ?_, trivial, rfl⟩
  have : ∀ lv : Nat, lv < 12 → nx [z0] lv 0 = 0 := by decide
  exact this lv hlv
theorem cursors_law (a0 : List L10_Move) (ha : a0.length ≤ 5629499533000) : Ev (fun k => l10_MemCursors k a0) true := by
  unfold l10_MemCursors
  have m1 : mkS 2513169434916 1 (⟨(⟨(ByteArray.mk #[]), 0, 0⟩ : IKey), (ByteArray.mk #[]), 0, (⟨0, 0, 0, 0, 0, 0, 0, 0, 0, 0, 0, 0⟩ : St104), 0⟩ : skip_node_string) = some [z0] := rfl
  have m2 : mkS 7036874417766 2 (⟨0, (⟨(ByteArray.mk #[]), 0, 0⟩ : IKey)⟩ : R10_Spot) = some [spot0, spot0] := rfl
  have m3 : l10_names = some true := rfl
  have m4 : Ev (fun k => tomb_valid k ([])) [] := Ev.succ Ev.ret
  refine Ev.bind0 m1 (Ev.bind m4 ?_)
  refine Ev.bind0 m3 ?_
  simp only [Bool.not_true, Bool.false_eq_true, if_false]
  refine Ev.bind0 m2 ?_
  exact cursors_l0 a0 ha a0 [] ⟨true, false, 1, ⟨[z0], 1048576, 0, 0⟩, ⟨[], true⟩, 0, 0, 0, 0⟩ [] [] [] 0 0 0 0 spot0 spot0 rfl ⟨rfl, rfl, inv0, rfl, rfl⟩ (by simp) (.ahead 0) (.ahead 0)
end Go.Proofs.Ytbaemhkfmddakaa.Mo
