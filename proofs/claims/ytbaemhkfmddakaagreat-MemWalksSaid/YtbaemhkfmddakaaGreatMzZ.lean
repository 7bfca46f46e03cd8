import Derived.Test.YtbaemhkfmddakaaGreatMzTw
import Derived.Test.YtbaemhkfmddakaaGreatSySt
import Derived.Test.YtbaemhkfmddakaaGreatSyEv
import Derived.Test.YtbaemhkfmddakaaGreatSyPlain
import Derived.Test.YtbaemhkfmddakaaGreatSyUq
import Derived.KernelRfl
set_option linter.unusedVariables false
set_option linter.unusedSectionVars false
set_option linter.unusedSimpArgs false
set_option maxRecDepth 100000
namespace Go.Proofs.YtbaemhkfmddakaaGreat.Mo
open Go Go.Proofs.YtbaemhkfmddakaaGreat.Sy
def ikey_entries (k : Nat) (a b : Entry) : Option Int := (ikey_Compare k (⟨a.Key, a.Seq, a.Kind⟩ : IKey) (⟨b.Key, b.Seq, b.Kind⟩ : IKey)).bind fun r => some r
def cE (a b : Entry) : Int := if slt a.Key b.Key then -1 else if slt b.Key a.Key then 1 else if b.Seq < a.Seq then -1 else if a.Seq < b.Seq then 1 else if b.Kind < a.Kind then -1 else if a.Kind < b.Kind then 1 else 0
def ltE (a b : Entry) : Prop := cE a b < 0
instance : DecidableRel ltE := fun a b => inferInstanceAs (Decidable (cE a b < 0))
theorem ltE_iff {a b : Entry} : ltE a b ↔ slt a.Key b.Key ∨ (a.Key = b.Key ∧ (b.Seq < a.Seq ∨ (a.Seq = b.Seq ∧ b.Kind < a.Kind))) := by
  show cE a b < 0 ↔ _
  unfold cE
  rcases slt_tri a.Key b.Key with h | h | h
  · simp [h]
  · rw [h]
    simp only [slt_irrefl, if_false, false_or, true_and]
    split
    · simp [*]
    · split
      · constructor
        · intro h; omega
        · rintro (h | ⟨h, _⟩) <;> omega
      · split
        · constructor
          · intro _; exact .inr ⟨by omega, by assumption⟩
          · intro _; omega
        · split
          · constructor
            · intro h; omega
            · rintro (h | ⟨_, h⟩) <;> omega
          · constructor
            · intro h; omega
            · rintro (h | ⟨_, h⟩) <;> omega
  · have h1 := slt_asymm h
    have h2 : a.Key ≠ b.Key := fun e => by rw [e] at h; exact slt_irrefl _ h
    simp [h, h1, h2]
theorem wo_E : Wo ltE := by
  refine ⟨fun x y h k => ?_, fun x y z h k => ?_⟩
  · rw [ltE_iff] at h k
    rcases h with h | ⟨e, h⟩
    · rcases k with k | ⟨e, _⟩
      · exact slt_asymm h k
      · rw [e] at h; exact slt_irrefl _ h
    · rcases k with k | ⟨_, k⟩
      · rw [e] at k; exact slt_irrefl _ k
      · omega
  · rw [ltE_iff] at h k ⊢
    rintro (g | ⟨e, g⟩)
    · rcases slt_tri x.Key y.Key with h1 | h1 | h1
      · exact h (.inl h1)
      · rw [h1] at g; exact k (.inl g)
      · exact k (.inl (slt_trans h1 g))
    · rcases slt_tri x.Key y.Key with h1 | h1 | h1
      · exact h (.inl h1)
      · have h2 : ¬ (y.Seq < x.Seq ∨ (x.Seq = y.Seq ∧ y.Kind < x.Kind)) := fun c => h (.inr ⟨h1, c⟩)
        have k2 : ¬ (z.Seq < y.Seq ∨ (y.Seq = z.Seq ∧ z.Kind < y.Kind)) := fun c => k (.inr ⟨h1.symm.trans e, c⟩)
        omega
      · rw [e] at h1; exact k (.inl h1)
theorem entries_eq (k : Nat) (a b : Entry) : ikey_entries (k + 4) a b = some (cE a b) := by
  have w1 : w64 (0 + 1) = 1 := by decide
  have w2 : w64 (1 + 1) = 2 := by decide
  have w3 : w64 (2 + 1) = 3 := by decide
  have key : ∀ p q r : Int, cmp_Or_int (k + 4) [p, q, r] = some (if p ≠ 0 then p else if q ≠ 0 then q else if r ≠ 0 then r else 0) := by
    intro p q r
    have i0 : idx [p, q, r] 0 = some p := rfl
    have i1 : idx [p, q, r] 1 = some q := rfl
    have i2 : idx [p, q, r] 2 = some r := rfl
    have l0 : decide ((0 : Int) < ([p, q, r].length : Int)) = true := rfl
    have l1 : decide ((1 : Int) < ([p, q, r].length : Int)) = true := rfl
    have l2 : decide ((2 : Int) < ([p, q, r].length : Int)) = true := rfl
    have l3 : decide ((3 : Int) < ([p, q, r].length : Int)) = false := rfl
    simp only [cmp_Or_int, cmp_Or_int.l0, i0, i1, i2, l0, l1, l2, l3, if_true, Option.bind_some, w1, w2, w3, bne_iff_ne, Bool.false_eq_true, if_false]
    split
    · rfl
    · split
      · rfl
      · split <;> rfl
  unfold ikey_entries ikey_Compare
  simp only [strings_Compare, internal_bytealg_CompareString, Option.bind_some]
  have hu : cmp_Compare_uint64 b.Seq a.Seq = some (if b.Seq < a.Seq then -1 else if a.Seq < b.Seq then 1 else 0) := by
    simp only [cmp_Compare_uint64, cmp_isNaN_uint64, bne_self_eq_false, Option.bind_some, Bool.false_eq_true, if_false, decide_eq_true_eq]
    split
    · rfl
    · split <;> rfl
  have hi : cmp_Compare_int b.Kind a.Kind = some (if b.Kind < a.Kind then -1 else if a.Kind < b.Kind then 1 else 0) := by
    simp only [cmp_Compare_int, cmp_isNaN_int, bne_self_eq_false, Option.bind_some, Bool.false_eq_true, if_false, decide_eq_true_eq]
    split
    · rfl
    · split <;> rfl
  rw [hu, hi]
  simp only [Option.bind_some, key]
  congr 1
  unfold cE ordS
  simp only [sLt_iff]
  by_cases h1 : slt a.Key b.Key
  · simp [h1]
  · by_cases h2 : slt b.Key a.Key
    · simp [h1, h2]
    · by_cases h3 : b.Seq < a.Seq
      · simp [h1, h2, h3]
      · by_cases h4 : a.Seq < b.Seq
        · simp [h1, h2, h3, h4]
        · by_cases h5 : b.Kind < a.Kind
          · simp [h1, h2, h3, h4, h5]
          · by_cases h6 : a.Kind < b.Kind
            · simp [h1, h2, h3, h4, h5, h6]
            · simp [h1, h2, h3, h4, h5, h6]
def keyE (k : IKey) : Entry := ⟨k.Key, k.Seq, k.Kind, ByteArray.mk #[]⟩
theorem comp_eq (k : Nat) (x y : IKey) : ikey_Compare (k + 4) x y = some (cE (keyE x) (keyE y)) := by
  have := entries_eq k (keyE x) (keyE y)
  unfold ikey_entries at this
  have e : (⟨(keyE x).Key, (keyE x).Seq, (keyE x).Kind⟩ : IKey) = x := by cases x; rfl
  have e2 : (⟨(keyE y).Key, (keyE y).Seq, (keyE y).Kind⟩ : IKey) = y := by cases y; rfl
  rw [e, e2] at this
  cases h : ikey_Compare (k + 4) x y with
  | none => rw [h] at this; cases this
  | some v => rw [h] at this; exact this
end Go.Proofs.YtbaemhkfmddakaaGreat.Mo

set_option maxRecDepth 100000
namespace Go.Proofs.YtbaemhkfmddakaaGreat.Mo
open Go Go.Proofs.YtbaemhkfmddakaaGreat.Sy
def kl (x y : IKey) : Prop := cE (keyE x) (keyE y) < 0
instance : DecidableRel kl := fun a b => inferInstanceAs (Decidable (cE (keyE a) (keyE b) < 0))
theorem kl_asymm {x y : IKey} (h : kl x y) : ¬ kl y x := wo_E.asymm _ _ h
theorem kl_tri {x y : IKey} (h : ¬ kl x y) (k : ¬ kl y x) : x = y := by
  have h' : ¬ ltE (keyE x) (keyE y) := h
  have k' : ¬ ltE (keyE y) (keyE x) := k
  rw [ltE_iff] at h' k'
  obtain ⟨a, b, c⟩ := x
  obtain ⟨a', b', c'⟩ := y
  simp only [keyE] at h' k'
  rcases slt_tri a a' with g | g | g
  · exact absurd (.inl g) h'
  · subst g
    have h1 : ¬ (b' < b ∨ (b = b' ∧ c' < c)) := fun q => h' (.inr ⟨rfl, q⟩)
    have k1 : ¬ (b < b' ∨ (b' = b ∧ c < c')) := fun q => k' (.inr ⟨rfl, q⟩)
    have e1 : b = b' := by omega
    have e2 : c = c' := by omega
    subst e1 e2; rfl
  · exact absurd (.inl g) k'
theorem kl_trans {x y z : IKey} (h : kl x y) (k : kl y z) : kl x z := by
  refine Decidable.byContradiction fun g => ?_
  have := wo_E.neg (keyE x) (keyE z) (keyE y) g (kl_asymm k)
  exact this h
theorem kl_irrefl (x : IKey) : ¬ kl x x := fun h => kl_asymm h h
def Ch (f : Nat → Int) : Nat → List Nat → Prop
  | a, [] => f a = 0
  | a, b :: r => f a = (b : Int) ∧ Ch f b r
theorem ch_congr {f g : Nat → Int} : ∀ {l : List Nat} {a : Nat}, (∀ j ∈ a :: l, g j = f j) → Ch f a l → Ch g a l
  | [], a, h, hc => by
    show g a = 0
    rw [h a (by simp)]; exact hc
  | b :: r, a, h, hc => ⟨by rw [h a (by simp)]; exact hc.1, ch_congr (fun j hj => h j (List.mem_cons_of_mem _ hj)) hc.2⟩
theorem ch_split {f : Nat → Int} : ∀ {P R : List Nat} {a b : Nat}, Ch f a (P ++ b :: R) → Ch f b R
  | [], R, a, b, h => h.2
  | p :: P, R, a, b, h => ch_split (P := P) h.2
def lastD (a : Nat) (l : List Nat) : Nat := l.getLast?.getD a
theorem lastD_nil (a : Nat) : lastD a [] = a := rfl
theorem lastD_cons (a b : Nat) (l : List Nat) : lastD a (b :: l) = lastD b l := by
  unfold lastD
  cases l with
  | nil => rfl
  | cons c r => rw [List.getLast?_cons_cons, List.getLast?_cons]; rfl
theorem lastD_app (a b : Nat) (P R : List Nat) : lastD a (P ++ b :: R) = lastD b R := by
  unfold lastD
  rw [List.getLast?_append, List.getLast?_cons]
  rfl
theorem lastD_mem (a : Nat) : ∀ (l : List Nat), lastD a l ∈ a :: l
  | [] => by simp [lastD]
  | b :: r => by
    rw [lastD_cons]
    exact List.mem_cons_of_mem _ (lastD_mem b r)
theorem ch_insert {f g : Nat → Int} {n : Nat} : ∀ {A B : List Nat} {a : Nat}, Ch f a (A ++ B) → (a :: (A ++ B)).Nodup → n ∉ a :: (A ++ B) → g (lastD a A) = (n : Int) → g n = f (lastD a A) → (∀ j ∈ a :: (A ++ B), j ≠ lastD a A → g j = f j) → Ch g a (A ++ n :: B)
  | [], B, a, hc, hnd, hn, h1, h2, h3 => by
    rw [lastD_nil] at h1 h2 h3
    refine ⟨h1, ?_⟩
    cases B with
    | nil => show g n = 0; rw [h2]; exact hc
    | cons b r =>
      refine ⟨by rw [h2]; exact hc.1, ch_congr (fun j hj => h3 j (by simp at hj ⊢; exact .inr hj) ?_) hc.2⟩
      rintro rfl
      exact (List.nodup_cons.1 hnd).1 hj
  | b :: A, B, a, hc, hnd, hn, h1, h2, h3 => by
    rw [lastD_cons] at h1 h2 h3
    have hnd' := (List.nodup_cons.1 hnd)
    refine ⟨?_, ch_insert hc.2 hnd'.2 (fun h => hn (List.mem_cons_of_mem _ h)) h1 h2 fun j hj hne => h3 j (List.mem_cons_of_mem _ hj) hne⟩
    rw [h3 a (by simp) (fun e => hnd'.1 (by
      rw [e]
      have := lastD_mem b A
      simp only [List.cons_append, List.mem_cons, List.mem_append] at this ⊢
      rcases this with h | h
      · exact .inl h
      · exact .inr (.inl h)))]
    exact hc.1
/-- Links backwards. -/
def Pc (f : Nat → Int) : Nat → List Nat → Prop
  | _, [] => True
  | a, b :: r => f b = (a : Int) ∧ Pc f b r
theorem pc_congr {f g : Nat → Int} : ∀ {l : List Nat} {a : Nat}, (∀ j ∈ l, g j = f j) → Pc f a l → Pc g a l
  | [], a, h, hc => trivial
  | b :: r, a, h, hc => ⟨by rw [h b (by simp)]; exact hc.1, pc_congr (fun j hj => h j (List.mem_cons_of_mem _ hj)) hc.2⟩
theorem pc_insert {f g : Nat → Int} {n : Nat} : ∀ {A B : List Nat} {a : Nat}, Pc f a (A ++ B) → (A ++ B).Nodup → n ∉ (A ++ B) → g n = (lastD a A : Nat) → (∀ b, B.head? = some b → g b = (n : Int)) → (∀ j ∈ A ++ B, B.head? ≠ some j → g j = f j) → Pc g a (A ++ n :: B)
  | [], B, a, hc, hnd, hn, h1, h2, h3 => by
    refine ⟨h1, ?_⟩
    cases B with
    | nil => trivial
    | cons b r =>
      refine ⟨h2 b rfl, pc_congr (fun j hj => h3 j (by simp [hj]) ?_) hc.2⟩
      simp only [List.head?_cons, ne_eq, Option.some.injEq]
      rintro rfl
      exact (List.nodup_cons.1 hnd).1 hj
  | b :: A, B, a, hc, hnd, hn, h1, h2, h3 => by
    rw [lastD_cons] at h1
    have hnd' := (List.nodup_cons.1 hnd)
    refine ⟨?_, pc_insert hc.2 hnd'.2 (fun h => hn (List.mem_cons_of_mem _ h)) h1 h2 fun j hj hne => h3 j (List.mem_cons_of_mem _ hj) hne⟩
    rw [h3 b (by simp) ?_]
    · exact hc.1
    · intro e
      cases B with
      | nil => cases e
      | cons c r =>
        simp only [List.head?_cons, Option.some.injEq] at e
        subst e
        exact hnd'.1 (by simp)
abbrev Nd := skip_node_string
def z0 : Nd := ⟨⟨ByteArray.mk #[], 0, 0⟩, ByteArray.mk #[], 0, ⟨0, 0, 0, 0, 0, 0, 0, 0, 0, 0, 0, 0⟩, 0⟩
def nd (N : List Nd) (i : Nat) : Nd := N.getD i z0
def ky (N : List Nd) (i : Nat) : IKey := (nd N i).key
def ht (N : List Nd) (i : Nat) : Int := (nd N i).height
def nx (N : List Nd) (lv : Nat) (i : Nat) : Int := St132.get (nd N i).next_ (lv : Int)
def pv (N : List Nd) (i : Nat) : Int := (nd N i).prev
theorem nd_idx {N : List Nd} {i : Nat} (h : i < N.length) : idx N (i : Int) = some (nd N i) := getD_idx2 z0 h
theorem nd_set {N : List Nd} {a : Nat} (h : a < N.length) (x : Nd) (j : Nat) : nd (N.set a x) j = if j = a then x else nd N j := by
  unfold nd
  rw [List.getD_eq_getElem?_getD, List.getElem?_set]
  by_cases e : a = j
  · subst e; simp [h]
  · rw [if_neg e, if_neg (fun h => e h.symm), List.getD_eq_getElem?_getD]
theorem nd_snoc (N : List Nd) (x : Nd) (j : Nat) : nd (N ++ [x]) j = if j = N.length then x else nd N j := by
  unfold nd
  rw [List.getD_eq_getElem?_getD, List.getD_eq_getElem?_getD]
  by_cases e : j = N.length
  · subst e; simp
  · rw [if_neg e]
    rcases Nat.lt_or_ge j N.length with h | h
    · rw [List.getElem?_append_left h]
    · rw [List.getElem?_eq_none (by simp; omega), List.getElem?_eq_none (by omega)]
def onL (N : List Nd) (l : List Nat) (lv : Nat) : List Nat := l.filter fun i => decide ((lv : Int) < ht N i)
theorem onL_app (N : List Nd) (a b : List Nat) (lv : Nat) : onL N (a ++ b) lv = onL N a lv ++ onL N b lv := List.filter_append ..
theorem get_ofl {l : List Int} (h : l.length = 12) (i : Int) : St132.get (St132.ofl l) i = l.getD i.toNat 0 := by unfold St132.get; rw [St132.l_ofl l h]
theorem get_put4 (x : St132) (i : Nat) (hi : i < 12) (v : Int) (j : Nat) : St132.get (St132.put x (i : Int) v) (j : Int) = if j = i then v else St132.get x (j : Int) := by
  have hl : (St132.l x).length = 12 := rfl
  unfold St132.put
  rw [get_ofl (by rw [List.length_set]; rfl)]
  unfold St132.get
  rw [Int.toNat_natCast, Int.toNat_natCast, List.getD_eq_getElem?_getD, List.getElem?_set, List.getD_eq_getElem?_getD]
  by_cases e : i = j
  · subst e; simp [hl, hi]
  · rw [if_neg e, if_neg (fun h => e h.symm)]
theorem get_put7 (x : St135) (i : Nat) (hi : i < 12) (v : Int) (j : Nat) : St135.get (St135.put x (i : Int) v) (j : Int) = if j = i then v else St135.get x (j : Int) := by
  have hl : (St135.l x).length = 12 := rfl
  unfold St135.put
  unfold St135.get
  rw [St135.l_ofl _ (by rw [List.length_set]; rfl), Int.toNat_natCast, Int.toNat_natCast, List.getD_eq_getElem?_getD, List.getElem?_set, List.getD_eq_getElem?_getD]
  by_cases e : i = j
  · subst e; simp [hl, hi]
  · rw [if_neg e, if_neg (fun h => e h.symm)]
structure Inv (L : skip_List_string) (ord : List Nat) : Prop where
  most : L.most = 1048576
  len : L.nodes.length = ord.length + 1
  small : ord.length ≤ 1048576
  rng : ∀ i ∈ ord, 1 ≤ i ∧ i < L.nodes.length
  nd : ord.Nodup
  srt : ord.Pairwise fun i j => kl (ky L.nodes i) (ky L.nodes j)
  hts : ∀ i ∈ ord, 1 ≤ ht L.nodes i ∧ ht L.nodes i ≤ L.height
  hgt : 0 ≤ L.height ∧ L.height ≤ 12
  chn : ∀ lv, lv < 12 → Ch (nx L.nodes lv) 0 (onL L.nodes ord lv)
  prv : Pc (pv L.nodes) 0 ord
  lst : L.last = (lastD 0 ord : Nat)
theorem Inv.cut {L : skip_List_string} {ord : List Nat} (h : Inv L ord) (key : IKey) : ∃ A B, ord = A ++ B ∧ (∀ i ∈ A, kl (ky L.nodes i) key) ∧ (∀ i ∈ B, ¬ kl (ky L.nodes i) key) := by
  have hs := h.srt
  generalize ord = l at hs
  induction l with
  | nil => exact ⟨[], [], rfl, fun i hi => (by cases hi), fun i hi => (by cases hi)⟩
  | cons x l ih =>
    obtain ⟨h1, h2⟩ := List.pairwise_cons.1 hs
    by_cases hk : kl (ky L.nodes x) key
    · obtain ⟨A, B, e, hA, hB⟩ := ih h2
      refine ⟨x :: A, B, by rw [e]; rfl, fun i hi => ?_, hB⟩
      rcases List.mem_cons.1 hi with rfl | hi
      · exact hk
      · exact hA i hi
    · refine ⟨[], x :: l, rfl, fun i hi => (by cases hi), fun i hi => ?_⟩
      rcases List.mem_cons.1 hi with rfl | hi
      · exact hk
      · exact fun g => hk (kl_trans (h1 i hi) g)
end Go.Proofs.YtbaemhkfmddakaaGreat.Mo

set_option maxRecDepth 100000
namespace Go.Proofs.YtbaemhkfmddakaaGreat.Mo
open Go Go.Proofs.YtbaemhkfmddakaaGreat.Sy
theorem comp_ev (x y : IKey) : Ev (fun k => ikey_Compare k x y) (cE (keyE x) (keyE y)) := ⟨4, fun k hk => by
  obtain ⟨j, rfl⟩ := Nat.exists_eq_add_of_le' hk
  exact comp_eq j x y⟩
section
variable {L : skip_List_string} {ord A B : List Nat} {key : IKey}
/-- What stands first behind. -/
def hd (l : List Nat) : Int := match l with | [] => 0 | b :: _ => (b : Int)
theorem ch_hd {f : Nat → Int} {a : Nat} {l : List Nat} (h : Ch f a l) : f a = hd l := by
  cases l with
  | nil => exact h
  | cons b r => exact h.1
theorem mem_onL {N : List Nd} {l : List Nat} {lv i : Nat} : i ∈ onL N l lv ↔ i ∈ l ∧ (lv : Int) < ht N i := by
  unfold onL
  rw [List.mem_filter, decide_eq_true_eq]
/-- One round, where there is something below. -/
theorem trail_go (hI : Inv L ord) {k : Nat} {y : St135} {at_ b lv : Nat} (hlv : lv < 12) (hat : at_ < L.nodes.length) (hb : nx L.nodes lv at_ = (b : Int)) (hb1 : 1 ≤ b) (hb2 : b < L.nodes.length)
    (hc : ikey_Compare k (ky L.nodes b) key = some (cE (keyE (ky L.nodes b)) (keyE key))) :
    skip_List_string_trail.l0 L key (k + 1) y.e0 y.e1 y.e2 y.e3 y.e4 y.e5 y.e6 y.e7 y.e8 y.e9 y.e10 y.e11 (at_ : Int) (lv : Int) =
      if kl (ky L.nodes b) key then skip_List_string_trail.l0 L key k y.e0 y.e1 y.e2 y.e3 y.e4 y.e5 y.e6 y.e7 y.e8 y.e9 y.e10 y.e11 (b : Int) (lv : Int)
      else (some (St135.put y (lv : Int) (at_ : Int))).bind fun y => skip_List_string_trail.l0 L key k y.e0 y.e1 y.e2 y.e3 y.e4 y.e5 y.e6 y.e7 y.e8 y.e9 y.e10 y.e11 (at_ : Int) ((lv : Int) - 1) := by
  have hsm := hI.small
  have hln := hI.len
  have e0 : decide ((0 : Int) ≤ (lv : Int)) = true := decide_eq_true (by omega)
  have e1 := nd_idx hat
  have e2 : (0 : Int) ≤ (lv : Int) ∧ (lv : Int) < 12 := ⟨by omega, by omega⟩
  have e3 : w64 (St132.get (nd L.nodes at_).next_ (lv : Int)) = (b : Int) := by
    have : St132.get (nd L.nodes at_).next_ (lv : Int) = (b : Int) := hb
    rw [this, w64_of (by omega) (by omega)]
  have e4 : ((b : Int) != 0) = true := by rw [bne_iff_ne]; omega
  have e5 := nd_idx hb2
  have e6 : w64 ((lv : Int) - 1) = (lv : Int) - 1 := w64_of (by omega) (by omega)
  simp only [skip_List_string_trail.l0, e0, e1, Option.bind_some, if_true, if_pos e2, e3, e4, e5, Jn, e6]
  have hc' : ikey_Compare k (nd L.nodes b).key key = some (cE (keyE (ky L.nodes b)) (keyE key)) := hc
  rw [hc', Option.bind_some]
  by_cases h : kl (ky L.nodes b) key
  · have h' : decide (cE (keyE (ky L.nodes b)) (keyE key) < 0) = true := decide_eq_true h
    rw [if_pos h', if_pos h]
  · have h' : decide (cE (keyE (ky L.nodes b)) (keyE key) < 0) = false := decide_eq_false h
    rw [h', if_neg h]
    simp only [Bool.false_eq_true, if_false]
theorem trail_end (hI : Inv L ord) {k : Nat} {y : St135} {at_ lv : Nat} (hlv : lv < 12) (hat : at_ < L.nodes.length) (hb : nx L.nodes lv at_ = 0) :
    skip_List_string_trail.l0 L key (k + 1) y.e0 y.e1 y.e2 y.e3 y.e4 y.e5 y.e6 y.e7 y.e8 y.e9 y.e10 y.e11 (at_ : Int) (lv : Int) =
      (some (St135.put y (lv : Int) (at_ : Int))).bind fun y => skip_List_string_trail.l0 L key k y.e0 y.e1 y.e2 y.e3 y.e4 y.e5 y.e6 y.e7 y.e8 y.e9 y.e10 y.e11 (at_ : Int) ((lv : Int) - 1) := by
  have e0 : decide ((0 : Int) ≤ (lv : Int)) = true := decide_eq_true (by omega)
  have e1 := nd_idx hat
  have e2 : (0 : Int) ≤ (lv : Int) ∧ (lv : Int) < 12 := ⟨by omega, by omega⟩
  have e3 : w64 (St132.get (nd L.nodes at_).next_ (lv : Int)) = 0 := by
    have : St132.get (nd L.nodes at_).next_ (lv : Int) = 0 := hb
    rw [this]; rfl
  have e6 : w64 ((lv : Int) - 1) = (lv : Int) - 1 := w64_of (by omega) (by omega)
  simp only [skip_List_string_trail.l0, e0, e1, Option.bind_some, if_true, if_pos e2, e3, bne_self_eq_false, Bool.false_eq_true, if_false, Jn, e6]
theorem trail_row (hI : Inv L ord) (e : ord = A ++ B) (hA : ∀ i ∈ A, kl (ky L.nodes i) key) (hB : ∀ i ∈ B, ¬ kl (ky L.nodes i) key) {lv : Nat} (hlv : lv < 12) (y : St135) {T : St135} :
    ∀ (R : List Nat) (at_ : Nat), at_ < L.nodes.length → (∀ i ∈ R, i ∈ A) → Ch (nx L.nodes lv) at_ (R ++ onL L.nodes B lv) →
    (Ev (fun k => skip_List_string_trail.l0 L key k (St135.put y (lv : Int) (lastD at_ R : Nat)).e0 (St135.put y (lv : Int) (lastD at_ R : Nat)).e1 (St135.put y (lv : Int) (lastD at_ R : Nat)).e2 (St135.put y (lv : Int) (lastD at_ R : Nat)).e3 (St135.put y (lv : Int) (lastD at_ R : Nat)).e4 (St135.put y (lv : Int) (lastD at_ R : Nat)).e5 (St135.put y (lv : Int) (lastD at_ R : Nat)).e6 (St135.put y (lv : Int) (lastD at_ R : Nat)).e7 (St135.put y (lv : Int) (lastD at_ R : Nat)).e8 (St135.put y (lv : Int) (lastD at_ R : Nat)).e9 (St135.put y (lv : Int) (lastD at_ R : Nat)).e10 (St135.put y (lv : Int) (lastD at_ R : Nat)).e11 (lastD at_ R : Nat) ((lv : Int) - 1)) T) →
    Ev (fun k => skip_List_string_trail.l0 L key k y.e0 y.e1 y.e2 y.e3 y.e4 y.e5 y.e6 y.e7 y.e8 y.e9 y.e10 y.e11 (at_ : Int) (lv : Int)) T
  | [], at_, hat, hR, hc, h => by
    rw [lastD_nil] at h
    cases hb : onL L.nodes B lv with
    | nil =>
      rw [hb] at hc
      refine Ev.succ (Ev.congr (fun k => trail_end hI hlv hat hc) ?_)
      exact h
    | cons b r =>
      rw [hb] at hc
      have hbm : b ∈ B := (mem_onL.1 (by rw [hb]; simp : b ∈ onL L.nodes B lv)).1
      have hr := hI.rng b (by rw [e]; simp [hbm])
      obtain ⟨n1, c1⟩ := comp_ev (ky L.nodes b) key
      obtain ⟨n2, c2⟩ := h
      refine ⟨n1 + n2 + 1, fun k hk => ?_⟩
      obtain ⟨k, rfl⟩ : ∃ j, k = j + 1 := ⟨k - 1, by omega⟩
      show skip_List_string_trail.l0 L key (k + 1) y.e0 y.e1 y.e2 y.e3 y.e4 y.e5 y.e6 y.e7 y.e8 y.e9 y.e10 y.e11 (at_ : Int) (lv : Int) = some T
      rw [trail_go hI hlv hat hc.1 hr.1 hr.2 (c1 k (by omega)), if_neg (hB b hbm), Option.bind_some]
      exact c2 k (by omega)
  | b :: R, at_, hat, hR, hc, h => by
    rw [lastD_cons] at h
    have hbm : b ∈ A := hR b (by simp)
    have hr := hI.rng b (by rw [e]; simp [hbm])
    have ih := trail_row hI e hA hB hlv y R b hr.2 (fun i hi => hR i (List.mem_cons_of_mem _ hi)) hc.2 h
    obtain ⟨n1, c1⟩ := comp_ev (ky L.nodes b) key
    obtain ⟨n2, c2⟩ := ih
    refine ⟨n1 + n2 + 1, fun k hk => ?_⟩
    obtain ⟨k, rfl⟩ : ∃ j, k = j + 1 := ⟨k - 1, by omega⟩
    show skip_List_string_trail.l0 L key (k + 1) y.e0 y.e1 y.e2 y.e3 y.e4 y.e5 y.e6 y.e7 y.e8 y.e9 y.e10 y.e11 (at_ : Int) (lv : Int) = some T
    rw [trail_go hI hlv hat hc.1 hr.1 hr.2 (c1 k (by omega)), if_pos (hA b hbm)]
    exact c2 k (by omega)
theorem onL_mono {N : List Nd} {l : List Nat} {lv i : Nat} (h : i ∈ onL N l (lv + 1)) : i ∈ onL N l lv := by
  rw [mem_onL] at h ⊢
  exact ⟨h.1, by omega⟩
/-- Where a trail ends, at each level. -/
def la (N : List Nd) (A : List Nat) (lv : Nat) : Nat := lastD 0 (onL N A lv)
theorem trail_lv (hI : Inv L ord) (e : ord = A ++ B) (hA : ∀ i ∈ A, kl (ky L.nodes i) key) (hB : ∀ i ∈ B, ¬ kl (ky L.nodes i) key) :
    ∀ (n : Nat), n ≤ 12 → ∀ (at_ : Nat) (y : St135), (at_ = 0 ∨ ∀ lv, lv + 1 = n → at_ ∈ onL L.nodes A lv) →
    ∃ T, Ev (fun k => skip_List_string_trail.l0 L key k y.e0 y.e1 y.e2 y.e3 y.e4 y.e5 y.e6 y.e7 y.e8 y.e9 y.e10 y.e11 (at_ : Int) ((n : Int) - 1)) T ∧ ∀ lv : Nat, lv < 12 → St135.get T (lv : Int) = if lv < n then (la L.nodes A lv : Int) else St135.get y (lv : Int)
  | 0, hn, at_, y, hat => by
    refine ⟨y, Ev.succ ?_, fun lv hl => by simp⟩
    have e0 : decide ((0 : Int) ≤ ((0 : Nat) : Int) - 1) = false := decide_eq_false (by omega)
    simp only [skip_List_string_trail.l0, e0, Bool.false_eq_true, if_false]
    exact Ev.ret
  | n + 1, hn, at_, y, hat => by
    have hch := hI.chn n (by omega)
    rw [e, onL_app] at hch
    have en : ((n + 1 : Nat) : Int) - 1 = (n : Int) := by omega
    obtain ⟨R, hR1, hR2, hR3, hR4⟩ : ∃ R, (∀ i ∈ R, i ∈ A) ∧ Ch (nx L.nodes n) at_ (R ++ onL L.nodes B n) ∧ lastD at_ R = la L.nodes A n ∧ at_ < L.nodes.length := by
      rcases hat with rfl | hat
      · exact ⟨onL L.nodes A n, fun i hi => (mem_onL.1 hi).1, hch, rfl, by have := hI.len; omega⟩
      · have hm := hat n rfl
        obtain ⟨P, R, hPR⟩ := List.append_of_mem hm
        refine ⟨R, fun i hi => ?_, ?_, ?_, ?_⟩
        · exact (mem_onL.1 (by rw [hPR]; simp [hi] : i ∈ onL L.nodes A n)).1
        · rw [hPR, List.append_assoc, List.cons_append] at hch
          exact ch_split hch
        · unfold la
          rw [hPR, lastD_app]
        · exact (hI.rng at_ (by rw [e]; simp [(mem_onL.1 hm).1])).2
    have hla : la L.nodes A n = 0 ∨ la L.nodes A n ∈ onL L.nodes A n := by
      have := lastD_mem 0 (onL L.nodes A n)
      rcases List.mem_cons.1 this with h | h
      · exact .inl h
      · exact .inr h
    obtain ⟨T, hT, hT2⟩ := trail_lv hI e hA hB n (by omega) (la L.nodes A n) (St135.put y (n : Int) (la L.nodes A n : Nat)) (hla.imp id fun h lv hlv => by subst hlv; exact onL_mono h)
    refine ⟨T, ?_, fun lv hl => ?_⟩
    · rw [en]
      refine trail_row hI e hA hB (by omega) y R at_ hR4 hR1 hR2 ?_
      rw [hR3]
      exact hT
    · rw [hT2 lv hl, get_put7 y n (by omega)]
      by_cases h1 : lv < n
      · rw [if_pos h1, if_pos (by omega)]
      · rw [if_neg h1]
        by_cases h2 : lv = n
        · subst h2; rw [if_pos rfl, if_pos (by omega)]
        · rw [if_neg h2, if_neg (by omega)]
theorem la_top (hI : Inv L ord) (e : ord = A ++ B) {lv : Nat} (h : L.height ≤ (lv : Int)) : onL L.nodes A lv = [] ∧ onL L.nodes B lv = [] := by
  constructor
  · refine List.filter_eq_nil_iff.2 fun i hi => ?_
    have := hI.hts i (by rw [e]; simp [hi])
    simp; omega
  · refine List.filter_eq_nil_iff.2 fun i hi => ?_
    have := hI.hts i (by rw [e]; simp [hi])
    simp; omega
theorem trail_ev (hI : Inv L ord) (e : ord = A ++ B) (hA : ∀ i ∈ A, kl (ky L.nodes i) key) (hB : ∀ i ∈ B, ¬ kl (ky L.nodes i) key) :
    ∃ T, Ev (fun k => skip_List_string_trail k L key) T ∧ ∀ lv : Nat, lv < 12 → St135.get T (lv : Int) = (la L.nodes A lv : Int) := by
  obtain ⟨h0, h12⟩ := hI.hgt
  obtain ⟨n, hn⟩ : ∃ n : Nat, L.height = (n : Int) := ⟨L.height.toNat, by omega⟩
  obtain ⟨T, hT, hT2⟩ := trail_lv hI e hA hB n (by omega) 0 (⟨0, 0, 0, 0, 0, 0, 0, 0, 0, 0, 0, 0⟩ : St135) (.inl rfl)
  refine ⟨T, ?_, fun lv hl => ?_⟩
  · unfold skip_List_string_trail
    have : w64 (L.height - 1) = (n : Int) - 1 := by rw [hn]; exact w64_of (by omega) (by omega)
    simp only [this]
    exact hT
  · rw [hT2 lv hl]
    by_cases h : lv < n
    · rw [if_pos h]
    · rw [if_neg h]
      unfold la
      rw [(la_top hI e (by omega)).1]
      have : ∀ lv : Nat, lv < 12 → St135.get (⟨0, 0, 0, 0, 0, 0, 0, 0, 0, 0, 0, 0⟩ : St135) ((lv : Nat) : Int) = 0 := by decide
      rw [this lv hl]; rfl
theorem hts1 (hI : Inv L ord) (e : ord = A ++ B) : onL L.nodes A 0 = A ∧ onL L.nodes B 0 = B := by
  constructor
  · refine List.filter_eq_self.2 fun i hi => ?_
    have := hI.hts i (by rw [e]; simp [hi])
    simp; omega
  · refine List.filter_eq_self.2 fun i hi => ?_
    have := hI.hts i (by rw [e]; simp [hi])
    simp; omega
theorem la0 (hI : Inv L ord) (e : ord = A ++ B) : la L.nodes A 0 = lastD 0 A := by unfold la; rw [(hts1 hI e).1]
theorem lastD_in (hI : Inv L ord) (e : ord = A ++ B) (lv : Nat) : la L.nodes A lv < L.nodes.length := by
  have := lastD_mem 0 (onL L.nodes A lv)
  rcases List.mem_cons.1 this with h | h
  · unfold la; rw [h]; have := hI.len; omega
  · have h' : la L.nodes A lv ∈ onL L.nodes A lv := h
    exact (hI.rng _ (by rw [e]; simp [(mem_onL.1 h').1])).2
theorem nx_la (hI : Inv L ord) (e : ord = A ++ B) {lv : Nat} (hlv : lv < 12) : nx L.nodes lv (la L.nodes A lv) = hd (onL L.nodes B lv) := by
  have hch := hI.chn lv hlv
  rw [e, onL_app] at hch
  unfold la
  rcases List.eq_nil_or_concat (onL L.nodes A lv) with h | ⟨P, x, h⟩
  · rw [h] at hch ⊢
    exact ch_hd hch
  · rw [List.concat_eq_append] at h
    rw [h, lastD_app, lastD_nil]
    rw [h, List.append_assoc, List.singleton_append] at hch
    exact ch_hd (ch_split hch)
theorem none_ev (hI : Inv L ord) : skip_List_string_none L = some false := by
  unfold skip_List_string_none
  have : ((L.nodes.length : Int) == 0) = false := by rw [beq_eq_false_iff_ne]; have := hI.len; omega
  rw [this]
theorem hd_in (hI : Inv L ord) (e : ord = A ++ B) (lv : Nat) : 0 ≤ hd (onL L.nodes B lv) ∧ hd (onL L.nodes B lv) < (L.nodes.length : Int) := by
  cases h : onL L.nodes B lv with
  | nil => have := hI.len; simp [hd]; omega
  | cons b r =>
    have := hI.rng b (by rw [e]; simp [(mem_onL.1 (by rw [h]; simp : b ∈ onL L.nodes B lv)).1])
    simp [hd]; omega
/-- Seek tells the first one that is not below. -/
theorem seek_ev (hI : Inv L ord) (e : ord = A ++ B) (hA : ∀ i ∈ A, kl (ky L.nodes i) key) (hB : ∀ i ∈ B, ¬ kl (ky L.nodes i) key) : Ev (fun k => skip_List_string_Seek k L key) (hd B) := by
  obtain ⟨T, hT, hT2⟩ := trail_ev hI e hA hB
  unfold skip_List_string_Seek skip_List_string_Before
  rw [none_ev hI]
  simp only [Option.bind_some, Bool.false_eq_true, if_false]
  have t0 : St135.get T 0 = (la L.nodes A 0 : Int) := hT2 0 (by omega)
  have hx := nd_idx (lastD_in hI e 0)
  have hn := nx_la hI e (lv := 0) (by omega)
  have hr := hd_in hI e 0
  rw [(hts1 hI e).2] at hn hr
  have hs := hI.small
  have hl := hI.len
  refine Ev.bind (Ev.bind hT (Ev.of fun _ => by rw [t0])) ?_
  rw [hx, Option.bind_some]
  have hn' : St132.get (nd L.nodes (la L.nodes A 0)).next_ 0 = hd B := hn
  rw [hn', w64_of (by omega) (by omega)]
  exact Ev.ret
end
end Go.Proofs.YtbaemhkfmddakaaGreat.Mo

set_option maxRecDepth 100000
namespace Go.Proofs.YtbaemhkfmddakaaGreat.Mo
open Go Go.Proofs.YtbaemhkfmddakaaGreat.Sy
theorem w32_of {x : Int} (h1 : 0 ≤ x) (h2 : x ≤ 2147483647) : w32 x = x := by
  unfold w32 IntKind.wrap
  simp [IntKind.bits, IntKind.signed]
  omega
/-- What the loop over the levels has made so far. -/
structure LI (N0 : List Nd) (A : List Nat) (l : List Nd) (x : St132) (i : Nat) : Prop where
  len : l.length = N0.length
  same : ∀ j, (nd l j).key = (nd N0 j).key ∧ (nd l j).value = (nd N0 j).value ∧ (nd l j).height = (nd N0 j).height ∧ (nd l j).prev = (nd N0 j).prev
  nx : ∀ lv, lv < 12 → ∀ j, nx l lv j = if lv < i ∧ j = la N0 A lv then (N0.length : Int) else nx N0 lv j
  new : ∀ lv : Nat, lv < 12 → St132.get x (lv : Int) = if lv < i then Go.Proofs.YtbaemhkfmddakaaGreat.Mo.nx N0 lv (la N0 A lv) else 0
section
variable {L : skip_List_string} {ord A B : List Nat} {key : IKey}
theorem li_step (hI : Inv L ord) (e : ord = A ++ B) {l : List Nd} {x : St132} {i : Nat} (hi : i < 12) (h : LI L.nodes A l x i) :
    LI L.nodes A (l.set (la L.nodes A i) ⟨(nd l (la L.nodes A i)).key, (nd l (la L.nodes A i)).value, (nd l (la L.nodes A i)).height, St132.put (nd l (la L.nodes A i)).next_ (i : Int) (L.nodes.length : Int), (nd l (la L.nodes A i)).prev⟩)
      (St132.put x (i : Int) (St132.get (nd l (la L.nodes A i)).next_ (i : Int))) (i + 1) := by
  have ha : la L.nodes A i < l.length := by rw [h.len]; exact lastD_in hI e i
  refine ⟨by rw [List.length_set]; exact h.len, fun j => ?_, fun lv hlv j => ?_, fun lv hlv => ?_⟩
  · rw [nd_set ha]
    by_cases hj : j = la L.nodes A i
    · subst hj; rw [if_pos rfl]; exact h.same _
    · rw [if_neg hj]; exact h.same j
  · unfold nx
    rw [nd_set ha]
    by_cases hj : j = la L.nodes A i
    · subst hj
      rw [if_pos rfl]
      show St132.get (St132.put (nd l (la L.nodes A i)).next_ (i : Int) (L.nodes.length : Int)) (lv : Int) = _
      rw [get_put4 _ i hi]
      by_cases h1 : lv = i
      · subst h1; rw [if_pos rfl, if_pos ⟨by omega, rfl⟩]
      · rw [if_neg h1]
        have := h.nx lv hlv (la L.nodes A i)
        unfold nx at this
        rw [this]
        by_cases h2 : lv < i ∧ la L.nodes A i = la L.nodes A lv
        · rw [if_pos h2, if_pos ⟨by omega, h2.2⟩]
        · rw [if_neg h2, if_neg (fun g => h2 ⟨by omega, g.2⟩)]
    · rw [if_neg hj]
      have := h.nx lv hlv j
      unfold nx at this
      rw [this]
      by_cases h2 : lv < i ∧ j = la L.nodes A lv
      · rw [if_pos h2, if_pos ⟨by omega, h2.2⟩]
      · rw [if_neg h2, if_neg (fun g => h2 ⟨?_, g.2⟩)]
        rcases Nat.lt_or_ge lv i with q | q
        · exact q
        · obtain rfl : lv = i := by omega
          exact absurd g.2 hj
  · rw [get_put4 _ i hi]
    by_cases h1 : lv = i
    · subst h1
      rw [if_pos rfl, if_pos (by omega)]
      have := h.nx lv hlv (la L.nodes A lv)
      unfold nx at this
      rw [this, if_neg (by omega)]
      rfl
    · rw [if_neg h1, h.new lv hlv]
      by_cases h2 : lv < i
      · rw [if_pos h2, if_pos (by omega)]
      · rw [if_neg h2, if_neg (by omega)]
/-- What an insertion leaves. -/
structure Made (L L' : skip_List_string) (ord : List Nat) (key : IKey) (v : ByteArray) : Prop where
  inv : Inv L' ord
  len : L'.nodes.length = L.nodes.length + 1
  old : ∀ j, j < L.nodes.length → (nd L'.nodes j).key = (nd L.nodes j).key ∧ (nd L'.nodes j).value = (nd L.nodes j).value
  new : (nd L'.nodes L.nodes.length).key = key ∧ (nd L'.nodes L.nodes.length).value = v
theorem made_of (hI : Inv L ord) (e : ord = A ++ B) (hA : ∀ i ∈ A, kl (ky L.nodes i) key) (hB : ∀ i ∈ B, ¬ kl (ky L.nodes i) key) (hne : ∀ i ∈ ord, ky L.nodes i ≠ key) (hfull : ord.length < 1048576) {v : ByteArray} {h : Nat} (h1 : 1 ≤ h) (h2 : h ≤ 12)
    {N' : List Nd} {last : Int} {H : Int} (hH : H = maxI L.height (h : Int)) (hlen : N'.length = L.nodes.length + 1)
    (hold : ∀ j, j < L.nodes.length → (nd N' j).key = (nd L.nodes j).key ∧ (nd N' j).value = (nd L.nodes j).value ∧ (nd N' j).height = (nd L.nodes j).height ∧ (nd N' j).prev = if (0 < hd B ∧ (j : Int) = hd B) then (L.nodes.length : Int) else (nd L.nodes j).prev)
    (hnew : (nd N' L.nodes.length).key = key ∧ (nd N' L.nodes.length).value = v ∧ (nd N' L.nodes.length).height = (h : Int) ∧ (nd N' L.nodes.length).prev = (la L.nodes A 0 : Int))
    (hnx : ∀ lv, lv < 12 → (∀ j, j < L.nodes.length → nx N' lv j = if lv < h ∧ j = la L.nodes A lv then (L.nodes.length : Int) else nx L.nodes lv j) ∧ nx N' lv L.nodes.length = if lv < h then nx L.nodes lv (la L.nodes A lv) else 0)
    (hlast : last = if 0 < hd B then L.last else (L.nodes.length : Int)) : Made L ⟨N', L.most, H, last⟩ (A ++ L.nodes.length :: B) key v := by
  have hlt : ∀ i ∈ A ++ B, 1 ≤ i ∧ i < L.nodes.length := fun i hi => hI.rng i (by rw [e]; exact hi)
  have hnA : L.nodes.length ∉ A ++ B := fun h => by have := hlt _ h; omega
  have hkyo : ∀ i, i < L.nodes.length → ky N' i = ky L.nodes i := fun i hi => (hold i hi).1
  have hhto : ∀ i, i < L.nodes.length → ht N' i = ht L.nodes i := fun i hi => (hold i hi).2.2.1
  have hAm : ∀ i ∈ A, 1 ≤ i ∧ i < L.nodes.length := fun i hi => hlt i (by simp [hi])
  have hBm : ∀ i ∈ B, 1 ≤ i ∧ i < L.nodes.length := fun i hi => hlt i (by simp [hi])
  have hkn : ky N' L.nodes.length = key := hnew.1
  have hHge : L.height ≤ H ∧ (h : Int) ≤ H ∧ H ≤ 12 := by
    have := hI.hgt
    rw [hH]; unfold maxI; split <;> omega
  have hhd : 0 < hd B ∨ B = [] := by
    cases B with
    | nil => exact .inr rfl
    | cons b r => left; have := hBm b (by simp); simp [hd]; omega
  refine ⟨⟨hI.most, ?_, ?_, ?_, ?_, ?_, ?_, ⟨(by have := hI.hgt; have := hHge.1; show 0 ≤ H; omega), hHge.2.2⟩, ?_, ?_, ?_⟩, hlen, fun j hj => ⟨(hold j hj).1, (hold j hj).2.1⟩, ⟨hnew.1, hnew.2.1⟩⟩
  · show N'.length = _
    rw [hlen, hI.len, e]; simp; omega
  · rw [e] at hfull; simp at hfull ⊢; omega
  · intro i hi
    show 1 ≤ i ∧ i < N'.length
    rw [hlen]
    simp only [List.mem_append, List.mem_cons] at hi
    rcases hi with hi | rfl | hi
    · have := hAm i hi; omega
    · have := hI.len; omega
    · have := hBm i hi; omega
  · have hn := hI.nd
    rw [e] at hn
    rw [List.nodup_append] at hn ⊢
    obtain ⟨n1, n2, n3⟩ := hn
    refine ⟨n1, List.nodup_cons.2 ⟨fun g => hnA (by simp [g]), n2⟩, fun a ha b hb => ?_⟩
    rcases List.mem_cons.1 hb with rfl | hb
    · rintro rfl; exact hnA (by simp [ha])
    · exact n3 a ha b hb
  · have hs := hI.srt
    rw [e] at hs
    show List.Pairwise (fun i j => kl (ky N' i) (ky N' j)) (A ++ L.nodes.length :: B)
    rw [List.pairwise_append] at hs ⊢
    obtain ⟨s1, s2, s3⟩ := hs
    refine ⟨s1.imp_of_mem fun ha hb g => ?_, List.pairwise_cons.2 ⟨fun j hj => ?_, s2.imp_of_mem fun ha hb g => ?_⟩, fun a ha b hb => ?_⟩
    · rw [hkyo _ (hAm _ ha).2, hkyo _ (hAm _ hb).2]; exact g
    · rw [hkn, hkyo _ (hBm _ hj).2]
      refine Decidable.byContradiction fun g => hne j (by rw [e]; simp [hj]) (kl_tri (hB j hj) g)
    · rw [hkyo _ (hBm _ ha).2, hkyo _ (hBm _ hb).2]; exact g
    · rcases List.mem_cons.1 hb with rfl | hb
      · rw [hkyo _ (hAm _ ha).2, hkn]; exact hA a ha
      · rw [hkyo _ (hAm _ ha).2, hkyo _ (hBm _ hb).2]; exact s3 a ha b hb
  · intro i hi
    show 1 ≤ ht N' i ∧ ht N' i ≤ H
    simp only [List.mem_append, List.mem_cons] at hi
    rcases hi with hi | rfl | hi
    · rw [hhto i (hAm i hi).2]; have := hI.hts i (by rw [e]; simp [hi]); omega
    · have : ht N' L.nodes.length = (h : Int) := hnew.2.2.1
      rw [this]; omega
    · rw [hhto i (hBm i hi).2]; have := hI.hts i (by rw [e]; simp [hi]); omega
  · intro lv hlv
    show Ch (nx N' lv) 0 (onL N' (A ++ L.nodes.length :: B) lv)
    obtain ⟨x1, x2⟩ := hnx lv hlv
    have oA : onL N' A lv = onL L.nodes A lv := List.filter_congr fun i hi => by rw [hhto i (hAm i hi).2]
    have oB : onL N' B lv = onL L.nodes B lv := List.filter_congr fun i hi => by rw [hhto i (hBm i hi).2]
    have hch := hI.chn lv hlv
    rw [e, onL_app] at hch
    have hht : ht N' L.nodes.length = (h : Int) := hnew.2.2.1
    have hmem : ∀ j ∈ 0 :: (onL L.nodes A lv ++ onL L.nodes B lv), j < L.nodes.length := fun j hj => by
      simp only [List.mem_cons, List.mem_append, mem_onL] at hj
      rcases hj with rfl | hj | hj
      · have := hI.len; omega
      · exact (hAm j hj.1).2
      · exact (hBm j hj.1).2
    rw [onL_app, oA]
    by_cases hh : lv < h
    · have : onL N' (L.nodes.length :: B) lv = L.nodes.length :: onL L.nodes B lv := by
        rw [← oB]; unfold onL; rw [List.filter_cons_of_pos (by rw [hht]; simp; omega)]
      rw [this]
      have hla := lastD_in hI e lv
      refine ch_insert hch ?_ (fun g => by have := hmem _ g; omega) ?_ ?_ fun j hj hne => ?_
      · refine List.nodup_cons.2 ⟨fun g => ?_, ?_⟩
        · simp only [List.mem_append, mem_onL] at g
          rcases g with g | g
          · have := hAm 0 g.1; omega
          · have := hBm 0 g.1; omega
        · rw [← onL_app, ← e]
          exact hI.nd.sublist List.filter_sublist
      · show nx N' lv (la L.nodes A lv) = _
        rw [x1 _ hla, if_pos ⟨hh, rfl⟩]
      · rw [x2, if_pos hh]; rfl
      · rw [x1 j (hmem j hj), if_neg (fun g => hne g.2)]
    · have : onL N' (L.nodes.length :: B) lv = onL L.nodes B lv := by
        rw [← oB]; unfold onL; rw [List.filter_cons_of_neg (by rw [hht]; simp; omega)]
      rw [this]
      exact ch_congr (fun j hj => by rw [x1 j (hmem j hj), if_neg (fun g => hh g.1)]) hch
  · show Pc (pv N') 0 (A ++ L.nodes.length :: B)
    have hp := hI.prv
    rw [e] at hp
    have hn := hI.nd
    rw [e] at hn
    refine pc_insert hp hn hnA ?_ (fun b hb => ?_) fun j hj hne => ?_
    · have : pv N' L.nodes.length = (la L.nodes A 0 : Int) := hnew.2.2.2
      rw [this, la0 hI e]
    · cases B with
      | nil => cases hb
      | cons c r =>
        simp only [List.head?_cons, Option.some.injEq] at hb
        subst hb
        have hc := hBm c (by simp)
        show (nd N' c).prev = _
        rw [(hold c hc.2).2.2.2, if_pos ⟨by simp [hd]; omega, rfl⟩]
    · show (nd N' j).prev = (nd L.nodes j).prev
      rw [(hold j (hlt j hj).2).2.2.2, if_neg ?_]
      rintro ⟨g1, g2⟩
      cases B with
      | nil => simp [hd] at g1
      | cons c r =>
        apply hne
        simp only [hd] at g2
        simp only [List.head?_cons, Option.some.injEq]
        omega
  · show last = _
    rw [hlast, lastD_app]
    rcases hhd with g | g
    · rw [if_pos g, hI.lst, e]
      cases B with
      | nil => simp [hd] at g
      | cons b r => rw [lastD_app, lastD_cons]
    · subst g
      rw [if_neg (by simp [hd])]; rfl
theorem insert_l0 (hI : Inv L ord) (e : ord = A ++ B) (hA : ∀ i ∈ A, kl (ky L.nodes i) key) (hB : ∀ i ∈ B, ¬ kl (ky L.nodes i) key) (hne : ∀ i ∈ ord, ky L.nodes i ≠ key) (hfull : ord.length < 1048576) (v : ByteArray) {h : Nat} (h1 : 1 ≤ h) (h2 : h ≤ 12)
    {T : St135} (hT : ∀ lv : Nat, lv < 12 → St135.get T (lv : Int) = (la L.nodes A lv : Int)) :
    ∀ (d i : Nat) (l : List Nd) (x : St132), i + d = h → LI L.nodes A l x i →
    ∃ L', Ev (fun k => skip_List_string_Insert.l0 L key v (h : Int) T k l x.e0 x.e1 x.e2 x.e3 x.e4 x.e5 x.e6 x.e7 x.e8 x.e9 x.e10 x.e11 (i : Int)) (0, L') ∧ Made L L' (A ++ L.nodes.length :: B) key v
  | 0, i, l, x, hd0, hli => by
    have hih : i = h := by omega
    subst hih
    have hlen := hI.len
    have hsm := hI.small
    have e0 : decide (((i : Nat) : Int) < (i : Int)) = false := decide_eq_false (by omega)
    have hwn : w32 (L.nodes.length : Int) = (L.nodes.length : Int) := w32_of (by omega) (by omega)
    have ht0 : St135.get T 0 = (la L.nodes A 0 : Int) := hT 0 (by omega)
    have hla := lastD_in hI e 0
    have hw0 : w32 (St135.get T 0) = (la L.nodes A 0 : Int) := by rw [ht0]; exact w32_of (by omega) (by omega)
    have hx0 : St132.get x 0 = hd B := by
      have := hli.new 0 (by omega)
      rw [if_pos (by omega), nx_la hI e (by omega), (hts1 hI e).2] at this
      exact this
    have hhr := hd_in hI e 0
    rw [(hts1 hI e).2] at hhr
    have hwx : w64 (St132.get x 0) = hd B := by rw [hx0]; exact w64_of (by omega) (by omega)
    have hlast0 : hd B = 0 ∨ 0 < hd B := by omega
    have hll := hli.len
    have hpush : push 2010535547779 l (⟨key, v, (i : Int), x, (la L.nodes A 0 : Int)⟩ : Nd) = some (l ++ [⟨key, v, (i : Int), x, (la L.nodes A 0 : Int)⟩]) := push_ok (by omega)
    have key0 : ∀ j, j < L.nodes.length → nd (l ++ [(⟨key, v, (i : Int), x, (la L.nodes A 0 : Int)⟩ : Nd)]) j = nd l j := fun j hj => by rw [nd_snoc, if_neg (by omega)]
    have key1 : nd (l ++ [(⟨key, v, (i : Int), x, (la L.nodes A 0 : Int)⟩ : Nd)]) L.nodes.length = ⟨key, v, (i : Int), x, (la L.nodes A 0 : Int)⟩ := by rw [nd_snoc, if_pos (by omega)]
    rcases hlast0 with hz | hz
    · refine ⟨⟨l ++ [⟨key, v, (i : Int), x, (la L.nodes A 0 : Int)⟩], L.most, maxI L.height (i : Int), (L.nodes.length : Int)⟩, Ev.succ ?_, ?_⟩
      · have e1 : (hd B != 0) = false := by rw [hz]; rfl
        simp only [skip_List_string_Insert.l0, e0, Bool.false_eq_true, if_false, hw0, hpush, Option.bind_some, Jn]
        simp only [show (⟨x.e0, x.e1, x.e2, x.e3, x.e4, x.e5, x.e6, x.e7, x.e8, x.e9, x.e10, x.e11⟩ : St132) = x from rfl, hwx, e1, Bool.false_eq_true, if_false, hpush, Option.bind_some]
        exact Ev.ret
      · refine made_of hI e hA hB hne hfull h1 h2 rfl (by simp [hll]) (fun j hj => ?_) ?_ (fun lv hlv => ⟨fun j hj => ?_, ?_⟩) (by rw [if_neg (by omega)])
        · rw [key0 j hj, if_neg (by omega)]
          exact hli.same j
        · rw [key1]; exact ⟨rfl, rfl, rfl, rfl⟩
        · unfold nx; rw [key0 j hj]
          exact hli.nx lv hlv j
        · unfold nx; rw [key1]
          exact hli.new lv hlv
    · obtain ⟨b, hb⟩ : ∃ b : Nat, hd B = (b : Int) := ⟨(hd B).toNat, by omega⟩
      have hbl : b < L.nodes.length := by omega
      have hbl' : b < (l ++ [(⟨key, v, (i : Int), x, (la L.nodes A 0 : Int)⟩ : Nd)]).length := by simp; omega
      have hidx := nd_idx hbl'
      have hupd : ∀ y : Nd, upd (l ++ [(⟨key, v, (i : Int), x, (la L.nodes A 0 : Int)⟩ : Nd)]) (b : Int) y = some ((l ++ [(⟨key, v, (i : Int), x, (la L.nodes A 0 : Int)⟩ : Nd)]).set b y) := fun y => by
        unfold upd
        rw [if_pos ⟨by omega, by omega⟩, Int.toNat_natCast]
      refine ⟨⟨(l ++ [(⟨key, v, (i : Int), x, (la L.nodes A 0 : Int)⟩ : Nd)]).set b ⟨(nd l b).key, (nd l b).value, (nd l b).height, (nd l b).next_, (L.nodes.length : Int)⟩, L.most, maxI L.height (i : Int), L.last⟩, Ev.succ ?_, ?_⟩
      · have e1 : (((b : Nat) : Int) != 0) = true := by rw [bne_iff_ne]; omega
        simp only [skip_List_string_Insert.l0, e0, Bool.false_eq_true, if_false, hw0, hpush, Option.bind_some, Jn]
        simp only [show (⟨x.e0, x.e1, x.e2, x.e3, x.e4, x.e5, x.e6, x.e7, x.e8, x.e9, x.e10, x.e11⟩ : St132) = x from rfl, hwx, hb, e1, if_true, hpush, Option.bind_some, hidx, hupd, hwn, key0 b hbl]
        exact Ev.ret
      · have nset : ∀ j, nd ((l ++ [(⟨key, v, (i : Int), x, (la L.nodes A 0 : Int)⟩ : Nd)]).set b ⟨(nd l b).key, (nd l b).value, (nd l b).height, (nd l b).next_, (L.nodes.length : Int)⟩) j = if j = b then ⟨(nd l b).key, (nd l b).value, (nd l b).height, (nd l b).next_, (L.nodes.length : Int)⟩ else nd (l ++ [(⟨key, v, (i : Int), x, (la L.nodes A 0 : Int)⟩ : Nd)]) j := fun j => nd_set hbl' _ j
        refine made_of hI e hA hB hne hfull h1 h2 rfl (by simp [hll]) (fun j hj => ?_) ?_ (fun lv hlv => ⟨fun j hj => ?_, ?_⟩) (by rw [if_pos hz])
        · rw [nset]
          have hs := hli.same j
          by_cases g : j = b
          · subst g
            rw [if_pos rfl, if_pos ⟨hz, hb.symm⟩]
            exact ⟨hs.1, hs.2.1, hs.2.2.1, rfl⟩
          · rw [if_neg g, key0 j hj, if_neg (fun q => g (by omega))]
            exact hs
        · rw [nset, if_neg (by omega), key1]; exact ⟨rfl, rfl, rfl, rfl⟩
        · have q := hli.nx lv hlv j
          unfold nx at q ⊢
          rw [nset]
          by_cases g : j = b
          · subst g; rw [if_pos rfl]; exact q
          · rw [if_neg g, key0 j hj]; exact q
        · unfold nx
          rw [nset, if_neg (by omega), key1]
          exact hli.new lv hlv
  | d + 1, i, l, x, hd0, hli => by
    have hlen := hI.len
    have hsm := hI.small
    have e0 : decide ((i : Int) < (h : Int)) = true := decide_eq_true (by omega)
    have e2 : (0 : Int) ≤ (i : Int) ∧ (i : Int) < 12 := ⟨by omega, by omega⟩
    have hla := lastD_in hI e i
    have hll := hli.len
    have hti := hT i (by omega)
    have hidx := nd_idx (N := l) (i := la L.nodes A i) (by omega)
    have hwn : w32 (L.nodes.length : Int) = (L.nodes.length : Int) := w32_of (by omega) (by omega)
    have hw1 : w64 ((i : Int) + 1) = ((i + 1 : Nat) : Int) := w64_succ (by omega)
    have hupd : ∀ y : Nd, upd l (la L.nodes A i : Int) y = some (l.set (la L.nodes A i) y) := fun y => by
      unfold upd
      rw [if_pos ⟨by omega, by omega⟩, Int.toNat_natCast]
    obtain ⟨L', hL', hM⟩ := insert_l0 hI e hA hB hne hfull v h1 h2 hT d (i + 1) _ _ (by omega) (li_step hI e (by omega) hli)
    refine ⟨L', Ev.succ ?_, hM⟩
    simp only [skip_List_string_Insert.l0, e0, if_true, if_pos e2, hti, hidx, Option.bind_some, hwn, hupd, hw1]
    simp only [show (⟨x.e0, x.e1, x.e2, x.e3, x.e4, x.e5, x.e6, x.e7, x.e8, x.e9, x.e10, x.e11⟩ : St132) = x from rfl]
    exact hL'
end
end Go.Proofs.YtbaemhkfmddakaaGreat.Mo

set_option maxRecDepth 100000
namespace Go.Proofs.YtbaemhkfmddakaaGreat.Mo
open Go Go.Proofs.YtbaemhkfmddakaaGreat.Sy
section
variable {L : skip_List_string} {ord A B P S : List Nat} {key : IKey}
theorem pc_at {f : Nat → Int} : ∀ {P S : List Nat} {a i : Nat}, Pc f a (P ++ i :: S) → f i = (lastD a P : Nat)
  | [], S, a, i, h => h.1
  | p :: P, S, a, i, h => by rw [lastD_cons]; exact pc_at (P := P) h.2
theorem ch0 (hI : Inv L ord) : Ch (nx L.nodes 0) 0 ord := by
  have h := hI.chn 0 (by omega)
  have := (hts1 hI (A := ord) (B := []) (by simp)).1
  rwa [this] at h
theorem nx_at (hI : Inv L ord) {i : Nat} (e : ord = P ++ i :: S) : nx L.nodes 0 i = hd S := by
  have h := ch0 hI
  rw [e] at h
  exact ch_hd (ch_split h)
theorem hd_rng (hI : Inv L ord) (e : ord = P ++ S) : 0 ≤ hd S ∧ hd S ≤ 1048577 := by
  have hs := hI.small
  have hl := hI.len
  cases S with
  | nil => simp [hd]
  | cons b r =>
    have := hI.rng b (by rw [e]; simp)
    simp [hd]; omega
theorem lastD_rng (hI : Inv L ord) (e : ord = P ++ S) : (lastD 0 P : Nat) ≤ 1048577 := by
  have hs := hI.small
  have hl := hI.len
  rcases List.mem_cons.1 (lastD_mem 0 P) with h | h
  · omega
  · have := hI.rng (lastD 0 P) (by rw [e]; simp [h]); omega
theorem first_ev (hI : Inv L ord) : skip_List_string_First L = some (hd ord) := by
  unfold skip_List_string_First
  have h0 : (0 : Nat) < L.nodes.length := by have := hI.len; omega
  have h1 := nd_idx h0
  have h2 : St132.get (nd L.nodes 0).next_ 0 = hd ord := ch_hd (ch0 hI)
  have hr := hd_rng hI (P := []) (S := ord) rfl
  have h1' : idx L.nodes 0 = some (nd L.nodes 0) := h1
  rw [none_ev hI, Option.bind_some]
  simp only [Bool.false_eq_true, if_false, h1', Option.bind_some, h2]
  rw [w64_of (by omega) (by omega)]
theorem has_ev (hI : Inv L ord) {i : Nat} (hi : i ∈ ord) : skip_List_string_has L (i : Int) = some true := by
  unfold skip_List_string_has
  have := hI.rng i hi
  rw [none_ev hI, Option.bind_some, decide_eq_true (by omega : (1 : Int) ≤ (i : Int)), decide_eq_true (by omega : (i : Int) < (L.nodes.length : Int))]
  rfl
theorem next_ev (hI : Inv L ord) {i : Nat} (e : ord = P ++ i :: S) : skip_List_string_Next L (i : Int) = some (hd S) := by
  unfold skip_List_string_Next
  have hi : i ∈ ord := by rw [e]; simp
  have hr := hI.rng i hi
  have h2 : St132.get (nd L.nodes i).next_ 0 = hd S := nx_at hI e
  have hh := hd_rng hI (P := P ++ [i]) (S := S) (by rw [e]; simp)
  rw [has_ev hI hi, Option.bind_some]
  simp only [Bool.not_true, Bool.false_eq_true, if_false, nd_idx hr.2, Option.bind_some, h2]
  rw [w64_of (by omega) (by omega)]
def eN (N : List Nd) (i : Nat) : Entry := ⟨(ky N i).Key, (ky N i).Seq, (ky N i).Kind, (nd N i).value⟩
theorem node_ev (hI : Inv L ord) {i : Nat} (hi : i ∈ ord) : skip_List_string_Node L (i : Int) = some (ky L.nodes i, (nd L.nodes i).value, true) := by
  unfold skip_List_string_Node
  have hr := hI.rng i hi
  rw [has_ev hI hi, Option.bind_some]
  simp only [Bool.not_true, Bool.false_eq_true, if_false, nd_idx hr.2, Option.bind_some]
  rfl
theorem ieqb {x y : IKey} : IKey.eqb x y = true ↔ x = y := by
  obtain ⟨a, b, c⟩ := x
  obtain ⟨a', b', c'⟩ := y
  simp only [IKey.eqb, Bool.and_eq_true, sEq_iff, beq_iff_eq, Bool.and_true, IKey.mk.injEq, and_assoc, and_true]
/-- An insertion, whole. -/
theorem insert_ev (hI : Inv L ord) (e : ord = A ++ B) (hA : ∀ i ∈ A, kl (ky L.nodes i) key) (hB : ∀ i ∈ B, ¬ kl (ky L.nodes i) key) (v : ByteArray) {h : Nat} (h1 : 1 ≤ h) (h2 : h ≤ 12) (hv : ikey_Valid key = some true) :
    ((∃ b r, B = b :: r ∧ ky L.nodes b = key) ∧ Ev (fun k => skip_List_string_Insert k L key v (h : Int)) (81, L)) ∨
    ((∀ b r, B = b :: r → ky L.nodes b ≠ key) ∧ ((1048576 ≤ ord.length ∧ Ev (fun k => skip_List_string_Insert k L key v (h : Int)) (82, L)) ∨
      (ord.length < 1048576 ∧ ∃ L', Ev (fun k => skip_List_string_Insert k L key v (h : Int)) (0, L') ∧ Made L L' (A ++ L.nodes.length :: B) key v))) := by
  have hs := seek_ev hI e hA hB
  have hr := hd_rng hI (P := A) (S := B) e
  have hlen := hI.len
  have hmost := hI.most
  have eh : (decide ((h : Int) < 1) || decide (12 < (h : Int))) = false := by
    rw [decide_eq_false (by omega), decide_eq_false (by omega)]; rfl
  obtain ⟨T, hT, hT2⟩ := trail_ev hI e hA hB
  have rest : (∀ b r, B = b :: r → ky L.nodes b ≠ key) →
      ∀ (Q : Int × skip_List_string), Ev (fun k => if decide (L.most < (L.nodes.length : Int)) = true then some (82, L) else (skip_List_string_trail k L key).bind fun r40 => skip_List_string_Insert.l0 L key v (h : Int) r40 k L.nodes 0 0 0 0 0 0 0 0 0 0 0 0 0) Q →
      Ev (fun k => skip_List_string_Insert k L key v (h : Int)) Q := fun hne Q hQ => by
    unfold skip_List_string_Insert
    simp only [none_ev hI, Option.bind_some, Bool.false_eq_true, if_false, hv, Bool.not_true, eh]
    refine Ev.bind hs ?_
    cases B with
    | nil =>
      have : (hd ([] : List Nat) != 0) = false := rfl
      simp only [this, Bool.false_eq_true, if_false, Jn]
      exact hQ
    | cons b r =>
      have hb := hI.rng b (by rw [e]; simp)
      have e1 : (hd (b :: r) != 0) = true := by rw [bne_iff_ne]; simp [hd]; omega
      have e2 : idx L.nodes (hd (b :: r)) = some (nd L.nodes b) := nd_idx hb.2
      have e3 : IKey.eqb (nd L.nodes b).key key = false := by
        rw [Bool.eq_false_iff, ne_eq, ieqb]; exact hne b r rfl
      simp only [e1, if_true, e2, Option.bind_some, e3, Bool.false_eq_true, if_false, Jn]
      exact hQ
  by_cases hthere : ∃ b r, B = b :: r ∧ ky L.nodes b = key
  · left
    refine ⟨hthere, ?_⟩
    obtain ⟨b, r, rfl, hk⟩ := hthere
    unfold skip_List_string_Insert
    simp only [none_ev hI, Option.bind_some, Bool.false_eq_true, if_false, hv, Bool.not_true, eh]
    refine Ev.bind hs ?_
    have hb := hI.rng b (by rw [e]; simp)
    have e1 : (hd (b :: r) != 0) = true := by rw [bne_iff_ne]; simp [hd]; omega
    have e2 : idx L.nodes (hd (b :: r)) = some (nd L.nodes b) := nd_idx hb.2
    have e3 : IKey.eqb (nd L.nodes b).key key = true := ieqb.2 hk
    simp only [e1, if_true, e2, Option.bind_some, e3, Jn]
    exact Ev.ret
  · right
    have hne : ∀ b r, B = b :: r → ky L.nodes b ≠ key := fun b r e' hk => hthere ⟨b, r, e', hk⟩
    refine ⟨hne, ?_⟩
    rcases Nat.lt_or_ge ord.length 1048576 with hf | hf
    · right
      refine ⟨hf, ?_⟩
      have hne2 : ∀ i ∈ ord, ky L.nodes i ≠ key := fun i hi hk => by
        rw [e] at hi
        rcases List.mem_append.1 hi with hi | hi
        · exact kl_irrefl key (by have := hA i hi; rwa [hk] at this)
        · cases hBe : B with
          | nil => rw [hBe] at hi; cases hi
          | cons b r =>
            rw [hBe] at hi
            rcases List.mem_cons.1 hi with rfl | hi
            · exact hne _ r hBe hk
            · have hs := hI.srt
              rw [e, hBe] at hs
              have := (List.pairwise_cons.1 (List.pairwise_append.1 hs).2.1).1 i hi
              rw [hk] at this
              exact hB b (by rw [hBe]; simp) this
      obtain ⟨L', hL', hM⟩ := insert_l0 hI e hA hB hne2 hf v h1 h2 hT2 h 0 L.nodes ⟨0, 0, 0, 0, 0, 0, 0, 0, 0, 0, 0, 0⟩ (by omega)
        ⟨rfl, fun j => ⟨rfl, rfl, rfl, rfl⟩, fun lv hlv j => by rw [if_neg (by omega)], fun lv hlv => by
          rw [if_neg (by omega)]
          have : ∀ lv : Nat, lv < 12 → St132.get (⟨0, 0, 0, 0, 0, 0, 0, 0, 0, 0, 0, 0⟩ : St132) ((lv : Nat) : Int) = 0 := by decide
          exact this lv hlv⟩
      refine ⟨L', rest hne _ ?_, hM⟩
      have ef : decide (L.most < (L.nodes.length : Int)) = false := decide_eq_false (by rw [hmost]; omega)
      simp only [ef, Bool.false_eq_true, if_false]
      exact Ev.bind hT hL'
    · left
      refine ⟨hf, rest hne _ ?_⟩
      have ef : decide (L.most < (L.nodes.length : Int)) = true := decide_eq_true (by rw [hmost]; omega)
      simp only [ef, if_true]
      exact Ev.ret
end
section
variable {L : skip_List_string} {ord A B P S : List Nat} {key : IKey} {E : List Entry}
end
end Go.Proofs.YtbaemhkfmddakaaGreat.Mo

set_option maxRecDepth 100000
namespace Go.Proofs.YtbaemhkfmddakaaGreat.Mo
open Go Go.Proofs.YtbaemhkfmddakaaGreat.Sy
def okT (x : Tomb) : Bool := (tomb_Valid x).getD false
theorem valid_eq (x : Tomb) : tomb_Valid x = some (okT x) := rfl
/-- What the document makes of an operation; then J. -/
def mayB (x : Op) : Bool := (mem_may x).getD false
theorem may_eq (x : Op) : mem_may x = some (mayB x) := by
  unfold mayB mem_may
  (repeat' split) <;> rfl
theorem emp_iff {b : ByteArray} : b = ByteArray.mk #[] ↔ b.size = 0 := by
  obtain ⟨d⟩ := b
  simp [ByteArray.size]
theorem may_sizes {x : Op} (h : mayB x = true) : 1 ≤ x.Key.size ∧ x.Key.size ≤ 1024 ∧ x.Value.size ≤ 65536 := by
  unfold mayB mem_may at h
  split at h
  · simp at h
  · rename_i h0
    simp only [Bool.or_eq_true, decide_eq_true_eq, not_or] at h0
    refine ⟨by omega, by omega, ?_⟩
    split at h
    · simp only [Option.getD_some, sEq_iff] at h
      rw [emp_iff.1 h]; omega
    · split at h
      · simp only [Option.getD_some, decide_eq_true_eq] at h; omega
      · split at h
        · simp only [Option.getD_some, Bool.and_eq_true, decide_eq_true_eq] at h; omega
        · simp at h
theorem may_kind {x : Op} (h : mayB x = true) : x.Kind = 0 ∨ x.Kind = 1 ∨ (x.Kind = 2 ∧ x.Value.size ≤ 1024 ∧ slt x.Key x.Value) := by
  unfold mayB mem_may at h
  split at h
  · simp at h
  · split at h
    · rename_i h1; rw [beq_iff_eq] at h1; exact .inl h1
    · split at h
      · rename_i h1; rw [beq_iff_eq] at h1; exact .inr (.inl h1)
      · split at h
        · rename_i h1
          rw [beq_iff_eq] at h1
          simp only [Option.getD_some, Bool.and_eq_true, decide_eq_true_eq, sLt_iff] at h
          exact .inr (.inr ⟨h1, by omega, h.2⟩)
        · simp at h
theorem valid_key {x : Op} {seq : Int} (h : mayB x = true) (hk : x.Kind ≠ 2) (hs : seq ≤ 72057594037927935) : ikey_Valid (⟨x.Key, seq, x.Kind⟩ : IKey) = some true := by
  have h1 := may_sizes h
  have h0 : sEq x.Key (ByteArray.mk #[]) = false := by
    rw [sEq_false]
    intro e
    rw [emp_iff] at e
    omega
  have hk2 : ikey_isKind x.Kind = some true := by
    rcases may_kind h with e | e | e
    · rw [e]; rfl
    · rw [e]; rfl
    · exact absurd e.1 hk
  unfold ikey_Valid
  simp only [h0, Bool.not_false, decide_eq_true (by omega : (x.Key.size : Int) ≤ 1024), decide_eq_true hs, Bool.and_self, if_true, hk2, Option.bind_some, Jn]
theorem valid_tomb {x : Op} {seq : Int} (h : mayB x = true) (hk : x.Kind = 2) (hs : seq ≤ 72057594037927935) : tomb_Valid (⟨x.Key, x.Value, seq⟩ : Tomb) = some true := by
  have h1 := may_sizes h
  have h0 : sEq x.Key (ByteArray.mk #[]) = false := by
    rw [sEq_false]
    intro e
    rw [emp_iff] at e
    omega
  obtain ⟨h2, h3⟩ : x.Value.size ≤ 1024 ∧ slt x.Key x.Value := by
    rcases may_kind h with e | e | e
    · omega
    · omega
    · exact e.2
  unfold tomb_Valid
  simp only [h0, Bool.not_false, decide_eq_true (by omega : (x.Key.size : Int) ≤ 1024), decide_eq_true (by omega : (x.Value.size : Int) ≤ 1025), sLt_iff.2 h3, decide_eq_true hs, Bool.and_self]
/-- A memtable that says entries and tombs. -/
structure TR (t : mem_Table) (ord : List Nat) (E : List Entry) (TT : List Tomb) : Prop where
  made : t.made = true
  fro : t.frozen = false
  inv : Inv t.list ord
  ent : E = ord.map (eN t.list.nodes)
  tmb : t.tombs = ⟨TT, true⟩
  eok : ∀ x ∈ E, x.Seq ≤ 72057594037927935 ∧ x.Kind ≤ 255
  tok : ∀ x ∈ TT, okT x = true ∧ 1 ≤ x.Seq
def tq (x : Tomb) (y : Tomb) : Bool := (sEq y.Begin x.Begin) && (y.Seq == x.Seq)
theorem cont_l0 (TT : List Tomb) (x : Tomb) (hl : TT.length ≤ 5629499534050) : ∀ (s p : List Tomb), TT = p ++ s → ∃ r : Int, (0 ≤ r ↔ s.any (tq x) = true) ∧ Ev (fun k => slices_IndexFunc_Tomb.l0 TT (fun x0 => mem_Table_addTomb_1 x0 x) k (p.length : Int)) r
  | [], p, hp => by
    have e1 : decide ((p.length : Int) < (TT.length : Int)) = false := by rw [hp]; exact lt_end p
    refine ⟨-1, by simp, Ev.succ ?_⟩
    simp only [slices_IndexFunc_Tomb.l0, e1, Bool.false_eq_true, if_false]
    exact Ev.ret
  | y :: s, p, hp => by
    have e1 : decide ((p.length : Int) < (TT.length : Int)) = true := by rw [hp]; exact lt_at p s y
    have e2 : idx TT (p.length : Int) = some y := by rw [hp]; exact idx_at p y s
    have hw := step_at p s y (by rw [← hp, maxLen_val]; omega)
    have e3 : mem_Table_addTomb_1 y x = some (tq x y) := rfl
    cases h : tq x y with
    | true =>
      refine ⟨(p.length : Int), by simp [h], Ev.succ ?_⟩
      simp only [slices_IndexFunc_Tomb.l0, e1, e2, e3, h, if_true, Option.bind_some]
      exact Ev.ret
    | false =>
      obtain ⟨r, h1, h2⟩ := cont_l0 TT x hl s (p ++ [y]) (by simp [hp])
      refine ⟨r, by rw [h1]; simp [h], Ev.succ ?_⟩
      simp only [slices_IndexFunc_Tomb.l0, e1, e2, e3, h, if_true, Option.bind_some, Bool.false_eq_true, if_false, hw]
      exact h2
/-- An operation, both ways. -/
theorem add_ev {t : mem_Table} {ord : List Nat} {E : List Entry} {TT : List Tomb} (h : TR t ord E TT) (hT : TT.length ≤ 5629499534000) (v : L10_Act) :
    ∃ (r : Int) (t' : mem_Table) (ord' : List Nat) (E' : List Entry) (TT' : List Tomb), Ev (fun k => mem_Table_Add k t v.Seq v.Op v.Height) (r, t') ∧ TR t' ord' E' TT' ∧ TT'.length ≤ TT.length + 1 ∧
      (∀ i ∈ ord, i ∈ ord' ∧ ky t'.list.nodes i = ky t.list.nodes i) ∧ t'.log = t.log ∧
      ((r ≠ 0 ∧ E' = E ∧ TT' = TT) ∨ (r = 0 ∧ v.Op.Kind = 2 ∧ E' = E ∧ TT' = TT ++ [⟨v.Op.Key, v.Op.Value, v.Seq⟩]) ∨ (r = 0 ∧ v.Op.Kind ≠ 2 ∧ TT' = TT ∧ ∃ A B, E = A ++ B ∧ E' = A ++ ⟨v.Op.Key, v.Seq, v.Op.Kind, v.Op.Value⟩ :: B)) := by
  have hm := h.made
  have hf := h.fro
  have hI := h.inv
  have fail : ∀ r : Int, Ev (fun k => mem_Table_Add k t v.Seq v.Op v.Height) (r, t) → r ≠ 0 →
      ∃ (r : Int) (t' : mem_Table) (ord' : List Nat) (E' : List Entry) (TT' : List Tomb), Ev (fun k => mem_Table_Add k t v.Seq v.Op v.Height) (r, t') ∧ TR t' ord' E' TT' ∧ TT'.length ≤ TT.length + 1 ∧
      (∀ i ∈ ord, i ∈ ord' ∧ ky t'.list.nodes i = ky t.list.nodes i) ∧ t'.log = t.log ∧
      ((r ≠ 0 ∧ E' = E ∧ TT' = TT) ∨ (r = 0 ∧ v.Op.Kind = 2 ∧ E' = E ∧ TT' = TT ++ [⟨v.Op.Key, v.Op.Value, v.Seq⟩]) ∨ (r = 0 ∧ v.Op.Kind ≠ 2 ∧ TT' = TT ∧ ∃ A B, E = A ++ B ∧ E' = A ++ ⟨v.Op.Key, v.Seq, v.Op.Kind, v.Op.Value⟩ :: B)) := fun r h1 h2 =>
    ⟨r, t, ord, E, TT, h1, h, by omega, fun i hi => ⟨hi, rfl⟩, rfl, .inl ⟨h2, rfl, rfl⟩⟩
  by_cases c1 : ((decide (v.Seq < 1)) || (decide (72057594037927935 < v.Seq))) = true
  · refine fail 2 (Ev.of fun k => ?_) (by decide)
    · unfold mem_Table_Add
      simp only [hm, hf, Bool.not_true, Bool.false_eq_true, if_false, c1, if_true]
  by_cases c2 : ¬ mayB v.Op = true
  · have c2' := Bool.eq_false_iff.2 c2
    have hmm : mem_may v.Op = some false := by rw [may_eq, c2']
    refine fail 40 (Ev.of fun k => ?_) (by decide)
    · unfold mem_Table_Add
      simp only [hm, hf, Bool.not_true, Bool.false_eq_true, if_false, c1, hmm, Option.bind_some, Bool.not_false, if_true]
  replace c2 := Decidable.not_not.1 c2
  have hmm : mem_may v.Op = some true := by rw [may_eq, c2]
  by_cases c3 : ((decide (v.Height < 1)) || (decide (12 < v.Height))) = true
  · refine fail 2 (Ev.of fun k => ?_) (by decide)
    · unfold mem_Table_Add
      simp only [hm, hf, Bool.not_true, Bool.false_eq_true, if_false, c1, hmm, Option.bind_some, c3, if_true]
  have s1 : 1 ≤ v.Seq ∧ v.Seq ≤ 72057594037927935 := by
    simp only [Bool.or_eq_true, decide_eq_true_eq, not_or] at c1; omega
  have s3 : 1 ≤ v.Height ∧ v.Height ≤ 12 := by
    simp only [Bool.or_eq_true, decide_eq_true_eq, not_or] at c3; omega
  have c1' := Bool.eq_false_iff.2 c1
  have c3' := Bool.eq_false_iff.2 c3
  by_cases c4 : v.Op.Kind = 2
  · have c4' : (v.Op.Kind == 2) = true := beq_iff_eq.2 c4
    have htl : t.tombs.tombs = TT := by rw [h.tmb]
    have htm : t.tombs.made = true := by rw [h.tmb]
    have hcl : tomb_Set_Tombs t.tombs = some TT := by
      unfold tomb_Set_Tombs slices_Clone_Tomb
      rw [htl, pushN_ok (by simp; omega)]; rfl
    obtain ⟨r, hr1, hr2⟩ := cont_l0 TT ⟨v.Op.Key, v.Op.Value, v.Seq⟩ (by omega) TT [] rfl
    have hadd : ∀ (b : Bool), TT.any (tq ⟨v.Op.Key, v.Op.Value, v.Seq⟩) = b → Ev (fun k => slices_ContainsFunc_Tomb k TT (fun x0 => mem_Table_addTomb_1 x0 ⟨v.Op.Key, v.Op.Value, v.Seq⟩)) b := fun b hb => by
      unfold slices_ContainsFunc_Tomb slices_IndexFunc_Tomb
      refine Ev.bind hr2 ?_
      have : decide (0 ≤ r) = b := by
        cases b with
        | true => exact decide_eq_true (hr1.2 hb)
        | false => exact decide_eq_false (fun g => by rw [hr1.1 g] at hb; cases hb)
      rw [this]
      exact Ev.ret
    cases hany : TT.any (tq ⟨v.Op.Key, v.Op.Value, v.Seq⟩) with
    | true =>
      refine fail 81 ?_ (by decide)
      · unfold mem_Table_Add
        simp only [hm, hf, Bool.not_true, Bool.false_eq_true, if_false, c1', hmm, Option.bind_some, c3', c4', if_true, Jn]
        refine Ev.bind (a := ((81 : Int), t)) ?_ Ev.ret
        unfold mem_Table_addTomb
        rw [hcl]
        simp only [Option.bind_some]
        refine Ev.bind (hadd true hany) ?_
        exact Ev.ret
    | false =>
      have hpush : push 5629499534059 TT (⟨v.Op.Key, v.Op.Value, v.Seq⟩ : Tomb) = some (TT ++ [⟨v.Op.Key, v.Op.Value, v.Seq⟩]) := push_ok (by omega)
      refine ⟨0, ⟨t.made, t.frozen, t.log, t.list, ⟨TT ++ [⟨v.Op.Key, v.Op.Value, v.Seq⟩], true⟩, w64 (t.size + (w64 ((w64 (16 + (v.Op.Key.size : Int))) + (v.Op.Value.size : Int)))), w64 (t.n + 1), if ((t.n == 0) || (decide (v.Seq < t.low))) = true then v.Seq else t.low, maxI t.high v.Seq⟩, ord, E, TT ++ [⟨v.Op.Key, v.Op.Value, v.Seq⟩], ?_, ⟨hm, hf, hI, h.ent, rfl, h.eok, fun x hx => ?_⟩, by simp, fun i hi => ⟨hi, rfl⟩, rfl, .inr (.inl ⟨rfl, c4, rfl, rfl⟩)⟩
      · unfold mem_Table_Add
        simp only [hm, hf, Bool.not_true, Bool.false_eq_true, if_false, c1', hmm, Option.bind_some, c3', c4', if_true, Jn]
        refine Ev.bind (a := ((0 : Int), (⟨true, false, t.log, t.list, ⟨TT ++ [⟨v.Op.Key, v.Op.Value, v.Seq⟩], true⟩, t.size, t.n, t.low, t.high⟩ : mem_Table))) ?_ ?_
        · unfold mem_Table_addTomb
          rw [hcl]
          simp only [Option.bind_some]
          refine Ev.bind (hadd false hany) ?_
          unfold tomb_Set_Add
          simp only [htm, htl, Bool.not_true, Bool.false_eq_true, if_false, valid_tomb c2 c4 s1.2, hpush, Option.bind_some, hm, hf]
          exact Ev.ret
        · refine Ev.of fun k => ?_
          simp only [bne_self_eq_false, Bool.false_eq_true, if_false]
          by_cases g : ((t.n == 0) || (decide (v.Seq < t.low))) = true
          · simp only [g, if_true]
          · simp only [g, Bool.false_eq_true, if_false]
      · rcases List.mem_append.1 hx with hx | hx
        · exact h.tok x hx
        · rw [List.mem_singleton] at hx
          subst hx
          refine ⟨?_, s1.1⟩
          have := valid_tomb c2 c4 s1.2
          rw [valid_eq] at this
          exact Option.some.inj this
  · have c4' : (v.Op.Kind == 2) = false := beq_eq_false_iff_ne.2 c4
    obtain ⟨A, B, e, hA, hB⟩ := hI.cut ⟨v.Op.Key, v.Seq, v.Op.Kind⟩
    obtain ⟨hh, hhe⟩ : ∃ hh : Nat, v.Height = (hh : Int) := ⟨v.Height.toNat, by omega⟩
    have hsm := hI.small
    have hAl : A.length ≤ ord.length := by rw [e]; simp
    have prog : ∀ (r : Int) (L' : skip_List_string), Ev (fun k => skip_List_string_Insert k t.list ⟨v.Op.Key, v.Seq, v.Op.Kind⟩ v.Op.Value (hh : Int)) (r, L') →
        Ev (fun k => mem_Table_Add k t v.Seq v.Op v.Height) (if (r != 0) = true then (r, (⟨t.made, t.frozen, t.log, L', t.tombs, t.size, t.n, t.low, t.high⟩ : mem_Table)) else (0, ⟨t.made, t.frozen, t.log, L', t.tombs, w64 (t.size + (w64 ((w64 (16 + (v.Op.Key.size : Int))) + (v.Op.Value.size : Int)))), w64 (t.n + 1), if ((t.n == 0) || (decide (v.Seq < t.low))) = true then v.Seq else t.low, maxI t.high v.Seq⟩)) := fun r L' hL => by
      unfold mem_Table_Add
      simp only [hm, hf, Bool.not_true, Bool.false_eq_true, if_false, c1', hmm, Option.bind_some, c3', c4', Jn]
      rw [hhe]
      refine Ev.bind hL (Ev.of fun k => ?_)
      by_cases g0 : (r != 0) = true
      · simp only [g0, if_true]
      · simp only [g0, Bool.false_eq_true, if_false]
        by_cases g : ((t.n == 0) || (decide (v.Seq < t.low))) = true
        · simp only [g, if_true]
        · simp only [g, Bool.false_eq_true, if_false]
    rcases insert_ev hI e hA hB v.Op.Value (h := hh) (by omega) (by omega) (valid_key c2 c4 s1.2) with ⟨⟨b, r, hb, hkb⟩, hev⟩ | ⟨hne, hor⟩
    · refine fail 81 ((prog 81 t.list hev).to ?_) (by decide)
      · rfl
    · rcases hor with ⟨hfull, hev⟩ | ⟨hfull, L', hev, hM⟩
      · refine fail 82 ((prog 82 t.list hev).to rfl) (by decide)
      · have hEl : E.length = ord.length := by rw [h.ent, List.length_map]
        have hold : ∀ i ∈ ord, eN L'.nodes i = eN t.list.nodes i := fun i hi => by
          have := hM.old i (hI.rng i hi).2
          unfold eN ky
          rw [this.1, this.2]
        refine ⟨0, ⟨t.made, t.frozen, t.log, L', t.tombs, w64 (t.size + (w64 ((w64 (16 + (v.Op.Key.size : Int))) + (v.Op.Value.size : Int)))), w64 (t.n + 1), if ((t.n == 0) || (decide (v.Seq < t.low))) = true then v.Seq else t.low, maxI t.high v.Seq⟩, A ++ t.list.nodes.length :: B, A.map (eN t.list.nodes) ++ ⟨v.Op.Key, v.Seq, v.Op.Kind, v.Op.Value⟩ :: B.map (eN t.list.nodes), TT, (prog 0 L' hev).to rfl, ⟨hm, hf, hM.inv, ?_, h.tmb, fun x hx => ?_, h.tok⟩, by omega, fun i hi => ?_, rfl, .inr (.inr ⟨rfl, c4, rfl, _, _, by rw [h.ent, e, List.map_append], rfl⟩)⟩
        · have e1 : A.map (eN L'.nodes) = A.map (eN t.list.nodes) := List.map_congr_left fun i hi => hold i (by rw [e]; simp [hi])
          have e2 : B.map (eN L'.nodes) = B.map (eN t.list.nodes) := List.map_congr_left fun i hi => hold i (by rw [e]; simp [hi])
          have e3 : eN L'.nodes t.list.nodes.length = ⟨v.Op.Key, v.Seq, v.Op.Kind, v.Op.Value⟩ := by
            unfold eN ky
            rw [hM.new.1, hM.new.2]
          rw [List.map_append, List.map_cons, e1, e2, e3]
        · simp only [List.mem_append, List.mem_cons] at hx
          have hmem : ∀ y, y ∈ A.map (eN t.list.nodes) ∨ y ∈ B.map (eN t.list.nodes) → y ∈ E := fun y hy => by rw [h.ent, e, List.map_append, List.mem_append]; exact hy
          rcases hx with hx | rfl | hx
          · exact h.eok x (hmem x (.inl hx))
          · refine ⟨s1.2, ?_⟩
            show v.Op.Kind ≤ 255
            rcases may_kind c2 with q | q | q <;> omega
          · exact h.eok x (hmem x (.inr hx))
        · refine ⟨?_, (hM.old i (hI.rng i hi).2).1⟩
          rw [e] at hi
          simp only [List.mem_append, List.mem_cons] at hi ⊢
          rcases hi with hi | hi
          · exact .inl hi
          · exact .inr (.inr hi)
end Go.Proofs.YtbaemhkfmddakaaGreat.Mo

set_option maxRecDepth 100000
namespace Go.Proofs.YtbaemhkfmddakaaGreat.Mo
open Go Go.Proofs.YtbaemhkfmddakaaGreat.Sy
theorem amg (x n : Int) (h0 : 0 < n) (h1 : n ≤ 1048577) : ∃ r, l10_among x n = some r ∧ 0 ≤ r ∧ r < n := by
  unfold l10_among
  rw [if_neg (by omega), if_neg (by omega)]
  have a1 := Int.tmod_lt_of_pos x h0
  have a2 : -n < Int.tmod x n := Int.lt_tmod_of_pos x h0
  have hw : w64 (Int.tmod x n + n) = Int.tmod x n + n := w64_of (by omega) (by omega)
  rw [hw]
  exact ⟨_, rfl, Int.tmod_nonneg _ (by omega), Int.tmod_lt_of_pos _ h0⟩
theorem eneq (x : Entry) : Entry.eqb x x = true := by cases x; simp [Entry.eqb, sEq_refl]
section
variable {t : mem_Table} {ord : List Nat} {E : List Entry} {TT : List Tomb}
theorem last_ev {L : skip_List_string} (hI : Inv L ord) : skip_List_string_Last L = some ((lastD 0 ord : Nat) : Int) := by
  unfold skip_List_string_Last
  rw [none_ev hI, Option.bind_some]
  simp only [Bool.false_eq_true, if_false, hI.lst]
theorem prev_ev {L : skip_List_string} {P S : List Nat} (hI : Inv L ord) {i : Nat} (e : ord = P ++ i :: S) : skip_List_string_Prev L (i : Int) = some ((lastD 0 P : Nat) : Int) := by
  unfold skip_List_string_Prev
  have hi : i ∈ ord := by rw [e]; simp
  have hr := hI.rng i hi
  have h2 : (nd L.nodes i).prev = (lastD 0 P : Nat) := by
    have := hI.prv
    rw [e] at this
    exact pc_at this
  have hh := lastD_rng hI (P := P) (S := i :: S) e
  rw [has_ev hI hi, Option.bind_some]
  simp only [Bool.not_true, Bool.false_eq_true, if_false, nd_idx hr.2, Option.bind_some, h2]
  rw [w64_of (by omega) (by omega)]
theorem entries_l0 (h : TR t ord E TT) : ∀ (S P : List Nat) (acc : List Entry), ord = P ++ S → acc = P.map (eN t.list.nodes) → Ev (fun k => mem_Table_Entries.l0 t k acc (hd S)) E
  | [], P, acc, e, ha => by
    have e0 : (hd ([] : List Nat) != 0) = false := rfl
    refine Ev.succ ?_
    simp only [mem_Table_Entries.l0, e0, Bool.false_eq_true, if_false]
    refine Ev.ret.to ?_
    rw [ha, h.ent, e, List.append_nil]
  | b :: S, P, acc, e, ha => by
    have hI := h.inv
    have hb : b ∈ ord := by rw [e]; simp
    have hr := hI.rng b hb
    have hsm := hI.small
    have hPl : P.length + 1 ≤ ord.length := by rw [e]; simp
    have e0 : (hd (b :: S) != 0) = true := by rw [bne_iff_ne]; simp [hd]; omega
    have hent : mem_Table_entry t (hd (b :: S)) = some (eN t.list.nodes b) := by
      unfold mem_Table_entry
      have := node_ev hI hb
      rw [show hd (b :: S) = (b : Int) from rfl, this]; rfl
    have hp : push 4691249611691 acc (eN t.list.nodes b) = some (acc ++ [eN t.list.nodes b]) := push_ok (by rw [ha, List.length_map]; omega)
    have hn : skip_List_string_Next t.list (hd (b :: S)) = some (hd S) := next_ev hI e
    refine Ev.succ ?_
    simp only [mem_Table_Entries.l0, e0, if_true, hent, Option.bind_some, hp, hn]
    exact entries_l0 h S (P ++ [b]) _ (by rw [e]; simp) (by rw [ha]; simp)
theorem entries_ev (h : TR t ord E TT) : Ev (fun k => mem_Table_Entries k t) E := by
  unfold mem_Table_Entries
  simp only [h.made, Bool.not_true, Bool.false_eq_true, if_false, first_ev h.inv, Option.bind_some]
  exact entries_l0 h ord [] [] rfl rfl
inductive At (ord : List Nat) : Int → Int → Nat → Prop
  | ahead (m : Int) : At ord 0 m 0
  | at (P : List Nat) (i : Nat) (S : List Nat) (e : ord = P ++ i :: S) : At ord 1 (i : Int) (P.length + 1)
  | behind (m : Int) : At ord 2 m (ord.length + 1)
theorem stand_f {L : skip_List_string} {P S : List Nat} (hI : Inv L ord) (e : ord = P ++ S) (c : mem_Cursor) (n : Int) (hn : n = hd S) : ∃ w m, mem_Cursor_stand c n 2 = some (decide (P.length + 1 ≤ ord.length), ⟨c.t, w, m⟩) ∧ At ord w m (P.length + 1) := by
  subst hn
  unfold mem_Cursor_stand
  cases S with
  | nil =>
    have hl : ord.length = P.length := by rw [e]; simp
    refine ⟨2, 0, ?_, hl ▸ .behind 0⟩
    rw [decide_eq_false (by omega)]; rfl
  | cons b r =>
    have hb := hI.rng b (by rw [e]; simp)
    have hl : P.length + 1 ≤ ord.length := by rw [e]; simp
    have e1 : (hd (b :: r) == 0) = false := by rw [beq_eq_false_iff_ne]; simp [hd]; omega
    have e2 : (hd (b :: r) != 0) = true := by rw [bne_iff_ne]; simp [hd]; omega
    refine ⟨1, (b : Int), ?_, .at P b r e⟩
    simp only [Jn, e1, e2, Bool.false_eq_true, if_false, decide_eq_true hl]
    rfl
theorem stand_b {L : skip_List_string} {P S : List Nat} (hI : Inv L ord) (e : ord = P ++ S) (c : mem_Cursor) (n : Int) (hn : n = (lastD 0 P : Nat)) : ∃ w m, mem_Cursor_stand c n 0 = some (decide (1 ≤ P.length), ⟨c.t, w, m⟩) ∧ At ord w m P.length := by
  subst hn
  unfold mem_Cursor_stand
  rcases List.eq_nil_or_concat P with h | ⟨Q, x, h⟩
  · subst h
    exact ⟨0, 0, rfl, .ahead 0⟩
  · rw [List.concat_eq_append] at h
    subst h
    have hb := hI.rng x (by rw [e]; simp)
    have hx : lastD 0 (Q ++ [x]) = x := by rw [lastD_app, lastD_nil]
    have e1 : (((lastD 0 (Q ++ [x]) : Nat) : Int) == 0) = false := by rw [hx, beq_eq_false_iff_ne]; omega
    have e2 : (((lastD 0 (Q ++ [x]) : Nat) : Int) != 0) = true := by rw [hx, bne_iff_ne]; omega
    have hl : (Q ++ [x]).length = Q.length + 1 := by simp
    refine ⟨1, (x : Int), ?_, by rw [hl]; exact .at Q x S (by rw [e]; simp)⟩
    simp only [Jn, e1, e2, Bool.false_eq_true, if_false, hl, decide_eq_true (by omega : 1 ≤ Q.length + 1)]
    rw [hx]
theorem go_next (h : TR t ord E TT) {w m : Int} {q : Nat} (hc : At ord w m q) : ∃ w' m', mem_Cursor_Next ⟨t, w, m⟩ = some (decide (q + 1 ≤ ord.length), ⟨t, w', m'⟩) ∧ At ord w' m' (min (q + 1) (ord.length + 1)) := by
  have hI := h.inv
  cases hc with
  | ahead m =>
    obtain ⟨w', m', h1, h2⟩ := stand_f hI (P := []) (S := ord) rfl ⟨t, 0, m⟩ (hd ord) rfl
    refine ⟨w', m', ?_, by rw [show min (0 + 1) (ord.length + 1) = 1 by omega]; exact h2⟩
    have hf : mem_Cursor_First ⟨t, 0, m⟩ = some (decide (0 + 1 ≤ ord.length), ⟨t, w', m'⟩) := by
      unfold mem_Cursor_First
      simp only [first_ev hI, Option.bind_some, h1]; rfl
    unfold mem_Cursor_Next
    simp only [Jn, beq_self_eq_true, if_true, hf, Option.bind_some]
  | «at» P i S e =>
    obtain ⟨w', m', h1, h2⟩ := stand_f hI (P := P ++ [i]) (S := S) (by rw [e]; simp) ⟨t, 1, i⟩ (hd S) rfl
    have hl : P.length + 1 ≤ ord.length := by rw [e]; simp
    have hl2 : (P ++ [i]).length = P.length + 1 := by simp
    rw [hl2] at h1 h2
    refine ⟨w', m', ?_, by rw [show min (P.length + 1 + 1) (ord.length + 1) = P.length + 1 + 1 by omega]; exact h2⟩
    unfold mem_Cursor_Next
    have a1 : ((1 : Int) == 0) = false := rfl
    have a2 : ((1 : Int) == 2) = false := rfl
    simp only [Jn, a1, a2, Bool.false_eq_true, if_false, next_ev hI e, Option.bind_some, h1]
  | behind m =>
    refine ⟨2, m, ?_, by rw [show min (ord.length + 1 + 1) (ord.length + 1) = ord.length + 1 by omega]; exact .behind m⟩
    unfold mem_Cursor_Next
    rw [decide_eq_false (by omega)]; rfl
theorem go_prev (h : TR t ord E TT) {w m : Int} {q : Nat} (hc : At ord w m q) : ∃ w' m', mem_Cursor_Prev ⟨t, w, m⟩ = some (decide (2 ≤ q), ⟨t, w', m'⟩) ∧ At ord w' m' (q - 1) := by
  have hI := h.inv
  cases hc with
  | ahead m =>
    refine ⟨0, m, ?_, .ahead m⟩
    rfl
  | «at» P i S e =>
    obtain ⟨w', m', h1, h2⟩ := stand_b hI (P := P) (S := i :: S) e ⟨t, 1, i⟩ (lastD 0 P : Nat) rfl
    refine ⟨w', m', ?_, h2⟩
    have hd9 : decide (2 ≤ P.length + 1) = decide (1 ≤ P.length) := decide_eq_decide.2 (by omega)
    rw [hd9]
    unfold mem_Cursor_Prev
    have a1 : ((1 : Int) == 0) = false := rfl
    have a2 : ((1 : Int) == 2) = false := rfl
    simp only [Jn, a1, a2, Bool.false_eq_true, if_false, prev_ev hI e, Option.bind_some, h1]
  | behind m =>
    obtain ⟨w', m', h1, h2⟩ := stand_b hI (P := ord) (S := []) (by simp) ⟨t, 2, m⟩ (lastD 0 ord : Nat) rfl
    refine ⟨w', m', ?_, h2⟩
    have hd9 : decide (2 ≤ ord.length + 1) = decide (1 ≤ ord.length) := decide_eq_decide.2 (by omega)
    rw [hd9]
    have hf : mem_Cursor_Last ⟨t, 2, m⟩ = some (decide (1 ≤ ord.length), ⟨t, w', m'⟩) := by
      unfold mem_Cursor_Last
      simp only [last_ev hI, Option.bind_some, h1]
    unfold mem_Cursor_Prev
    simp only [Jn, beq_self_eq_true, if_true, hf, Option.bind_some]
theorem here_0 {w m : Int} (hc : At ord w m 0) : ∃ e, mem_Cursor_Here ⟨t, w, m⟩ = some (e, false) := by
  generalize hq : 0 = q at hc
  cases hc with
  | ahead m => exact ⟨_, rfl⟩
  | «at» P i S e => omega
  | behind m => omega
theorem here_at (h : TR t ord E TT) {w m : Int} {q : Nat} (hc : At ord w m (q + 1)) (hq : q < ord.length) : ∃ e, E[q]? = some e ∧ mem_Cursor_Here ⟨t, w, m⟩ = some (e, true) := by
  have hI := h.inv
  generalize hp : q + 1 = p at hc
  cases hc with
  | ahead m => omega
  | behind m => omega
  | «at» P i S e =>
    have hqP : q = P.length := by omega
    refine ⟨eN t.list.nodes i, ?_, ?_⟩
    · rw [h.ent, List.getElem?_map, e, hqP]; simp
    · unfold mem_Cursor_Here mem_Table_entry
      simp only [bne_self_eq_false, Bool.false_eq_true, if_false, node_ev hI (i := i) (by rw [e]; simp), Option.bind_some]
      rfl
theorem ent_len (h : TR t ord E TT) : E.length = ord.length := by rw [h.ent, List.length_map]
theorem walks_l1 (h : TR t ord E TT) (J : Int → Int → Option Bool) (hJ : ∀ w m, At ord w m 1 → J w m = some true) : ∀ (i : Nat) (w m : Int), i ≤ ord.length → At ord w m (i + 1) → ∀ k, i + 1 ≤ k → l10_MemWalks.l1 t E J k w m ((i : Int) - 1) = some true
  | 0, w, m, hi, hc, k, hk => by
    obtain ⟨k, rfl⟩ : ∃ j, k = j + 1 := ⟨k - 1, by omega⟩
    have e1 : decide ((0 : Int) ≤ ((0 : Nat) : Int) - 1) = false := rfl
    simp only [l10_MemWalks.l1, e1, Bool.false_eq_true, if_false]
    exact hJ w m hc
  | i + 1, w, m, hi, hc, k, hk => by
    obtain ⟨k, rfl⟩ : ∃ j, k = j + 1 := ⟨k - 1, by omega⟩
    have hsm := h.inv.small
    have e0 : ((i + 1 : Nat) : Int) - 1 = (i : Int) := by omega
    have e1 : decide ((0 : Int) ≤ (i : Int)) = true := decide_eq_true (by omega)
    obtain ⟨w1, m1, h1, h2⟩ := go_prev h hc
    rw [decide_eq_true (by omega)] at h1
    rw [show i + 1 + 1 - 1 = i + 1 by omega] at h2
    obtain ⟨e, h3, h4⟩ := here_at h h2 (by omega)
    have e2 : idx E (i : Int) = some e := by rw [idx_nat, h3]
    have hw : w64 ((i : Int) - 1) = (i : Int) - 1 := w64_of (by omega) (by omega)
    rw [e0]
    simp only [l10_MemWalks.l1, e1, if_true, h1, Option.bind_some, Bool.not_true, Bool.false_eq_true, if_false, h4, e2, eneq, Jn, hw]
    exact walks_l1 h J hJ i w1 m1 (by omega) h2 k (by omega)
theorem walks_l2 (h : TR t ord E TT) (r : Int) (J : Int → Int → Option Bool) (hJ : ∀ w m, At ord w m ord.length → J w m = some true) : ∀ (d i : Nat) (w m : Int), i + d = ord.length → At ord w m i → ∀ k, d + 1 ≤ k → l10_MemWalks.l2 t E r J k w m (i : Int) = some true
  | 0, i, w, m, hi, hc, k, hk => by
    obtain ⟨k, rfl⟩ : ∃ j, k = j + 1 := ⟨k - 1, by omega⟩
    have e1 : decide ((i : Int) < (E.length : Int)) = false := decide_eq_false (by rw [ent_len h]; omega)
    simp only [l10_MemWalks.l2, e1, Bool.false_eq_true, if_false]
    exact hJ w m ((by omega : i = ord.length) ▸ hc)
  | d + 1, i, w, m, hi, hc, k, hk => by
    obtain ⟨k, rfl⟩ : ∃ j, k = j + 1 := ⟨k - 1, by omega⟩
    have hsm := h.inv.small
    have e1 : decide ((i : Int) < (E.length : Int)) = true := decide_eq_true (by rw [ent_len h]; omega)
    obtain ⟨w1, m1, h1, h2⟩ := go_next h hc
    rw [decide_eq_true (by omega)] at h1
    rw [show min (i + 1) (ord.length + 1) = i + 1 by omega] at h2
    have hw : w64 ((i : Int) + 1) = ((i + 1 : Nat) : Int) := by rw [w64_of (by omega) (by omega)]; omega
    have tail : ∀ w m, At ord w m (i + 1) → l10_MemWalks.l2 t E r J k w m ((i + 1 : Nat) : Int) = some true := fun w m hc => walks_l2 h r J hJ d (i + 1) w m (by omega) hc k (by omega)
    simp only [l10_MemWalks.l2, e1, if_true]
    cases i with
    | zero =>
      obtain ⟨e, h3⟩ := here_0 (t := t) hc
      have e2 : decide ((0 : Int) < ((0 : Nat) : Int)) = false := rfl
      simp only [h3, e2, Option.bind_some, beq_self_eq_true, Bool.not_true, Bool.false_eq_true, if_false, Jn, h1, Bool.false_and, hw]
      exact tail w1 m1 h2
    | succ j =>
      obtain ⟨e, h3, h4⟩ := here_at h hc (by omega)
      have e2 : decide ((0 : Int) < ((j + 1 : Nat) : Int)) = true := decide_eq_true (by omega)
      have hw1 : w64 (((j + 1 : Nat) : Int) - 1) = (j : Int) := by rw [w64_of (by omega) (by omega)]; omega
      have e3 : idx E (j : Int) = some e := by rw [idx_nat, h3]
      simp only [h4, e2, Option.bind_some, beq_self_eq_true, Bool.not_true, Bool.false_eq_true, if_false, if_true, Jn, hw1, e3, eneq, h1, Bool.true_and, hw]
      by_cases c0 : (((j + 1 : Nat) : Int) == r) = true
      · obtain ⟨w2, m2, h5, h6⟩ := go_prev h h2
        rw [decide_eq_true (by omega)] at h5
        rw [show j + 1 + 1 - 1 = j + 1 by omega] at h6
        obtain ⟨w3, m3, h7, h8⟩ := go_next h h6
        rw [decide_eq_true (by omega)] at h7
        rw [show min (j + 1 + 1) (ord.length + 1) = j + 1 + 1 by omega] at h8
        simp only [c0, if_true, h5, Option.bind_some, h7, Bool.not_true, Bool.false_eq_true, if_false]
        exact tail w3 m3 h8
      · simp only [c0, Bool.false_eq_true, if_false]
        exact tail w1 m1 h2
end
theorem walks_l0 (a0 : List L10_Act) (a1 : Int) (ha : a0.length ≤ 5629499533000) : ∀ (s p : List L10_Act) (t : mem_Table) (ord : List Nat) (E : List Entry) (TT : List Tomb) (pf : List Bool), a0 = p ++ s → TR t ord E TT → TT.length ≤ p.length → pf.length = p.length →
    Ev (fun k => l10_MemWalks.l0 a0 a1 k t (pf ++ List.replicate s.length false) (p.length : Int)) true
  | [], p, t, ord, E, TT, pf, hp, h, hT, hl => by
    have e1 : decide ((p.length : Int) < (a0.length : Int)) = false := by rw [hp]; exact lt_end p
    have hsm := h.inv.small
    have hel := ent_len h
    have hw : w64 ((E.length : Int) + 1) = (ord.length : Int) + 1 := by rw [hel, w64_of (by omega) (by omega)]
    obtain ⟨r, g1, g2, g3⟩ := amg a1 ((ord.length : Int) + 1) (by omega) (by omega)
    have hw1 : w64 ((E.length : Int) - 1) = (ord.length : Int) - 1 := by rw [hel, w64_of (by omega) (by omega)]
    refine Ev.succ ?_
    simp only [l10_MemWalks.l0, e1, Bool.false_and, Bool.false_eq_true, if_false]
    refine Ev.bind (entries_ev h) ?_
    simp only [h.made, Bool.not_true, Bool.false_eq_true, if_false, hw, g1, Option.bind_some, hw1]
    refine ⟨ord.length + 1, fun k hk => ?_⟩
    show Jn _ _ = _
    unfold Jn
    refine walks_l2 h r _ (fun w m hc => ?_) ord.length 0 0 0 (by omega) (.ahead 0) k hk
    obtain ⟨w1, m1, h1, h2⟩ := go_next h hc
    rw [decide_eq_false (by omega)] at h1
    rw [show min (ord.length + 1) (ord.length + 1) = ord.length + 1 by omega] at h2
    obtain ⟨w2, m2, h3, h4⟩ := go_next h h2
    rw [decide_eq_false (by omega)] at h3
    rw [show min (ord.length + 1 + 1) (ord.length + 1) = ord.length + 1 by omega] at h4
    simp only [h1, h3, Option.bind_some, Bool.false_eq_true, if_false, Jn]
    refine walks_l1 h _ (fun w m hc => ?_) ord.length w2 m2 (by omega) h4 k hk
    obtain ⟨w3, m3, h5, h6⟩ := go_prev h hc
    rw [decide_eq_false (by omega)] at h5
    obtain ⟨w4, m4, h7, h8⟩ := go_next h h6
    have hd9 : decide ((0 : Int) < (E.length : Int)) = decide (1 - 1 + 1 ≤ ord.length) := decide_eq_decide.2 (by rw [hel]; omega)
    simp only [h5, h7, hd9, Option.bind_some, Bool.not_false, if_true, beq_self_eq_true]
  | v :: s, p, t, ord, E, TT, pf, hp, h, hT, hl => by
    have e1 : decide ((p.length : Int) < (a0.length : Int)) = true := by rw [hp]; exact lt_at p s v
    have e2 : idx a0 (p.length : Int) = some v := by rw [hp]; exact idx_at p v s
    have hw := step_at p s v (by rw [← hp, maxLen_val]; omega)
    have hpl : p.length + 1 ≤ a0.length := by rw [hp]; simp
    obtain ⟨g, g1, g2, g3⟩ := amg (w64 (v.Height + 0)) 12 (by omega) (by omega)
    obtain ⟨r, t', ord', E', TT', hadd, hTR, hTl, hold, hlog, told⟩ := add_ev h (by omega) ⟨v.Kind, w64 (1 + g), v.Seq, v.Op⟩
    have i0 : idx (pf ++ List.replicate (s.length + 1) false) (p.length : Int) = some false := by rw [← hl]; exact idx_at pf false (List.replicate s.length false)
    have u0 : upd (pf ++ List.replicate (s.length + 1) false) (p.length : Int) (r == 0) = some ((pf ++ [r == 0]) ++ List.replicate s.length false) := by
      rw [← hl, List.append_assoc]; exact upd_at pf false (r == 0) (List.replicate s.length false)
    have ih := walks_l0 a0 a1 ha s (p ++ [v]) t' ord' E' TT' (pf ++ [r == 0]) (by simp [hp]) hTR (by simp; omega) (by simp [hl])
    refine Ev.succ ?_
    simp only [l10_MemWalks.l0, e1, Bool.and_true, e2, g1, if_true, Option.bind_some, hw, List.length_cons]
    refine Ev.bind hadd ?_
    simp only [i0, u0, Option.bind_some]
    exact ih
/-- An empty skip list. -/
theorem inv0 : Inv ⟨[z0], 1048576, 0, 0⟩ [] := by
  refine ⟨rfl, rfl, by simp, fun i hi => (by cases hi), List.nodup_nil, List.Pairwise.nil, fun i hi => (by cases hi), ⟨Int.le_refl _, (by decide)⟩, fun lv hlv => ?_, trivial, rfl⟩
  have : ∀ lv : Nat, lv < 12 → nx [z0] lv 0 = 0 := by decide
  exact this lv hlv
theorem works_at (k : Nat) : l10_works (k + 60) = some true := by kernel_rfl
theorem works_ev : Ev (fun k => l10_works k) true := ⟨60, fun k hk => by
  obtain ⟨j, rfl⟩ : ∃ j, k = j + 60 := ⟨k - 60, by omega⟩
  exact works_at j⟩
theorem walks_law (a0 : List L10_Act) (a1 : Int) (ha : a0.length ≤ 5629499533000) : Ev (fun k => l10_MemWalks k a0 a1) true := by
  unfold l10_MemWalks
  have m1 : mkS 2513169434916 1 (⟨(⟨(ByteArray.mk #[]), 0, 0⟩ : IKey), (ByteArray.mk #[]), 0, (⟨0, 0, 0, 0, 0, 0, 0, 0, 0, 0, 0, 0⟩ : St132), 0⟩ : skip_node_string) = some [z0] := rfl
  have m4 : Ev (fun k => tomb_valid k ([])) [] := Ev.succ Ev.ret
  have m5 : mkS 281474976710656 (a0.length : Int) false = some (List.replicate a0.length false) := by
    unfold mkS
    rw [if_pos ⟨by omega, by omega⟩, Int.toNat_natCast]
  refine Ev.bind works_ev ?_
  simp only [Bool.not_true, Bool.false_eq_true, if_false]
  refine Ev.bind0 m1 (Ev.bind m4 ?_)
  refine Ev.bind0 m5 ?_
  exact walks_l0 a0 a1 ha a0 [] ⟨true, false, 1, ⟨[z0], 1048576, 0, 0⟩, ⟨[], true⟩, 0, 0, 0, 0⟩ [] [] [] [] rfl ⟨rfl, rfl, inv0, rfl, rfl, by simp, by simp⟩ (by simp) rfl
end Go.Proofs.YtbaemhkfmddakaaGreat.Mo
