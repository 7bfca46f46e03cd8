import Derived.Test.YtgmaldangihhnaaPcMD
import Derived.Test.YtgmaldangihhnaaSyEv
import Derived.Test.YtgmaldangihhnaaSyUq
set_option linter.unusedVariables false
set_option linter.unusedSectionVars false
set_option linter.unusedSimpArgs false
set_option maxRecDepth 100000
namespace Go.Proofs.Ytgmaldangihhnaa.Mo
open Go Go.Proofs.Ytgmaldangihhnaa.Sy
theorem le_bound {P : Nat → Nat → Prop} : ∀ (n : Nat), (∀ i, i ≤ n → ∃ m, ∀ k, m ≤ k → P i k) → ∃ m, ∀ k, m ≤ k → ∀ i, i ≤ n → P i k
  | 0, h => by
    obtain ⟨m, hm⟩ := h 0 (Nat.le_refl _)
    exact ⟨m, fun k hk i hi => by obtain rfl : i = 0 := by omega
                                  exact hm k hk⟩
  | n + 1, h => by
    obtain ⟨m1, h1⟩ := le_bound n fun i hi => h i (by omega)
    obtain ⟨m2, h2⟩ := h (n + 1) (Nat.le_refl _)
    refine ⟨max m1 m2, fun k hk i hi => ?_⟩
    by_cases e : i = n + 1
    · subst e; exact h2 k (by omega)
    · exact h1 k (by omega) i (by omega)
theorem perm_bound {α : Type} : ∀ (m : List α) (P : List α → Nat → Prop), (∀ a, m.Perm a → ∃ n, ∀ k, n ≤ k → P a k) → ∃ n, ∀ k, n ≤ k → ∀ a, m.Perm a → P a k
  | [], P, h => by
    obtain ⟨n, hn⟩ := h [] (.refl _)
    refine ⟨n, fun k hk a ha => ?_⟩
    rw [List.Perm.eq_nil ha.symm]
    exact hn k hk
  | x :: m, P, h => by
    obtain ⟨n, hn⟩ := perm_bound m (fun a k => ∀ i, i ≤ m.length → P (a.take i ++ x :: a.drop i) k) fun a ha => by
      obtain ⟨n, hn⟩ := le_bound (P := fun i k => P (a.take i ++ x :: a.drop i) k) m.length fun i hi => h _ (by
        refine (List.Perm.cons x ha).trans ?_
        have e : a.take i ++ a.drop i = a := List.take_append_drop i a
        refine List.Perm.trans ?_ List.perm_middle.symm
        rw [e])
      exact ⟨n, hn⟩
    refine ⟨n, fun k hk a ha => ?_⟩
    obtain ⟨u, v, rfl⟩ := List.append_of_mem (ha.subset (List.mem_cons_self (a := x)))
    have hp : m.Perm (u ++ v) := (List.perm_cons x).1 (ha.trans List.perm_middle)
    have := hn k hk (u ++ v) hp u.length (by rw [hp.length_eq]; simp)
    simpa using this
abbrev kvP (p : KV) : model_Pair := ⟨p.1, p.2⟩
def cK (a b : model_Pair) : Int := if slt a.Key b.Key then -1 else if slt b.Key a.Key then 1 else 0
theorem ltK_iff {a b : model_Pair} : ltfPcM cK a b ↔ slt a.Key b.Key := by
  show cK a b < 0 ↔ _
  unfold cK
  split
  · simp [*]
  · split
    · simp [*]
    · simp [*]
theorem wo_K : Wo (ltfPcM cK) := by
  refine ⟨fun x y h k => ?_, fun x y z h k g => ?_⟩
  · rw [ltK_iff] at h k; exact slt_asymm h k
  · rw [ltK_iff] at h k g
    rcases slt_tri x.Key y.Key with c | c | c
    · exact h c
    · rw [c] at g; exact k g
    · exact k (slt_trans c g)
theorem told_cmp (a b : model_Pair) : model_told_1 a b = some (cK a b) := by
  simp only [model_told_1, cmp_Compare_string, cmp_isNaN_string, sEq_refl, Bool.not_true, Option.bind_some, Bool.false_eq_true, if_false, cK]
  rw [sLt_dec]
  by_cases h : slt a.Key b.Key
  · simp [h]
  · by_cases h2 : slt b.Key a.Key
    · have hne : sEq a.Key b.Key = false := sEq_false.2 fun e => by rw [e] at h2; exact slt_irrefl _ h2
      simp [h, h2, hne]
    · have e : a.Key = b.Key := by
        rcases slt_tri a.Key b.Key with c | c | c
        · exact absurd c h
        · exact c
        · exact absurd c h2
      simp [e, sEq_refl, slt_irrefl]
/-- Strictly rising. -/
def Ris (m : List model_Pair) : Prop := m.Pairwise fun a b => slt a.Key b.Key
theorem ris_uniq : ∀ {a b : List model_Pair}, Ris a → b.Pairwise (fun x y => ¬ slt y.Key x.Key) → a.Perm b → a = b
  | [], b, _, _, hp => (List.Perm.nil_eq hp)
  | x :: a, b, ha, hb, hp => by
    obtain ⟨k1, k2⟩ := List.pairwise_cons.1 ha
    cases b with
    | nil => exact absurd hp.length_eq (by simp)
    | cons y b =>
      obtain ⟨q1, q2⟩ := List.pairwise_cons.1 hb
      have hxy : x = y := by
        rcases List.mem_cons.1 (hp.subset (List.mem_cons_self (a := x))) with e | e
        · exact e
        · rcases List.mem_cons.1 (hp.symm.subset (List.mem_cons_self (a := y))) with e' | e'
          · exact e'.symm
          · exact absurd (k1 y e') (q1 x e)
      subst hxy
      rw [ris_uniq k2 q2 ((List.perm_cons x).1 hp)]
/-- The sort of any order of rising pairs gives them rising: one bound for all. -/
theorem sort_all (m : List model_Pair) (hm : Ris m) (hl : m.length ≤ 1152921504606846976) : ∃ n, ∀ k, n ≤ k → ∀ a, m.Perm a → slices_SortFunc_model_Pair k a (fun x0 x1 => model_told_1 x0 x1) = some m := by
  refine perm_bound m (fun a k => slices_SortFunc_model_Pair k a (fun x0 x1 => model_told_1 x0 x1) = some m) fun a ha => ?_
  obtain ⟨l', h1, h2, n, h3⟩ := sort_cmodel_Pair (⟨ByteArray.mk #[], ByteArray.mk #[]⟩ : model_Pair) (cmp := fun x0 x1 => model_told_1 x0 x1) (c0 := cK) told_cmp wo_K a (by rw [← ha.length_eq]; exact hl)
  have : m = l' := ris_uniq hm (h1.imp fun {x y} h c => h (ltK_iff.2 c)) (ha.trans h2)
  subst this
  exact ⟨n, h3⟩
theorem told_l1 (J : List model_Pair → Option (List model_Pair)) (R : List model_Pair) (m : List model_Pair) (hJ : ∀ a, m.Perm a → J a = some R) (hm : m.length ≤ 7036874417612) : ∀ (d : Nat) (rem : List KV) (acc : List model_Pair) (k : Nat), rem.length = d → d + 1 ≤ k → m.Perm (acc ++ rem.map kvP) →
    model_Apply.l1 J k acc rem = some R := by
  intro d
  induction d with
  | zero =>
    intro rem acc k hd hk hp
    obtain ⟨k, rfl⟩ : ∃ j, k = j + 1 := ⟨k - 1, by omega⟩
    have : rem = [] := List.length_eq_zero_iff.1 hd
    subst this
    rw [model_Apply.l1]
    refine stepAll_mk (fun _ => hJ _ (by simpa using hp)) (fun p r h => absurd h.length_eq (by simp))
  | succ d ih =>
    intro rem acc k hd hk hp
    obtain ⟨k, rfl⟩ : ∃ j, k = j + 1 := ⟨k - 1, by omega⟩
    rw [model_Apply.l1]
    refine stepAll_mk (fun e => by subst e; cases hd) (fun p r h => ?_)
    have hlen := hp.length_eq
    simp only [List.length_append, List.length_map] at hlen
    rw [push_ok (by omega), Option.bind_some]
    refine ih r _ k (by have := h.length_eq; simp at this; omega) (by omega) ?_
    refine hp.trans ?_
    have := (h.map kvP).append_left acc
    simpa using this
def inR (pr : ByteArray → Bool) (rem : List KV) (q : KV) : Bool := !(pr q.1 && rem.any fun p => decide (p.1 = q.1))
theorem del_l3 (J : List KV → Option (List model_Pair)) (x : Op) (R : List model_Pair) : ∀ (d : Nat) (rem l : List KV) (k : Nat), rem.length ≤ d → d + 1 ≤ k → (∀ p ∈ rem, p.1.size ≤ maxLen) → J (l.filter (inR (fun y => (!sLt y x.Key) && (sLt y x.Value)) rem)) = some R →
    model_Apply.l3 J x k l rem = some R := by
  intro d
  induction d with
  | zero =>
    intro rem l k hd hk hs hJ
    obtain ⟨k, rfl⟩ : ∃ j, k = j + 1 := ⟨k - 1, by omega⟩
    have : rem = [] := List.length_eq_zero_iff.1 (by omega)
    subst this
    rw [model_Apply.l3]
    refine stepAll_mk (fun _ => ?_) (fun p r h => absurd h.length_eq (by simp))
    rw [← hJ]; congr 1
    exact (List.filter_eq_self.2 fun q _ => by simp [inR]).symm
  | succ d ih =>
    intro rem l k hd hk hs hJ
    obtain ⟨k, rfl⟩ : ∃ j, k = j + 1 := ⟨k - 1, by omega⟩
    rw [model_Apply.l3]
    refine stepAll_mk (fun e => ?_) (fun p r h => ?_)
    · subst e
      rw [← hJ]; congr 1
      exact (List.filter_eq_self.2 fun q _ => by simp [inR]).symm
    · have hlen := h.length_eq
      simp only [List.length_cons] at hlen
      have hmem : ∀ q, q ∈ rem ↔ q = p ∨ q ∈ r := fun q => by rw [h.mem_iff, List.mem_cons]
      have hany : ∀ y : ByteArray, (rem.any fun q => decide (q.1 = y)) = (decide (p.1 = y) || r.any fun q => decide (q.1 = y)) := fun y => by
        rw [Bool.eq_iff_iff]; simp only [List.any_eq_true, Bool.or_eq_true, decide_eq_true_eq, hmem]
        constructor
        · rintro ⟨q, rfl | hq, e⟩
          · exact .inl e
          · exact .inr ⟨q, hq, e⟩
        · rintro (e | ⟨q, hq, e⟩)
          · exact ⟨p, .inl rfl, e⟩
          · exact ⟨q, .inr hq, e⟩
      have hsr : ∀ q ∈ r, q.1.size ≤ maxLen := fun q hq => hs q ((hmem q).2 (.inr hq))
      simp only [model_do_1, Option.bind_some]
      by_cases hp : ((!sLt p.1 x.Key) && (sLt p.1 x.Value)) = true
      · rw [if_pos hp]
        have hsz := hs p ((hmem p).2 (.inl rfl))
        simp only [sdel, if_pos hsz, Option.bind_some]
        refine ih _ _ k (by have := sdrop_len p.1 r; omega) (by omega) (fun q hq => hsr q (mem_sdrop.1 hq).1) ?_
        rw [← hJ]; congr 1
        rw [show sdrop p.1 l = l.filter (fun q => !decide (q.1 = p.1)) from rfl, List.filter_filter]
        refine List.filter_congr fun q _ => ?_
        unfold inR
        rw [hany q.1, any_sdrop]
        by_cases e : q.1 = p.1
        · have e' : p.1 = q.1 := e.symm
          have hp' : ((!sLt q.1 x.Key) && (sLt q.1 x.Value)) = true := by rw [e]; exact hp
          simp only [e', hp', decide_true, Bool.true_and, Bool.not_true, Bool.false_and, Bool.and_false, Bool.true_or]
        · have e' : ¬ p.1 = q.1 := fun c => e c.symm
          simp [e, e']
      · rw [if_neg hp]
        refine ih _ _ k (by omega) (by omega) hsr ?_
        rw [← hJ]; congr 1
        refine List.filter_congr fun q _ => ?_
        unfold inR
        rw [hany q.1]
        by_cases e : p.1 = q.1
        · rw [← e]
          have : ((!sLt p.1 x.Key) && (sLt p.1 x.Value)) = false := Bool.eq_false_iff.2 hp
          simp [this]
        · simp [e]
end Go.Proofs.Ytgmaldangihhnaa.Mo

set_option maxRecDepth 100000
namespace Go.Proofs.Ytgmaldangihhnaa.Mo
open Go Go.Proofs.Ytgmaldangihhnaa.Sy
def mayB (x : Op) : Bool := (batch_may x).getD false
theorem may_eq (x : Op) : batch_may x = some (mayB x) := by
  unfold mayB batch_may
  (repeat' split) <;> rfl
theorem emp_iff {b : ByteArray} : b = ByteArray.mk #[] ↔ b.size = 0 := by
  obtain ⟨d⟩ := b
  simp [ByteArray.size]
theorem may_sizes {x : Op} (h : mayB x = true) : 1 ≤ x.Key.size ∧ x.Key.size ≤ 1024 ∧ x.Value.size ≤ 65536 := by
  unfold mayB batch_may at h
  split at h
  · simp at h
  · rename_i h0
    simp only [Bool.or_eq_true, decide_eq_true_eq, not_or] at h0
    refine ⟨by omega, by omega, ?_⟩
    split at h
    · simp only [Option.getD_some, sEq_iff] at h
      rw [emp_iff.1 h]; omega
    · split at h
      · simp only [Option.getD_some, decide_eq_true_eq] at h; omega
      · split at h
        · simp only [Option.getD_some, Bool.and_eq_true, decide_eq_true_eq] at h; omega
        · simp at h
theorem csize (n : Nat) (hn : n ≤ 65536) : ∃ s : Int, 0 ≤ s ∧ s ≤ 3 ∧ ∀ k, 3 ≤ k → codec_Size k (n : Int) = some s := by
  have e7 : ∀ x : Int, x / 2 ^ (Int.toNat 7) = x / 128 := fun x => by rfl
  have w1 : w64 (1 + 1) = 2 := by decide
  have w2 : w64 (2 + 1) = 3 := by decide
  by_cases h1 : 128 ≤ (n : Int)
  · by_cases h2 : 128 ≤ (n : Int) / 128
    · have h3 : ¬ 128 ≤ (n : Int) / 128 / 128 := by omega
      refine ⟨3, by omega, by omega, fun k hk => ?_⟩
      obtain ⟨k, rfl⟩ : ∃ j, k = j + 3 := ⟨k - 3, by omega⟩
      simp only [codec_Size, codec_Size.l0, e7, decide_eq_true h1, decide_eq_true h2, decide_eq_false h3, if_true, Bool.false_eq_true, if_false, w1, w2]
    · refine ⟨2, by omega, by omega, fun k hk => ?_⟩
      obtain ⟨k, rfl⟩ : ∃ j, k = j + 3 := ⟨k - 3, by omega⟩
      simp only [codec_Size, codec_Size.l0, e7, decide_eq_true h1, decide_eq_false h2, if_true, Bool.false_eq_true, if_false, w1]
  · refine ⟨1, by omega, by omega, fun k hk => ?_⟩
    obtain ⟨k, rfl⟩ : ∃ j, k = j + 3 := ⟨k - 3, by omega⟩
    simp only [codec_Size, codec_Size.l0, decide_eq_false h1, Bool.false_eq_true, if_false]
theorem tsize (a : ByteArray) (ha : a.size ≤ 65536) : ∃ s : Int, 0 ≤ s ∧ s ≤ 65539 ∧ ∀ k, 3 ≤ k → batch_textSize k a = some s := by
  obtain ⟨s, h1, h2, h3⟩ := csize a.size ha
  refine ⟨s + a.size, by omega, by omega, fun k hk => ?_⟩
  unfold batch_textSize
  rw [wu64_nat_cmodel_Pair (n := a.size) (by omega) rfl, h3 k hk, Option.bind_some, w64_of (by omega) (by omega)]
theorem bsize (x : Op) (h : mayB x = true) : ∃ s : Int, 0 ≤ s ∧ s ≤ 131079 ∧ ∀ k, 3 ≤ k → batch_size k x = some s := by
  obtain ⟨_, h1, h2⟩ := may_sizes h
  obtain ⟨s, a1, a2, a3⟩ := tsize x.Key (by omega)
  obtain ⟨t, b1, b2, b3⟩ := tsize x.Value h2
  by_cases hk : (x.Kind != 0) = true
  · refine ⟨1 + s + t, by omega, by omega, fun k hkk => ?_⟩
    unfold batch_size
    rw [a3 k hkk]
    simp only [Option.bind_some, Jn, hk, if_true, b3 k hkk]
    rw [w64_of (x := 1 + s) (by omega) (by omega), w64_of (by omega) (by omega)]
  · refine ⟨1 + s, by omega, by omega, fun k hkk => ?_⟩
    unfold batch_size
    rw [a3 k hkk]
    simp only [Option.bind_some, Jn, hk, Bool.false_eq_true, if_false]
    rw [w64_of (x := 1 + s) (by omega) (by omega)]
theorem check_one (x : Op) : ∃ c : Int, ∀ k, 10 ≤ k → batch_Check k [x] = some (c, if mayB x = true then 0 else 40) := by
  have d0 : decide (4096 < (([x] : List Op).length : Int)) = false := rfl
  have d1 : decide ((0 : Int) < (([x] : List Op).length : Int)) = true := rfl
  have d2 : decide ((1 : Int) < (([x] : List Op).length : Int)) = false := rfl
  have i0 : idx [x] (0 : Int) = some x := rfl
  have w1 : w64 (0 + 1) = 1 := by decide
  by_cases h : mayB x = true
  · obtain ⟨s, h1, h2, h3⟩ := bsize x h
    refine ⟨0, fun k hk => ?_⟩
    obtain ⟨k, rfl⟩ : ∃ j, k = j + 2 := ⟨k - 2, by omega⟩
    rw [if_pos h]
    have e1 : decide ((1048576 : Int) < w64 (12 + s)) = false := by
      rw [w64_of (by omega) (by omega)]; exact decide_eq_false (by omega)
    simp only [batch_Check, d0, Bool.false_eq_true, if_false, slices_IndexFunc_Op, slices_IndexFunc_Op.l0, d1, if_true, i0, Option.bind_some, batch_Check_1, may_eq, h, Bool.not_true, w1, d2, batch_total, batch_total.l0, h3 (k + 1) (by omega), e1]
    rfl
  · have h := Bool.eq_false_iff.2 h
    refine ⟨0, fun k hk => ?_⟩
    obtain ⟨k, rfl⟩ : ∃ j, k = j + 2 := ⟨k - 2, by omega⟩
    simp only [batch_Check, d0, Bool.false_eq_true, if_false, slices_IndexFunc_Op, slices_IndexFunc_Op.l0, d1, if_true, i0, Option.bind_some, batch_Check_1, may_eq, h, Bool.not_false]
    rfl
def rP (p : model_Pair) : R26_Pair := ⟨p.Key, p.Value⟩
def setM (m : List model_Pair) (x v : ByteArray) : List model_Pair := (m.filter fun p => decide (slt p.Key x)) ++ ⟨x, v⟩ :: m.filter fun p => decide (slt x p.Key)
def doM (m : List model_Pair) (o : Op) : List model_Pair :=
  if mayB o = true then (if (o.Kind == 1) = true then setM m o.Key o.Value
    else m.filter fun p => !(((o.Kind == 0) && sEq p.Key o.Key) || ((o.Kind == 2) && !sLt p.Key o.Key && sLt p.Key o.Value)))
  else m
theorem ris_filter {m : List model_Pair} (h : Ris m) (f : model_Pair → Bool) : Ris (m.filter f) := h.filter f
theorem ris_set {m : List model_Pair} (h : Ris m) (x v : ByteArray) : Ris (setM m x v) := by
  unfold Ris setM
  rw [List.pairwise_append]
  refine ⟨h.filter _, List.pairwise_cons.2 ⟨fun p hp => ?_, h.filter _⟩, fun a ha b hb => ?_⟩
  · have := (List.mem_filter.1 hp).2; simpa using this
  · have a1 : slt a.Key x := by simpa using (List.mem_filter.1 ha).2
    rcases List.mem_cons.1 hb with rfl | hb
    · exact a1
    · have b1 : slt x b.Key := by simpa using (List.mem_filter.1 hb).2
      exact slt_trans a1 b1
theorem ris_do {m : List model_Pair} (h : Ris m) (o : Op) : Ris (doM m o) := by
  unfold doM
  split
  · split
    · exact ris_set h _ _
    · exact ris_filter h _
  · exact h
theorem set_len (m : List model_Pair) (x v : ByteArray) : (setM m x v).length ≤ m.length + 1 := by
  have : ∀ m : List model_Pair, (m.filter fun p => decide (slt p.Key x)).length + (m.filter fun p => decide (slt x p.Key)).length ≤ m.length := by
    intro m
    induction m with
    | nil => simp
    | cons p m ih =>
      simp only [List.filter_cons, List.length_cons]
      by_cases c1 : slt p.Key x
      · have c2 : ¬ slt x p.Key := slt_asymm c1
        simp only [decide_eq_true c1, decide_eq_false c2, if_true, Bool.false_eq_true, if_false, List.length_cons]; omega
      · by_cases c2 : slt x p.Key
        · simp only [decide_eq_false c1, decide_eq_true c2, if_true, Bool.false_eq_true, if_false, List.length_cons]; omega
        · simp only [decide_eq_false c1, decide_eq_false c2, Bool.false_eq_true, if_false]; omega
  have := this m
  unfold setM
  rw [List.length_append, List.length_cons]; omega
theorem do_len (m : List model_Pair) (o : Op) : (doM m o).length ≤ m.length + 1 := by
  unfold doM
  split
  · split
    · exact set_len _ _ _
    · exact Nat.le_succ_of_le (List.length_filter_le _ _)
  · exact Nat.le_succ _
theorem sput_perm {l : List KV} {m : List model_Pair} (hm : Ris m) (hp : m.Perm (l.map kvP)) (x v : ByteArray) : (setM m x v).Perm (((x, v) :: sdrop x l).map kvP) := by
  have h1 : (sdrop x l).map kvP = (l.map kvP).filter fun p => !decide (p.Key = x) := by
    rw [List.filter_map]; rfl
  rw [List.map_cons, h1]
  refine List.Perm.trans List.perm_middle (List.Perm.cons _ ?_)
  refine List.Perm.trans ?_ (hp.filter _)
  have h2 : ∀ m : List model_Pair, ((m.filter fun p => decide (slt p.Key x)) ++ m.filter fun p => decide (slt x p.Key)).Perm (m.filter fun p => !decide (p.Key = x)) := by
    intro m
    induction m with
    | nil => exact .refl _
    | cons p m ih =>
      rcases slt_tri p.Key x with c | c | c
      · have c2 : ¬ slt x p.Key := slt_asymm c
        have c3 : p.Key ≠ x := fun e => by rw [e] at c; exact slt_irrefl _ c
        simp only [List.filter_cons, decide_eq_true c, decide_eq_false c2, decide_eq_false c3, if_true, Bool.false_eq_true, if_false, Bool.not_false, List.cons_append]
        exact ih.cons _
      · have c1 : ¬ slt p.Key x := by rw [c]; exact slt_irrefl _
        have c2 : ¬ slt x p.Key := by rw [c]; exact slt_irrefl _
        simp only [List.filter_cons, decide_eq_false c1, decide_eq_false c2, decide_eq_true c, Bool.not_true, Bool.false_eq_true, if_false]
        exact ih
      · have c2 : ¬ slt p.Key x := slt_asymm c
        have c3 : p.Key ≠ x := fun e => by rw [e] at c; exact slt_irrefl _ c
        simp only [List.filter_cons, decide_eq_true c, decide_eq_false c2, decide_eq_false c3, if_true, Bool.false_eq_true, if_false, Bool.not_false]
        exact List.perm_middle.trans (ih.cons _)
  exact h2 m
theorem sfil_perm {l : List KV} {m : List model_Pair} (hp : m.Perm (l.map kvP)) (f : model_Pair → Bool) (g : KV → Bool) (h : ∀ p ∈ l, g p = f (kvP p)) : (m.filter f).Perm ((l.filter g).map kvP) := by
  have h1 : (l.filter g).map kvP = (l.map kvP).filter f := by
    rw [List.filter_map]; congr 1; exact List.filter_congr fun p hp => h p hp
  rw [h1]
  exact hp.filter _
end Go.Proofs.Ytgmaldangihhnaa.Mo

set_option maxRecDepth 100000
namespace Go.Proofs.Ytgmaldangihhnaa.Mo
open Go Go.Proofs.Ytgmaldangihhnaa.Sy
theorem kv_len {l : List KV} {m : List model_Pair} (hp : m.Perm (l.map kvP)) : l.length = m.length := by rw [hp.length_eq, List.length_map]
theorem ops_l2 (a1 : List Op) (ha : a1.length ≤ 1048576) (J : List KV → Option (List model_Pair)) (R : List model_Pair) : ∀ (s p : List Op) (l : List KV) (m : List model_Pair) (k : Nat), a1 = p ++ s → Ris m → m.Perm (l.map kvP) → (∀ q ∈ l, q.1.size ≤ maxLen) →
    m.length + s.length ≤ 4400000000000 → s.length + 4400000000020 ≤ k → (∀ l' : List KV, (s.foldl doM m).Perm (l'.map kvP) → J l' = some R) → model_Apply.l2 a1 J k l (p.length : Int) = some R
  | [], p, l, m, k, hp, hm, hpm, hs, hl, hk, hJ => by
    obtain ⟨k, rfl⟩ : ∃ j, k = j + 1 := ⟨k - 1, by simp at hk; omega⟩
    have e1 : decide ((p.length : Int) < (a1.length : Int)) = false := by rw [hp]; exact lt_end p
    simp only [model_Apply.l2, e1, Bool.false_eq_true, if_false]
    exact hJ l hpm
  | x :: s, p, l, m, k, hp, hm, hpm, hs, hl, hk, hJ => by
    simp only [List.length_cons] at hk hl
    obtain ⟨k, rfl⟩ : ∃ j, k = j + 1 := ⟨k - 1, by omega⟩
    have e1 : decide ((p.length : Int) < (a1.length : Int)) = true := by rw [hp]; exact lt_at p s x
    have e2 : idx a1 (p.length : Int) = some x := by rw [hp]; exact idx_at p x s
    have hw := step_at p s x (by rw [← hp, maxLen_val]; omega)
    obtain ⟨c, hc⟩ := check_one x
    have hll := kv_len hpm
    have hdl := do_len m x
    have go : ∀ l1 : List KV, (doM m x).Perm (l1.map kvP) → (∀ q ∈ l1, q.1.size ≤ maxLen) → model_Apply.l2 a1 J k l1 (w64 ((p.length : Int) + 1)) = some R := fun l1 h1 h2 => by
      rw [hw]
      exact ops_l2 a1 ha J R s (p ++ [x]) l1 (doM m x) k (by simp [hp]) (ris_do hm x) h1 h2 (by omega) (by omega) hJ
    simp only [model_Apply.l2, e1, e2, if_true, Option.bind_some, Jn, hc k (by omega)]
    by_cases hmay : mayB x = true
    · obtain ⟨z1, z2, z3⟩ := may_sizes hmay
      have hks : x.Key.size ≤ maxLen := by rw [maxLen_val]; omega
      have hlm : l.length < maxLen := by rw [maxLen_val]; omega
      simp only [hmay, if_true, bne_self_eq_false, Bool.false_eq_true, if_false]
      by_cases k1 : (x.Kind == 1) = true
      · simp only [k1, if_true, sput, if_pos (And.intro hks hlm), Option.bind_some]
        refine go _ ?_ fun q hq => ?_
        · have : doM m x = setM m x.Key x.Value := by unfold doM; rw [if_pos hmay, if_pos k1]
          rw [this]
          exact sput_perm hm hpm _ _
        · rcases List.mem_cons.1 hq with rfl | hq
          · exact hks
          · exact hs q (mem_sdrop.1 hq).1
      · have k1' := Bool.eq_false_iff.2 k1
        simp only [k1', Bool.false_eq_true, if_false]
        have hd : doM m x = m.filter fun p => !(((x.Kind == 0) && sEq p.Key x.Key) || ((x.Kind == 2) && !sLt p.Key x.Key && sLt p.Key x.Value)) := by
          unfold doM; rw [if_pos hmay, if_neg k1]
        by_cases k0 : (x.Kind == 0) = true
        · have k2 : (x.Kind == 2) = false := by
            rw [eq_of_beq k0]; rfl
          simp only [k0, if_true, sdel, if_pos hks, Option.bind_some]
          refine go _ ?_ fun q hq => hs q (mem_sdrop.1 hq).1
          rw [hd]
          refine sfil_perm hpm _ _ fun q hq => ?_
          simp only [k0, k2, Bool.true_and, Bool.false_and, Bool.or_false, sEq_dec]
        · have k0' := Bool.eq_false_iff.2 k0
          simp only [k0', Bool.false_eq_true, if_false]
          by_cases k2 : (x.Kind == 2) = true
          · simp only [k2, if_true]
            refine del_l3 _ x R l.length l l k (Nat.le_refl _) (by omega) hs ?_
            refine go _ ?_ fun q hq => hs q (List.mem_filter.1 hq).1
            rw [hd]
            refine sfil_perm hpm _ _ fun q hq => ?_
            have : (l.any fun p => decide (p.1 = q.1)) = true := List.any_eq_true.2 ⟨q, hq, by simp⟩
            simp only [inR, this, Bool.and_true, k0', k2, Bool.false_and, Bool.false_or, Bool.true_and]
          · have k2' := Bool.eq_false_iff.2 k2
            simp only [k2', Bool.false_eq_true, if_false]
            refine go _ ?_ hs
            rw [hd]
            simp only [k0', k2', Bool.false_and, Bool.or_self, Bool.not_false]
            rw [List.filter_eq_self.2 fun _ _ => rfl]
            exact hpm
    · have hmay' := Bool.eq_false_iff.2 hmay
      have hd : doM m x = m := by unfold doM; rw [if_neg hmay]
      have h40 : ((40 : Int) != 0) = true := rfl
      simp only [hmay', Bool.false_eq_true, if_false, h40, if_true]
      exact go l (by rw [hd]; exact hpm) hs
def mapM (a0 : List model_Pair) (m : List model_Pair) : List model_Pair := a0.foldl (fun m p => setM m p.Key p.Value) m
def appM (a0 : List model_Pair) (a1 : List Op) : List model_Pair := a1.foldl doM (mapM a0 [])
theorem ris_mapM : ∀ (a0 m : List model_Pair), Ris m → Ris (mapM a0 m)
  | [], m, h => h
  | p :: a, m, h => ris_mapM a _ (ris_set h _ _)
theorem len_mapM : ∀ (a0 m : List model_Pair), (mapM a0 m).length ≤ m.length + a0.length
  | [], m => by simp [mapM]
  | p :: a, m => by
    have h1 := len_mapM a (setM m p.Key p.Value)
    have h2 := set_len m p.Key p.Value
    simp only [mapM, List.foldl_cons, List.length_cons] at h1 ⊢
    omega
theorem ris_ops : ∀ (a1 : List Op) (m : List model_Pair), Ris m → Ris (a1.foldl doM m)
  | [], m, h => h
  | o :: a, m, h => ris_ops a _ (ris_do h o)
theorem len_ops : ∀ (a1 : List Op) (m : List model_Pair), (a1.foldl doM m).length ≤ m.length + a1.length
  | [], m => by simp
  | o :: a, m => by
    have h1 := len_ops a (doM m o)
    have h2 := do_len m o
    simp only [List.foldl_cons, List.length_cons]
    omega
theorem ris_app (a0 : List model_Pair) (a1 : List Op) : Ris (appM a0 a1) := ris_ops _ _ (ris_mapM _ _ List.Pairwise.nil)
theorem len_app (a0 : List model_Pair) (a1 : List Op) : (appM a0 a1).length ≤ a0.length + a1.length := by
  have h1 := len_ops a1 (mapM a0 [])
  have h2 := len_mapM a0 []
  simp only [List.length_nil] at h2
  unfold appM; omega
theorem apply_l0 (a0 : List model_Pair) (a1 : List Op) (h0 : a0.length ≤ 4398046511104) (h1 : a1.length ≤ 1048576) (hs0 : ∀ p ∈ a0, p.Key.size ≤ maxLen) (n : Nat)
    (hn : ∀ k, n ≤ k → ∀ a, (appM a0 a1).Perm a → slices_SortFunc_model_Pair k a (fun x0 x1 => model_told_1 x0 x1) = some (appM a0 a1)) : ∀ (s p : List model_Pair) (l : List KV) (m : List model_Pair) (k : Nat), a0 = p ++ s → Ris m → m.Perm (l.map kvP) → (∀ q ∈ l, q.1.size ≤ maxLen) →
    m.length ≤ p.length → mapM s m = mapM a0 [] → n + s.length + 8800000000100 ≤ k → model_Apply.l0 a0 a1 k l (p.length : Int) = some (appM a0 a1)
  | [], p, l, m, k, hp, hm, hpm, hs, hl, he, hk => by
    obtain ⟨k, rfl⟩ : ∃ j, k = j + 1 := ⟨k - 1, by simp at hk; omega⟩
    have e1 : decide ((p.length : Int) < (a0.length : Int)) = false := by rw [hp]; exact lt_end p
    have hpl : p.length = a0.length := by rw [hp]; simp
    simp only [List.length_nil] at hk
    simp only [model_Apply.l0, e1, Bool.false_eq_true, if_false, Jn]
    have he' : m = mapM a0 [] := he
    refine ops_l2 a1 h1 _ _ a1 [] l m k rfl hm hpm hs (by omega) (by omega) fun l' hl' => ?_
    have hl'' : (appM a0 a1).Perm (l'.map kvP) := by rw [he'] at hl'; exact hl'
    have hlen := kv_len hl''
    have hla := len_app a0 a1
    refine told_l1 _ _ (appM a0 a1) (fun a ha => ?_) (by omega) l'.length l' [] k rfl (by omega) (by simpa using hl'')
    rw [hn k (by omega) a ha, Option.bind_some]
  | x :: s, p, l, m, k, hp, hm, hpm, hs, hl, he, hk => by
    simp only [List.length_cons] at hk
    obtain ⟨k, rfl⟩ : ∃ j, k = j + 1 := ⟨k - 1, by omega⟩
    have e1 : decide ((p.length : Int) < (a0.length : Int)) = true := by rw [hp]; exact lt_at p s x
    have e2 : idx a0 (p.length : Int) = some x := by rw [hp]; exact idx_at p x s
    have hw := step_at p s x (by rw [← hp, maxLen_val]; omega)
    have hpl : p.length + 1 ≤ a0.length := by rw [hp]; simp
    have hks : x.Key.size ≤ maxLen := hs0 x (by rw [hp]; simp)
    have hll := kv_len hpm
    have hlm : l.length < maxLen := by rw [maxLen_val]; omega
    simp only [model_Apply.l0, e1, e2, if_true, Option.bind_some, sput, if_pos (And.intro hks hlm), hw]
    have hsl := set_len m x.Key x.Value
    refine apply_l0 a0 a1 h0 h1 hs0 n hn s (p ++ [x]) _ (setM m x.Key x.Value) k (by simp [hp]) (ris_set hm _ _) (sput_perm hm hpm _ _) (fun q hq => ?_) (by simp; omega) he (by omega)
    rcases List.mem_cons.1 hq with rfl | hq
    · exact hks
    · exact hs q (mem_sdrop.1 hq).1
theorem apply_ev (a0 : List model_Pair) (a1 : List Op) (h0 : a0.length ≤ 4398046511104) (h1 : a1.length ≤ 1048576) (hs0 : ∀ p ∈ a0, p.Key.size ≤ maxLen) : Ev (fun k => model_Apply k a0 a1) (appM a0 a1) := by
  have hl := len_app a0 a1
  obtain ⟨n, hn⟩ := sort_all (appM a0 a1) (ris_app a0 a1) (by omega)
  refine ⟨n + a0.length + 8800000000100, fun k hk => ?_⟩
  exact apply_l0 a0 a1 h0 h1 hs0 n hn a0 [] [] [] k rfl List.Pairwise.nil (.refl _) (fun q hq => by cases hq) (Nat.le_refl _) rfl hk
theorem set_cut {m : List model_Pair} (hm : Ris m) (x v : ByteArray) : ∃ A B, m = A ++ B ∧ (∀ p ∈ A, slt p.Key x) ∧ (∀ p ∈ B, ¬ slt p.Key x) ∧
    ((∃ b B', B = b :: B' ∧ b.Key = x ∧ setM m x v = A ++ ⟨x, v⟩ :: B') ∨ ((∀ b B', B = b :: B' → b.Key ≠ x) ∧ setM m x v = A ++ ⟨x, v⟩ :: B)) := by
  induction m with
  | nil => exact ⟨[], [], rfl, (by simp), (by simp), .inr ⟨(fun b B' h => by cases h), rfl⟩⟩
  | cons p m ih =>
    obtain ⟨k1, k2⟩ := List.pairwise_cons.1 hm
    by_cases c : slt p.Key x
    · obtain ⟨A, B, e, hA, hB, h⟩ := ih k2
      have es : setM (p :: m) x v = p :: setM m x v := by
        simp only [setM, List.filter_cons, decide_eq_true c, decide_eq_false (slt_asymm c), if_true, Bool.false_eq_true, if_false, List.cons_append]
      refine ⟨p :: A, B, by rw [e]; rfl, fun q hq => ?_, hB, ?_⟩
      · rcases List.mem_cons.1 hq with rfl | hq
        · exact c
        · exact hA q hq
      · rcases h with ⟨b, B', h1, h2, h3⟩ | ⟨h1, h2⟩
        · exact .inl ⟨b, B', h1, h2, by rw [es, h3]; rfl⟩
        · exact .inr ⟨h1, by rw [es, h2]; rfl⟩
    · have hall : ∀ q ∈ m, ¬ slt q.Key x := fun q hq hc => c (slt_trans (k1 q hq) hc)
      have f1 : m.filter (fun p => decide (slt p.Key x)) = [] := List.filter_eq_nil_iff.2 fun q hq => by simpa using hall q hq
      refine ⟨[], p :: m, rfl, (by simp), fun q hq => ?_, ?_⟩
      · rcases List.mem_cons.1 hq with rfl | hq
        · exact c
        · exact hall q hq
      · by_cases e : p.Key = x
        · have f2 : m.filter (fun p => decide (slt x p.Key)) = m := List.filter_eq_self.2 fun q hq => by rw [← e]; simpa using k1 q hq
          refine .inl ⟨p, m, rfl, e, ?_⟩
          have : ¬ slt x p.Key := by rw [e]; exact slt_irrefl _
          simp only [setM, List.filter_cons, decide_eq_false c, decide_eq_false this, Bool.false_eq_true, if_false, f1, f2]
        · have c2 : slt x p.Key := by
            rcases slt_tri p.Key x with d | d | d
            · exact absurd d c
            · exact absurd d e
            · exact d
          have f2 : m.filter (fun p => decide (slt x p.Key)) = m := List.filter_eq_self.2 fun q hq => by simpa using slt_trans c2 (k1 q hq)
          refine .inr ⟨fun b B' h => by cases h; exact e, ?_⟩
          simp only [setM, List.filter_cons, decide_eq_false c, decide_eq_true c2, Bool.false_eq_true, if_false, if_true, f1, f2]
theorem idx_n {α : Type} (l : List α) (n : Nat) : idx l (n : Int) = l[n]? := by simp [idx]
theorem rset_l0 (m : List model_Pair) (hm : Ris m) (hl : m.length ≤ 7036874417612) (x v : ByteArray) (A B : List model_Pair) (e : m = A ++ B) (hA : ∀ p ∈ A, slt p.Key x) (hB : ∀ p ∈ B, ¬ slt p.Key x)
    (h : (∃ b B', B = b :: B' ∧ b.Key = x ∧ setM m x v = A ++ ⟨x, v⟩ :: B') ∨ ((∀ b B', B = b :: B' → b.Key ≠ x) ∧ setM m x v = A ++ ⟨x, v⟩ :: B)) : ∀ (d i j : Nat), j - i ≤ d → i ≤ A.length → A.length ≤ j → j ≤ m.length →
    Ev (fun k => r26_set.l0 (m.map rP) x v k (i : Int) (j : Int)) ((setM m x v).map rP) := by
  intro d
  induction d with
  | zero =>
    intro i j hd h1 h2 h3
    have hi : i = A.length := by omega
    have hj : j = A.length := by omega
    subst hi
    rw [hj]
    have hmap : m.map rP = A.map rP ++ B.map rP := by rw [e, List.map_append]
    have hlen : (m.map rP).length = A.length + B.length := by rw [hmap]; simp
    have hml : A.length + B.length = m.length := by rw [e]; simp
    have d1 : decide ((A.length : Int) < (A.length : Int)) = false := lt_end' A
    have c1 : cut (m.map rP) 0 (A.length : Int) = some (A.map rP) := by
      rw [cut_take (by rw [hlen]; omega), hmap]; simp
    refine Ev.succ ?_
    simp only [r26_set.l0, d1, Bool.false_eq_true, if_false, c1, Option.bind_some]
    rw [pushN_ok (xs := ([] : List R26_Pair)) (by simp; omega)]
    simp only [Option.bind_some, List.nil_append]
    rw [push_ok (by simp; omega)]
    simp only [Option.bind_some, Jn]
    have cB : cut (m.map rP) (A.length : Int) ((m.map rP).length : Int) = some (B.map rP) := by
      rw [cut_drop rfl (by rw [hlen]; omega), hmap]; simp
    rcases h with ⟨b, B', hb, hk, hs⟩ | ⟨hb, hs⟩
    · have d2 : decide ((A.length : Int) < ((m.map rP).length : Int)) = true := decide_eq_true (by rw [hlen, hb]; simp <;> omega)
      have ix : idx (m.map rP) (A.length : Int) = some (rP b) := by
        rw [idx_n, hmap, hb, List.getElem?_append_right (by simp)]; simp
      have hw : w64 ((A.length : Int) + 1) = ((A.length + 1 : Nat) : Int) := by rw [w64_of (by omega) (by omega)]; rfl
      have cB' : cut (m.map rP) ((A.length + 1 : Nat) : Int) ((m.map rP).length : Int) = some (B'.map rP) := by
        rw [cut_drop rfl (by rw [hlen, hb]; simp <;> omega), hmap, hb]
        have : (A.map rP).length = A.length := by simp
        rw [show A.length + 1 = (A.map rP).length + 1 by rw [this], List.drop_append]
        simp
      have hke : (rP b).Key = x := hk
      simp only [d2, if_true, ix, Option.bind_some, hke, sEq_refl, hw]
      rw [cB', Option.bind_some, pushN_ok (by rw [hb] at hml; simp at hml ⊢; omega), Option.bind_some, hs]
      refine Ev.ret.to ?_
      simp [rP]
    · have fin : Ev (fun k => (cut (m.map rP) (A.length : Int) ((m.map rP).length : Int)).bind fun l41 => (pushN 7036874417613 (A.map rP ++ [(⟨x, v⟩ : R26_Pair)]) l41).bind fun l42 => some l42) ((setM m x v).map rP) := by
        rw [cB, Option.bind_some, pushN_ok (by simp; omega), Option.bind_some, hs]
        refine Ev.ret.to ?_
        simp [rP]
      cases hBc : B with
      | nil =>
        have d2 : decide ((A.length : Int) < ((m.map rP).length : Int)) = false := decide_eq_false (by rw [hlen, hBc]; simp)
        simp only [d2, Bool.false_eq_true, if_false]
        exact fin
      | cons b B' =>
        have d2 : decide ((A.length : Int) < ((m.map rP).length : Int)) = true := decide_eq_true (by rw [hlen, hBc]; simp <;> omega)
        have ix : idx (m.map rP) (A.length : Int) = some (rP b) := by
          rw [idx_n, hmap, hBc, List.getElem?_append_right (by simp)]; simp
        have hne : sEq (rP b).Key x = false := sEq_false.2 (hb b B' hBc)
        simp only [d2, if_true, ix, Option.bind_some, hne, Bool.false_eq_true, if_false]
        exact fin
  | succ d ih =>
    intro i j hd h1 h2 h3
    by_cases hij : i < j
    · have d1 : decide ((i : Int) < (j : Int)) = true := decide_eq_true (by omega)
      have hmid : w64 (Int.tdiv (w64 ((i : Int) + (j : Int))) 2) = (((i + j) / 2 : Nat) : Int) := by
        rw [w64_of (x := (i : Int) + (j : Int)) (by omega) (by omega)]
        rw [show Int.tdiv ((i : Int) + (j : Int)) 2 = (((i + j) / 2 : Nat) : Int) from rfl]
        exact w64_of (by omega) (by omega)
      have hlt : (i + j) / 2 < m.length := by omega
      have ix : idx (m.map rP) (((i + j) / 2 : Nat) : Int) = some (rP m[(i + j) / 2]) := by
        rw [idx_n, List.getElem?_map, List.getElem?_eq_getElem hlt]; rfl
      refine Ev.succ ?_
      simp only [r26_set.l0, d1, if_true, hmid, ix, Option.bind_some]
      by_cases hc : (i + j) / 2 < A.length
      · have hk : slt m[(i + j) / 2].Key x := by
          have : m[(i + j) / 2] = A[(i + j) / 2] := by
            simp only [e]; exact List.getElem_append_left hc
          rw [this]; exact hA _ (List.getElem_mem hc)
        have hs : sLt (rP m[(i + j) / 2]).Key x = true := sLt_iff.2 hk
        simp only [hs, if_true]
        rw [show w64 ((((i + j) / 2 : Nat) : Int) + 1) = (((i + j) / 2 + 1 : Nat) : Int) by rw [w64_of (by omega) (by omega)]; rfl]
        exact ih _ j (by omega) (by omega) h2 h3
      · have hk : ¬ slt m[(i + j) / 2].Key x := by
          have hb : (i + j) / 2 - A.length < B.length := by
            have : m.length = A.length + B.length := by rw [e]; simp
            omega
          have : m[(i + j) / 2] = B[(i + j) / 2 - A.length] := by
            simp only [e]; exact List.getElem_append_right (by omega)
          rw [this]; exact hB _ (List.getElem_mem hb)
        have hs : sLt (rP m[(i + j) / 2]).Key x = false := sLt_false.2 hk
        simp only [hs, Bool.false_eq_true, if_false]
        exact ih i _ (by omega) h1 (by omega) (by omega)
    · exact ih i j (by omega) h1 h2 h3
theorem rset_ev (m : List model_Pair) (hm : Ris m) (hl : m.length ≤ 7036874417612) (x v : ByteArray) : Ev (fun k => r26_set k (m.map rP) x v) ((setM m x v).map rP) := by
  obtain ⟨A, B, e, hA, hB, h⟩ := set_cut hm x v
  have := rset_l0 m hm hl x v A B e hA hB h m.length 0 m.length (by omega) (Nat.zero_le _) (by rw [e]; simp) (Nat.le_refl _)
  unfold r26_set
  rw [List.length_map]
  exact this
end Go.Proofs.Ytgmaldangihhnaa.Mo

set_option maxRecDepth 100000
namespace Go.Proofs.Ytgmaldangihhnaa.Mo
open Go Go.Proofs.Ytgmaldangihhnaa.Sy
theorem idx_map (m p s : List model_Pair) (x : model_Pair) (h : m = p ++ x :: s) : idx (m.map rP) (p.length : Int) = some (rP x) := by
  rw [idx_n, h, List.getElem?_map, List.getElem?_append_right (Nat.le_refl _)]; simp
theorem map_l0 (a0 : List model_Pair) (h0 : a0.length ≤ 4398046511104) : ∀ (s p m : List model_Pair), a0 = p ++ s → Ris m → m.length ≤ p.length → Ev (fun k => r26_Map.l0 (a0.map rP) k (m.map rP) (p.length : Int)) ((mapM s m).map rP)
  | [], p, m, hp, hm, hl => by
    have e1 : decide ((p.length : Int) < ((a0.map rP).length : Int)) = false := decide_eq_false (by rw [List.length_map, hp]; simp)
    refine Ev.succ ?_
    simp only [r26_Map.l0, e1, Bool.false_eq_true, if_false]
    exact Ev.ret
  | x :: s, p, m, hp, hm, hl => by
    have hpl : p.length + 1 ≤ a0.length := by rw [hp]; simp
    have e1 : decide ((p.length : Int) < ((a0.map rP).length : Int)) = true := decide_eq_true (by rw [List.length_map]; omega)
    have e2 := idx_map a0 p s x hp
    have hw := step_at p s x (by rw [← hp, maxLen_val]; omega)
    have hsl := set_len m x.Key x.Value
    refine Ev.succ ?_
    simp only [r26_Map.l0, e1, e2, if_true, Option.bind_some, Jn, hw]
    refine Ev.bind (rset_ev m hm (by omega) x.Key x.Value) ?_
    exact map_l0 a0 h0 s (p ++ [x]) _ (by simp [hp]) (ris_set hm _ _) (by simp; omega)
theorem pairs_l0 (a : List model_Pair) (h : a.length ≤ 7036874417612) : ∀ (s p : List model_Pair), a = p ++ s → Ev (fun k => l26_pairs.l0 a k (p.map rP) (p.length : Int)) (a.map rP)
  | [], p, hp => by
    have e1 : decide ((p.length : Int) < (a.length : Int)) = false := by rw [hp]; exact lt_end p
    refine Ev.succ ?_
    simp only [l26_pairs.l0, e1, Bool.false_eq_true, if_false]
    rw [hp, List.append_nil]
    exact Ev.ret
  | x :: s, p, hp => by
    have e1 : decide ((p.length : Int) < (a.length : Int)) = true := by rw [hp]; exact lt_at p s x
    have e2 : idx a (p.length : Int) = some x := by rw [hp]; exact idx_at p x s
    have hw := step_at p s x (by rw [← hp, maxLen_val]; omega)
    have hpl : p.length + 1 ≤ a.length := by rw [hp]; simp
    have hpu : push 7036874417613 (p.map rP) (⟨x.Key, x.Value⟩ : R26_Pair) = some ((p ++ [x]).map rP) := by rw [push_ok (by rw [List.length_map]; omega)]; simp [rP]
    refine Ev.succ ?_
    simp only [l26_pairs.l0, e1, e2, if_true, Option.bind_some, hpu, hw]
    exact pairs_l0 a h s (p ++ [x]) (by simp [hp])
theorem pairs_ev (a : List model_Pair) (h : a.length ≤ 7036874417612) : Ev (fun k => l26_pairs k a) (a.map rP) := pairs_l0 a h a [] rfl
theorem same_l0 (a : List model_Pair) (h : a.length ≤ 7036874417612) : ∀ (s p : List model_Pair), a = p ++ s → Ev (fun k => l26_same.l0 a (a.map rP) k (p.length : Int)) true
  | [], p, hp => by
    have e1 : decide ((p.length : Int) < (a.length : Int)) = false := by rw [hp]; exact lt_end p
    refine Ev.succ ?_
    simp only [l26_same.l0, e1, Bool.false_eq_true, if_false]
    exact Ev.ret
  | x :: s, p, hp => by
    have e1 : decide ((p.length : Int) < (a.length : Int)) = true := by rw [hp]; exact lt_at p s x
    have e2 : idx a (p.length : Int) = some x := by rw [hp]; exact idx_at p x s
    have e3 := idx_map a p s x hp
    have hw := step_at p s x (by rw [← hp, maxLen_val]; omega)
    refine Ev.succ ?_
    simp only [l26_same.l0, e1, e2, e3, if_true, Option.bind_some, Jn, hw, rP, sEq_refl, Bool.not_true, Bool.false_eq_true, if_false]
    exact same_l0 a h s (p ++ [x]) (by simp [hp])
theorem same_ev (a : List model_Pair) (h : a.length ≤ 7036874417612) : Ev (fun k => l26_same k a (a.map rP)) true := by
  unfold l26_same
  rw [List.length_map]
  simp only [bne_self_eq_false, Bool.false_eq_true, if_false]
  exact same_l0 a h a [] rfl
end Go.Proofs.Ytgmaldangihhnaa.Mo

set_option maxRecDepth 100000
namespace Go.Proofs.Ytgmaldangihhnaa.Mo
open Go Go.Proofs.Ytgmaldangihhnaa.Sy
def idxW (p : model_Pair → Bool) : List model_Pair → Int → Int
  | [], _ => -1
  | x :: s, n => if p x = true then n else idxW p s (n + 1)
theorem idxW_at (p : model_Pair → Bool) : ∀ (s : List model_Pair) (n : Nat), (idxW p s n = -1 ∧ s.filter (fun x => !p x) = s) ∨ ∃ a x b, s = a ++ x :: b ∧ idxW p s n = ((n + a.length : Nat) : Int) ∧ a.filter (fun x => !p x) = a ∧ p x = true
  | [], n => .inl ⟨rfl, rfl⟩
  | x :: s, n => by
    by_cases h : p x = true
    · exact .inr ⟨[], x, s, rfl, by simp [idxW, h], rfl, h⟩
    · have e : idxW p (x :: s) n = idxW p s ((n + 1 : Nat) : Int) := by rw [idxW, if_neg h]; rfl
      rcases idxW_at p s (n + 1) with ⟨h1, h2⟩ | ⟨a, y, b, h1, h2, h3, h4⟩
      · exact .inl ⟨by rw [e, h1], by rw [List.filter_cons_of_pos (by simpa using h), h2]⟩
      · refine .inr ⟨x :: a, y, b, by rw [h1]; rfl, ?_, by rw [List.filter_cons_of_pos (by simpa using h), h3], h4⟩
        rw [e, h2]
        simp
        omega
theorem indexW_l0 (p : model_Pair → Bool) (l : List model_Pair) (hl : l.length ≤ 7036874417612) : ∀ (s q : List model_Pair), l = q ++ s → Ev (fun k => slices_IndexFunc_model_Pair.l0 l (fun x => some (p x)) k (q.length : Int)) (idxW p s q.length)
  | [], q, hp => by
    have e1 : decide ((q.length : Int) < (l.length : Int)) = false := by rw [hp]; exact lt_end q
    refine Ev.succ ?_
    simp only [slices_IndexFunc_model_Pair.l0, e1, Bool.false_eq_true, if_false]
    exact Ev.ret
  | x :: s, q, hp => by
    have e1 : decide ((q.length : Int) < (l.length : Int)) = true := by rw [hp]; exact lt_at q s x
    have e2 : idx l (q.length : Int) = some x := by rw [hp]; exact idx_at q x s
    have hw := step_at q s x (by rw [← hp, maxLen_val]; omega)
    refine Ev.succ ?_
    simp only [slices_IndexFunc_model_Pair.l0, e1, e2, if_true, Option.bind_some, hw, idxW]
    by_cases h : p x = true
    · simp only [h, if_true]; exact Ev.ret
    · simp only [h, Bool.false_eq_true, if_false]
      have := indexW_l0 p l hl s (q ++ [x]) (by simp [hp])
      rw [show ((q ++ [x]).length : Int) = (q.length : Int) + 1 by simp] at this ⊢
      exact this
theorem deleteW_l0 (p : model_Pair → Bool) : ∀ (s q z : List model_Pair), z ≠ [] → (q ++ z ++ s).length ≤ 7036874417612 → Ev (fun k => slices_DeleteFunc_model_Pair.l0 (fun x => some (p x)) k (q ++ z ++ s) (q.length : Int) ((q ++ z).length : Int)) (q ++ s.filter (fun x => !p x))
  | [], q, z, hz, hl => by
    have e1 : decide (((q ++ z).length : Int) < ((q ++ z ++ []).length : Int)) = false := lt_end (q ++ z)
    refine Ev.succ ?_
    simp only [slices_DeleteFunc_model_Pair.l0, e1, Bool.false_eq_true, if_false]
    have c1 : cut (q ++ z ++ []) (q.length : Int) ((q ++ z ++ []).length : Int) = some z := by
      rw [cut_drop rfl (by simp), List.append_nil, List.drop_left]
    have c2 : ∀ y : List model_Pair, cut (clr (q ++ z ++ []) (Int.toNat (q.length : Int)) (Int.toNat ((q ++ z ++ []).length : Int)) (⟨(ByteArray.mk #[]), (ByteArray.mk #[])⟩ : model_Pair)) 0 (q.length : Int) = some q := fun y => by
      rw [Int.toNat_natCast, Int.toNat_natCast, cut_take (by simp [clr] <;> omega)]
      simp [clr]
    rw [c1, Option.bind_some, c2 z, Option.bind_some]
    simp only [List.filter_nil, List.append_nil]
    exact Ev.ret
  | x :: s, q, z, hz, hl => by
    have e1 : decide (((q ++ z).length : Int) < ((q ++ z ++ x :: s).length : Int)) = true := lt_at (q ++ z) s x
    have e2 : idx (q ++ z ++ x :: s) ((q ++ z).length : Int) = some x := idx_at (q ++ z) x s
    have hw := step_at (q ++ z) s x (by rw [maxLen_val]; omega)
    obtain ⟨y, z', rfl⟩ : ∃ y z', z = y :: z' := by cases z with
      | nil => exact absurd rfl hz
      | cons y z' => exact ⟨y, z', rfl⟩
    have e3 : idx (q ++ (y :: z') ++ x :: s) (q.length : Int) = some y := by
      rw [show q ++ (y :: z') ++ x :: s = q ++ y :: (z' ++ x :: s) by simp]; exact idx_at q y _
    have e4 : upd (q ++ (y :: z') ++ x :: s) (q.length : Int) x = some (q ++ x :: (z' ++ x :: s)) := by
      rw [show q ++ (y :: z') ++ x :: s = q ++ y :: (z' ++ x :: s) by simp]; exact upd_at q y x _
    have hw2 := step_at q (z' ++ x :: s) y (by rw [maxLen_val]; simp at hl ⊢; omega)
    refine Ev.succ ?_
    simp only [slices_DeleteFunc_model_Pair.l0, e1, e2, if_true, Option.bind_some, hw, Jn]
    by_cases h : p x = true
    · simp only [h, Bool.not_true, Bool.false_eq_true, if_false]
      have := deleteW_l0 p s q (y :: z' ++ [x]) (by simp) (by simp at hl ⊢; omega)
      rw [List.filter_cons_of_neg (by simp [h])]
      simpa using this
    · simp only [h, Bool.not_false, if_true, e3, Option.bind_some, e4, hw2]
      have := deleteW_l0 p s (q ++ [x]) (z' ++ [x]) (by simp) (by simp at hl ⊢; omega)
      rw [List.filter_cons_of_pos (by simpa using h)]
      simpa using this
theorem deleteW_ev (p : model_Pair → Bool) (l : List model_Pair) (hl : l.length ≤ 7036874417612) : Ev (fun k => slices_DeleteFunc_model_Pair k l (fun x => some (p x))) (l.filter (fun x => !p x)) := by
  have hi := indexW_l0 p l hl l [] rfl
  refine Ev.bind hi ?_
  rcases idxW_at p l 0 with ⟨h1, h2⟩ | ⟨a, x, b, h1, h2, h3, h4⟩
  · have e : idxW p l (([] : List model_Pair).length : Int) = -1 := h1
    simp only [e, beq_self_eq_true, if_true]
    exact Ev.ret.to h2.symm
  · have e : idxW p l (([] : List model_Pair).length : Int) = (a.length : Int) := by
      rw [show (([] : List model_Pair).length : Int) = ((0 : Nat) : Int) from rfl, h2]; simp
    have hne : ((a.length : Int) == -1) = false := by simp <;> omega
    have hw := step_at a b x (by rw [← h1, maxLen_val]; omega)
    simp only [e, hne, Bool.false_eq_true, if_false, hw]
    have := deleteW_l0 p b a [x] (by simp) (by rw [h1] at hl; simp at hl ⊢; omega)
    have e2 : a ++ [x] ++ b = l := by rw [h1]; simp
    rw [e2] at this
    refine this.to ?_
    rw [h1, List.filter_append, h3, List.filter_cons_of_neg (by simp [h4])]
def qDel (a b : ByteArray) (p : model_Pair) : Bool := (sLt p.Key a) || ((!sEq b (ByteArray.mk #[])) && (!sLt p.Key b))
def betW (a0 : List model_Pair) (a b : ByteArray) : List model_Pair := (mapM a0 []).filter (fun p => !qDel a b p)
theorem len_map0 (a0 : List model_Pair) : (mapM a0 []).length ≤ a0.length := by
  have := len_mapM a0 []
  simpa using this
theorem between_ev (a0 : List model_Pair) (a b : ByteArray) (h0 : a0.length ≤ 4398046511104) (hs0 : ∀ p ∈ a0, p.Key.size ≤ maxLen) : Ev (fun k => model_between k a0 a b) (betW a0 a b) := by
  unfold model_between
  have hl := len_map0 a0
  refine Ev.bind (apply_ev a0 [] h0 (by simp) hs0) ?_
  refine Ev.bind (deleteW_ev (qDel a b) (appM a0 []) (by show (mapM a0 []).length ≤ _; omega)) ?_
  exact Ev.ret
theorem rmap_ev (a0 : List model_Pair) (h0 : a0.length ≤ 4398046511104) : Ev (fun k => r26_Map k (a0.map rP)) ((mapM a0 []).map rP) := by
  unfold r26_Map
  exact map_l0 a0 h0 a0 [] [] rfl List.Pairwise.nil (Nat.le_refl _)
def seekW (key : ByteArray) : List model_Pair → Nat → Nat
  | [], n => n
  | x :: s, n => if sLt x.Key key = true then seekW key s (n + 1) else n
theorem seekW_le (key : ByteArray) : ∀ (s : List model_Pair) (n : Nat), n ≤ seekW key s n ∧ seekW key s n ≤ n + s.length
  | [], n => ⟨Nat.le_refl _, by simp [seekW]⟩
  | x :: s, n => by
    unfold seekW
    have := seekW_le key s (n + 1)
    simp only [List.length_cons]
    split <;> omega
theorem idxW_seek (key : ByteArray) : ∀ (s : List model_Pair) (n : Nat), (idxW (fun x => !sLt x.Key key) s n = -1 ∧ seekW key s n = n + s.length) ∨ (idxW (fun x => !sLt x.Key key) s n = ((seekW key s n : Nat) : Int))
  | [], n => .inl ⟨rfl, rfl⟩
  | x :: s, n => by
    cases h : sLt x.Key key with
    | false => right; simp [idxW, seekW, h]
    | true =>
      have e1 : idxW (fun x => !sLt x.Key key) (x :: s) n = idxW (fun x => !sLt x.Key key) s ((n + 1 : Nat) : Int) := by simp [idxW, h]
      have e2 : seekW key (x :: s) n = seekW key s (n + 1) := by simp [seekW, h]
      rw [e1, e2]
      rcases idxW_seek key s (n + 1) with ⟨a, b⟩ | a
      · left; refine ⟨a, ?_⟩; rw [b, List.length_cons]; omega
      · right; exact a
def stepW (m : List model_Pair) (i : Int) (a : Ask) : Option Int :=
  if (a.Kind == 6) = true then some 0 else if (a.Kind == 7) = true then some ((m.length : Int) - 1) else if (a.Kind == 8) = true then some ((seekW a.Key m 0 : Nat) : Int)
  else if (a.Kind == 9) = true then some (minI (i + 1) (m.length : Int)) else if (a.Kind == 10) = true then some (maxI (i - 1) (-1)) else none
def spotW (m : List model_Pair) (i : Int) : Int × ByteArray × ByteArray :=
  if ((decide (0 ≤ i)) && (decide (i < (m.length : Int)))) = true then (match m[i.toNat]? with | some x => (1, x.Key, x.Value) | none => (0, ByteArray.mk #[], ByteArray.mk #[])) else (0, ByteArray.mk #[], ByteArray.mk #[])
def mS (t : Int × ByteArray × ByteArray) : model_Spot := ⟨t.1, t.2.1, t.2.2⟩
def rS (t : Int × ByteArray × ByteArray) : R26_Spot := ⟨t.1, t.2.1, t.2.2⟩
def walkW (m : List model_Pair) : List Ask → Int → List (Int × ByteArray × ByteArray)
  | [], _ => []
  | a :: s, i => match stepW m i a with
    | none => (0, ByteArray.mk #[], ByteArray.mk #[]) :: walkW m s i
    | some j => spotW m j :: walkW m s j
theorem stepW_in {m : List model_Pair} {i j : Int} {a : Ask} (h1 : -1 ≤ i) (h2 : i ≤ m.length) (h : stepW m i a = some j) : -1 ≤ j ∧ j ≤ m.length := by
  unfold stepW at h
  have hs := seekW_le a.Key m 0
  split at h
  · obtain rfl := Option.some.inj h; omega
  split at h
  · obtain rfl := Option.some.inj h; omega
  split at h
  · obtain rfl := Option.some.inj h; omega
  split at h
  · obtain rfl := Option.some.inj h; unfold minI; split <;> omega
  split at h
  · obtain rfl := Option.some.inj h; unfold maxI; split <;> omega
  cases h
theorem spot_idx {m : List model_Pair} {i : Int} (h : ((decide (0 ≤ i)) && (decide (i < (m.length : Int)))) = true) : ∃ x, idx m i = some x ∧ idx (m.map rP) i = some (rP x) ∧ spotW m i = (1, x.Key, x.Value) := by
  have h' := h
  simp only [Bool.and_eq_true, decide_eq_true_eq] at h
  have hlt : i.toNat < m.length := by omega
  refine ⟨m[i.toNat], ?_, ?_, ?_⟩
  · simp [idx, h.1, List.getElem?_eq_getElem hlt]
  · simp [idx, h.1, List.getElem?_eq_getElem hlt]
  · unfold spotW
    rw [if_pos h', List.getElem?_eq_getElem hlt]
theorem spot_no {m : List model_Pair} {i : Int} (h : ((decide (0 ≤ i)) && (decide (i < (m.length : Int)))) = false) : spotW m i = (0, ByteArray.mk #[], ByteArray.mk #[]) := by
  unfold spotW
  rw [if_neg (by rw [h]; decide)]
theorem push_spot (m : List model_Pair) (J : Int → List model_Spot → Option (List model_Spot)) (i : Int) (l : List model_Spot) (hl : l.length < 5629499534059) :
    Jn (fun (i_164 : Int) (s_165 : ByteArray) (s_166 : ByteArray) => (push 5629499534059 l (⟨i_164, s_165, s_166⟩ : model_Spot)).bind fun l632 => J i l632) (fun J_168 => if ((decide (0 ≤ i)) && (decide (i < (m.length : Int)))) = true then ((idx m i).bind fun x637 => (idx m i).bind fun x638 => J_168 1 x637.Key x638.Value) else (J_168 0 (ByteArray.mk #[]) (ByteArray.mk #[])))
      = J i (l ++ [mS (spotW m i)]) := by
  simp only [Jn]
  cases h : ((decide (0 ≤ i)) && (decide (i < (m.length : Int)))) with
  | true =>
    obtain ⟨x, e1, _, e3⟩ := spot_idx h
    simp only [if_true, e1, Option.bind_some, push_ok hl, e3, mS]
  | false => simp only [Bool.false_eq_true, if_false, push_ok hl, Option.bind_some, spot_no h, mS]
theorem walk_l0 (m : List model_Pair) (hm : m.length ≤ 4398046511104) (asks : List Ask) (ha : asks.length ≤ 2814749766950) : ∀ (s p : List Ask) (i : Int) (l : List model_Spot), asks = p ++ s → -1 ≤ i → i ≤ m.length → l.length = p.length →
    Ev (fun k => model_Walk.l0 asks m k i l (p.length : Int)) (l ++ (walkW m s i).map mS)
  | [], p, i, l, hp, h1, h2, hl => by
    have e1 : decide ((p.length : Int) < (asks.length : Int)) = false := by rw [hp]; exact lt_end p
    refine Ev.succ ?_
    simp only [model_Walk.l0, e1, Bool.false_eq_true, if_false, walkW, List.map_nil, List.append_nil]
    exact Ev.ret
  | a :: s, p, i, l, hp, h1, h2, hl => by
    have e1 : decide ((p.length : Int) < (asks.length : Int)) = true := by rw [hp]; exact lt_at p s a
    have e2 : idx asks (p.length : Int) = some a := by rw [hp]; exact idx_at p a s
    have hw := step_at p s a (by rw [← hp, maxLen_val]; omega)
    have hpl : p.length + 1 ≤ asks.length := by rw [hp]; simp
    have hlt : l.length < 5629499534059 := by omega
    have go : ∀ j, stepW m i a = some j → Ev (fun k => model_Walk.l0 asks m k j (l ++ [mS (spotW m j)]) ((p ++ [a]).length : Int)) (l ++ (walkW m (a :: s) i).map mS) := fun j hj => by
      obtain ⟨g1, g2⟩ := stepW_in h1 h2 hj
      have := walk_l0 m hm asks ha s (p ++ [a]) j (l ++ [mS (spotW m j)]) (by simp [hp]) g1 g2 (by simp [hl])
      refine this.to ?_
      simp only [walkW, hj, List.map_cons, List.append_assoc, List.singleton_append]
    have go0 : stepW m i a = none → Ev (fun k => model_Walk.l0 asks m k i (l ++ [mS (0, ByteArray.mk #[], ByteArray.mk #[])]) ((p ++ [a]).length : Int)) (l ++ (walkW m (a :: s) i).map mS) := fun hj => by
      have := walk_l0 m hm asks ha s (p ++ [a]) i (l ++ [mS (0, ByteArray.mk #[], ByteArray.mk #[])]) (by simp [hp]) h1 h2 (by simp [hl])
      refine this.to ?_
      simp only [walkW, hj, List.map_cons, List.append_assoc, List.singleton_append]
    refine Ev.succ ?_
    simp only [model_Walk.l0, e1, e2, if_true, Option.bind_some, hw]
    simp only [push_spot m _ _ l hlt]
    simp only [Jn]
    unfold stepW at go go0
    by_cases k6 : (a.Kind == 6) = true
    · simp only [k6, if_true] at go ⊢
      exact go _ rfl
    simp only [k6, Bool.false_eq_true, if_false] at go go0 ⊢
    by_cases k7 : (a.Kind == 7) = true
    · simp only [k7, if_true] at go ⊢
      rw [w64_of (by omega) (by omega)]
      exact go _ rfl
    simp only [k7, Bool.false_eq_true, if_false] at go go0 ⊢
    by_cases k8 : (a.Kind == 8) = true
    · simp only [k8, if_true] at go ⊢
      have hi := indexW_l0 (fun x => !sLt x.Key a.Key) m (by omega) m [] rfl
      refine Ev.bind hi ?_
      rcases idxW_seek a.Key m 0 with ⟨g1, g2⟩ | g1
      · have e : idxW (fun x => !sLt x.Key a.Key) m (([] : List model_Pair).length : Int) = -1 := g1
        simp only [e]
        have := go _ rfl
        rw [g2, Nat.zero_add] at this
        exact this
      · have e : idxW (fun x => !sLt x.Key a.Key) m (([] : List model_Pair).length : Int) = ((seekW a.Key m 0 : Nat) : Int) := g1
        have e' : decide (((seekW a.Key m 0 : Nat) : Int) < 0) = false := decide_eq_false (by omega)
        simp only [e, e', Bool.false_eq_true, if_false]
        exact go _ rfl
    simp only [k8, Bool.false_eq_true, if_false] at go go0 ⊢
    by_cases k9 : (a.Kind == 9) = true
    · simp only [k9, if_true] at go ⊢
      rw [w64_of (by omega) (by omega)]
      exact go _ rfl
    simp only [k9, Bool.false_eq_true, if_false] at go go0 ⊢
    by_cases k10 : (a.Kind == 10) = true
    · simp only [k10, if_true] at go ⊢
      rw [w64_of (by omega) (by omega)]
      exact go _ rfl
    simp only [k10, Bool.false_eq_true, if_false] at go0 ⊢
    simp only [push_ok hlt, Option.bind_some]
    exact go0 trivial
theorem walk_ev (a0 : List model_Pair) (a b : ByteArray) (asks : List Ask) (h0 : a0.length ≤ 4398046511104) (hs0 : ∀ p ∈ a0, p.Key.size ≤ maxLen) (ha : asks.length ≤ 2814749766950) :
    Ev (fun k => model_Walk k a0 a b asks) ((walkW (betW a0 a b) asks (-1)).map mS) := by
  unfold model_Walk
  have hl := len_map0 a0
  have hb : (betW a0 a b).length ≤ (mapM a0 []).length := List.length_filter_le _ _
  refine Ev.bind (between_ev a0 a b h0 hs0) ?_
  have := walk_l0 (betW a0 a b) (by omega) asks ha asks [] (-1) [] rfl (by omega) (by omega) rfl
  exact this.to (by simp)
theorem seek_l2 (asks : List Ask) (m : List model_Pair) (hm : m.length ≤ 4398046511104) (q : Int) (a : Ask) (hq : idx asks q = some a) : ∀ (s p : List model_Pair), m = p ++ s →
    EvC (R := List R26_Spot) (fun J k => r26_Walk.l2 asks (m.map rP) q J k (p.length : Int)) ((seekW a.Key s p.length : Nat) : Int)
  | [], p, hp => by
    have e1 : decide ((p.length : Int) < ((m.map rP).length : Int)) = false := by rw [List.length_map, hp]; exact lt_end p
    refine EvC.succ ?_
    simp only [r26_Walk.l2, e1, Jn, Bool.false_eq_true, if_false, seekW]
    exact EvC.ret
  | x :: s, p, hp => by
    have e1 : decide ((p.length : Int) < ((m.map rP).length : Int)) = true := by rw [List.length_map, hp]; exact lt_at p s x
    have e2 := idx_map m p s x hp
    have hw := step_at p s x (by rw [← hp, maxLen_val]; omega)
    refine EvC.succ ?_
    simp only [r26_Walk.l2, e1, e2, hq, Jn, if_true, Option.bind_some, seekW, hw]
    cases h : sLt x.Key a.Key with
    | true =>
      have e3 : sLt (rP x).Key a.Key = true := h
      simp only [e3, if_true]
      have := seek_l2 asks m hm q a hq s (p ++ [x]) (by simp [hp])
      rw [List.length_append, List.length_singleton] at this ⊢
      exact this
    | false =>
      have e3 : sLt (rP x).Key a.Key = false := h
      simp only [e3, Bool.false_eq_true, if_false]
      exact EvC.ret
theorem rpush_spot (m : List model_Pair) (J : List R26_Spot → Int → Option (List R26_Spot)) (i : Int) (l : List R26_Spot) (hl : l.length < 5629499534059) :
    (if ((decide (0 ≤ i)) && (decide (i < ((m.map rP).length : Int)))) = true then ((idx (m.map rP) i).bind fun x1641 => (idx (m.map rP) i).bind fun x1642 => (push 5629499534059 l (⟨1, x1641.Key, x1642.Value⟩ : R26_Spot)).bind fun l1647 => J l1647 i) else ((push 5629499534059 l (⟨0, (ByteArray.mk #[]), (ByteArray.mk #[])⟩ : R26_Spot)).bind fun l1653 => J l1653 i))
      = J (l ++ [rS (spotW m i)]) i := by
  rw [List.length_map]
  cases h : ((decide (0 ≤ i)) && (decide (i < (m.length : Int)))) with
  | true =>
    obtain ⟨x, _, e1, e3⟩ := spot_idx h
    simp only [if_true, e1, Option.bind_some, push_ok hl, e3, rS, rP]
  | false => simp only [Bool.false_eq_true, if_false, push_ok hl, Option.bind_some, spot_no h, rS]
theorem rwalk_l1 (m : List model_Pair) (hm : m.length ≤ 4398046511104) (asks : List Ask) (ha : asks.length ≤ 2814749766950) : ∀ (s p : List Ask) (i : Int) (l : List R26_Spot), asks = p ++ s → -1 ≤ i → i ≤ m.length → l.length = p.length →
    Ev (fun k => r26_Walk.l1 asks (m.map rP) (fun l => some l) k l i (p.length : Int)) (l ++ (walkW m s i).map rS)
  | [], p, i, l, hp, h1, h2, hl => by
    have e1 : decide ((p.length : Int) < (asks.length : Int)) = false := by rw [hp]; exact lt_end p
    refine Ev.succ ?_
    simp only [r26_Walk.l1, e1, Bool.false_eq_true, if_false, walkW, List.map_nil, List.append_nil]
    exact Ev.ret
  | a :: s, p, i, l, hp, h1, h2, hl => by
    have e1 : decide ((p.length : Int) < (asks.length : Int)) = true := by rw [hp]; exact lt_at p s a
    have e2 : idx asks (p.length : Int) = some a := by rw [hp]; exact idx_at p a s
    have hw := step_at p s a (by rw [← hp, maxLen_val]; omega)
    have hpl : p.length + 1 ≤ asks.length := by rw [hp]; simp
    have hlt : l.length < 5629499534059 := by omega
    have go : ∀ j, stepW m i a = some j → Ev (fun k => r26_Walk.l1 asks (m.map rP) (fun l => some l) k (l ++ [rS (spotW m j)]) j ((p ++ [a]).length : Int)) (l ++ (walkW m (a :: s) i).map rS) := fun j hj => by
      obtain ⟨g1, g2⟩ := stepW_in h1 h2 hj
      have := rwalk_l1 m hm asks ha s (p ++ [a]) j (l ++ [rS (spotW m j)]) (by simp [hp]) g1 g2 (by simp [hl])
      refine this.to ?_
      simp only [walkW, hj, List.map_cons, List.append_assoc, List.singleton_append]
    have go0 : stepW m i a = none → Ev (fun k => r26_Walk.l1 asks (m.map rP) (fun l => some l) k (l ++ [rS (0, ByteArray.mk #[], ByteArray.mk #[])]) i ((p ++ [a]).length : Int)) (l ++ (walkW m (a :: s) i).map rS) := fun hj => by
      have := rwalk_l1 m hm asks ha s (p ++ [a]) i (l ++ [rS (0, ByteArray.mk #[], ByteArray.mk #[])]) (by simp [hp]) h1 h2 (by simp [hl])
      refine this.to ?_
      simp only [walkW, hj, List.map_cons, List.append_assoc, List.singleton_append]
    refine Ev.succ ?_
    simp only [r26_Walk.l1, e1, e2, if_true, Option.bind_some, hw, Jn]
    have hk : ∀ k, ∀ j, (if ((decide (0 ≤ j)) && (decide (j < ((m.map rP).length : Int)))) = true then ((idx (m.map rP) j).bind fun x1641 => (idx (m.map rP) j).bind fun x1642 => (push 5629499534059 l (⟨1, x1641.Key, x1642.Value⟩ : R26_Spot)).bind fun l1647 => r26_Walk.l1 asks (m.map rP) (fun l => some l) k l1647 j ((p ++ [a]).length : Int)) else ((push 5629499534059 l (⟨0, (ByteArray.mk #[]), (ByteArray.mk #[])⟩ : R26_Spot)).bind fun l1653 => r26_Walk.l1 asks (m.map rP) (fun l => some l) k l1653 j ((p ++ [a]).length : Int))) = r26_Walk.l1 asks (m.map rP) (fun l => some l) k (l ++ [rS (spotW m j)]) j ((p ++ [a]).length : Int) := fun k j =>
      rpush_spot m (fun l i => r26_Walk.l1 asks (m.map rP) (fun l => some l) k l i ((p ++ [a]).length : Int)) j l hlt
    simp only [hk]
    unfold stepW at go go0
    by_cases k6 : (a.Kind == 6) = true
    · simp only [k6, if_true] at go ⊢
      exact go _ rfl
    simp only [k6, Bool.false_eq_true, if_false] at go go0 ⊢
    by_cases k7 : (a.Kind == 7) = true
    · simp only [k7, if_true] at go ⊢
      rw [List.length_map, w64_of (by omega) (by omega)]
      exact go _ rfl
    simp only [k7, Bool.false_eq_true, if_false] at go go0 ⊢
    by_cases k9 : (a.Kind == 9) = true
    · have k8 : ¬ (a.Kind == 8) = true := by
        intro h; rw [beq_iff_eq] at k9 h; omega
      simp only [k8, k9, if_true, Bool.false_eq_true, if_false] at go ⊢
      rw [List.length_map, w64_of (by omega) (by omega)]
      exact go _ rfl
    simp only [k9, Bool.false_eq_true, if_false] at go go0 ⊢
    by_cases k10 : (a.Kind == 10) = true
    · have k8 : ¬ (a.Kind == 8) = true := by
        intro h; rw [beq_iff_eq] at k10 h; omega
      simp only [k8, k10, if_true, Bool.false_eq_true, if_false] at go ⊢
      rw [w64_of (by omega) (by omega)]
      exact go _ rfl
    simp only [k10, Bool.false_eq_true, if_false] at go go0 ⊢
    by_cases k8 : (a.Kind == 8) = true
    · simp only [k8, if_true] at go ⊢
      have := seek_l2 asks m hm (p.length : Int) a e2 m [] rfl
      exact EvC.ev (J := fun k j => r26_Walk.l1 asks (m.map rP) (fun l => some l) k (l ++ [rS (spotW m j)]) j ((p ++ [a]).length : Int)) this (go _ rfl)
    simp only [k8, Bool.false_eq_true, if_false] at go0 ⊢
    simp only [push_ok hlt, Option.bind_some]
    exact go0 trivial
theorem qDel_not (a b : ByteArray) (p : model_Pair) : (!qDel a b p) = ((!sLt p.Key a) && ((sEq b (ByteArray.mk #[])) || (sLt p.Key b))) := by
  unfold qDel
  cases sLt p.Key a <;> cases sEq b (ByteArray.mk #[]) <;> cases sLt p.Key b <;> rfl
theorem rwalk_l0 (m : List model_Pair) (hm : m.length ≤ 4398046511104) (a b : ByteArray) (asks : List Ask) (ha : asks.length ≤ 2814749766950) : ∀ (s p acc : List model_Pair), m = p ++ s → acc.length ≤ p.length →
    Ev (fun k => r26_Walk.l0 a b asks (m.map rP) k (acc.map rP) (p.length : Int)) ((walkW (acc ++ s.filter (fun q => !qDel a b q)) asks (-1)).map rS)
  | [], p, acc, hp, hl => by
    have e1 : decide ((p.length : Int) < ((m.map rP).length : Int)) = false := by rw [List.length_map, hp]; exact lt_end p
    have hpm : p.length = m.length := by rw [hp]; simp
    refine Ev.succ ?_
    simp only [r26_Walk.l0, e1, Bool.false_eq_true, if_false, Jn, List.filter_nil, List.append_nil]
    have := rwalk_l1 acc (by omega) asks ha asks [] (-1) [] rfl (by omega) (by omega) rfl
    exact this.to (by simp)
  | x :: s, p, acc, hp, hl => by
    have e1 : decide ((p.length : Int) < ((m.map rP).length : Int)) = true := by rw [List.length_map, hp]; exact lt_at p s x
    have e2 := idx_map m p s x hp
    have hw := step_at p s x (by rw [← hp, maxLen_val]; omega)
    have hpm : p.length + 1 ≤ m.length := by rw [hp]; simp
    have hlt : (acc.map rP).length < 7036874417613 := by rw [List.length_map]; omega
    refine Ev.succ ?_
    simp only [r26_Walk.l0, e1, e2, if_true, Option.bind_some, hw, Jn, push_ok hlt]
    have yes : (!qDel a b x) = true → Ev (fun k => r26_Walk.l0 a b asks (m.map rP) k (acc.map rP ++ [rP x]) ((p ++ [x]).length : Int)) ((walkW (acc ++ (x :: s).filter (fun q => !qDel a b q)) asks (-1)).map rS) := fun h => by
      have := rwalk_l0 m hm a b asks ha s (p ++ [x]) (acc ++ [x]) (by simp [hp]) (by simp; omega)
      rw [List.filter_cons_of_pos (by simpa using h)]
      simpa using this
    have no : (!qDel a b x) = false → Ev (fun k => r26_Walk.l0 a b asks (m.map rP) k (acc.map rP) ((p ++ [x]).length : Int)) ((walkW (acc ++ (x :: s).filter (fun q => !qDel a b q)) asks (-1)).map rS) := fun h => by
      have := rwalk_l0 m hm a b asks ha s (p ++ [x]) acc (by simp [hp]) (by simp; omega)
      rw [List.filter_cons_of_neg (by simpa using h)]
      exact this
    rw [qDel_not] at yes no
    have ek : (rP x).Key = x.Key := rfl
    simp only [ek]
    cases h1 : sLt x.Key a <;> cases h2 : sEq b (ByteArray.mk #[]) <;> cases h3 : sLt x.Key b <;> simp only [h1, h2, h3, Bool.not_false, Bool.not_true, Bool.true_and, Bool.false_and, Bool.or_true, Bool.or_false, if_true, Bool.false_eq_true, if_false, forall_const, false_implies, true_implies, reduceCtorEq] at yes no ⊢ <;> assumption
theorem rwalk_ev (a0 : List model_Pair) (a b : ByteArray) (asks : List Ask) (h0 : a0.length ≤ 4398046511104) (ha : asks.length ≤ 2814749766950) :
    Ev (fun k => r26_Walk k (a0.map rP) a b asks) ((walkW (betW a0 a b) asks (-1)).map rS) := by
  unfold r26_Walk
  have hl := len_map0 a0
  refine Ev.bind (rmap_ev a0 h0) ?_
  have := rwalk_l0 (mapM a0 []) (by omega) a b asks ha (mapM a0 []) [] [] rfl (Nat.le_refl _)
  exact this.to (by simp [betW])
theorem walkW_len (m : List model_Pair) : ∀ (s : List Ask) (i : Int), (walkW m s i).length = s.length
  | [], _ => rfl
  | a :: s, i => by
    unfold walkW
    split <;> simp [walkW_len m s]
theorem one_walk : ∃ r : List model_Spot, Ev (fun k => model_Walk k ([(⟨(ByteArray.mk #[97]), (ByteArray.mk #[49])⟩ : model_Pair)]) (ByteArray.mk #[]) (ByteArray.mk #[]) ([(⟨9, 0, (ByteArray.mk #[]), (ByteArray.mk #[]), SlV.nil, false⟩ : Ask)])) [(⟨1, (ByteArray.mk #[97]), (ByteArray.mk #[49])⟩ : model_Spot)] := by
  refine ⟨[], ?_⟩
  have := walk_ev [(⟨(ByteArray.mk #[97]), (ByteArray.mk #[49])⟩ : model_Pair)] (ByteArray.mk #[]) (ByteArray.mk #[]) [(⟨9, 0, (ByteArray.mk #[]), (ByteArray.mk #[]), SlV.nil, false⟩ : Ask)] (by simp) (by intro p hp; simp at hp; subst hp; decide) (by simp)
  refine this.to ?_
  kernel_rfl
theorem walks_l0 (L : List (Int × ByteArray × ByteArray)) (hL : L.length ≤ 2814749766950) : ∀ (s p : List (Int × ByteArray × ByteArray)), L = p ++ s → Ev (fun k => l26_ModelWalks.l0 (L.map mS) (L.map rS) k (p.length : Int)) true
  | [], p, hp => by
    have e1 : decide ((p.length : Int) < ((L.map mS).length : Int)) = false := by rw [List.length_map, hp]; exact lt_end p
    refine Ev.succ ?_
    simp only [l26_ModelWalks.l0, e1, Bool.false_eq_true, if_false]
    obtain ⟨_, h⟩ := one_walk
    refine Ev.bind h ?_
    exact Ev.of fun _ => by kernel_rfl
  | x :: s, p, hp => by
    have e1 : decide ((p.length : Int) < ((L.map mS).length : Int)) = true := by rw [List.length_map, hp]; exact lt_at p s x
    have e2 : idx (L.map mS) (p.length : Int) = some (mS x) := by
      rw [hp, List.map_append, List.map_cons]
      have := idx_at (p.map mS) (mS x) (s.map mS)
      rwa [List.length_map] at this
    have e3 : idx (L.map rS) (p.length : Int) = some (rS x) := by
      rw [hp, List.map_append, List.map_cons]
      have := idx_at (p.map rS) (rS x) (s.map rS)
      rwa [List.length_map] at this
    have hw := step_at p s x (by rw [← hp, maxLen_val]; omega)
    refine Ev.succ ?_
    have q1 : ((mS x).State != (rS x).State) = false := by simp [mS, rS]
    have q2 : sEq (mS x).Key (rS x).Key = true := sEq_refl _
    have q3 : sEq (mS x).Value (rS x).Value = true := sEq_refl _
    simp only [l26_ModelWalks.l0, e1, e2, e3, if_true, Option.bind_some, hw, Jn, q1, q2, q3, Bool.not_true, Bool.false_eq_true, if_false]
    exact walks_l0 L hL s (p ++ [x]) (by simp [hp])
theorem walks_law (a0 : List model_Pair) (a1 : L26_Look) (h0 : a0.length ≤ 4398046511104) (hs0 : ∀ p ∈ a0, p.Key.size ≤ maxLen) (ha : a1.Asks.length ≤ 2814749766950) : Ev (fun k => l26_ModelWalks k a0 a1) true := by
  unfold l26_ModelWalks
  have p1 : pushN 7036874417613 ([] : List model_Pair) a0 = some a0 := by rw [pushN_ok (by simp; omega)]; rfl
  have p2 : pushN 2814749766953 ([] : List Ask) a1.Asks = some a1.Asks := by rw [pushN_ok (by simp; omega)]; rfl
  refine Ev.bind0 p1 (Ev.bind0 p2 ?_)
  refine Ev.bind (walk_ev a0 a1.Least a1.Limit a1.Asks h0 hs0 ha) ?_
  refine Ev.bind (pairs_ev a0 (by omega)) ?_
  refine Ev.bind (rwalk_ev a0 a1.Least a1.Limit a1.Asks h0 ha) ?_
  have hlen : ((((walkW (betW a0 a1.Least a1.Limit) a1.Asks (-1)).map mS).length : Int) != (((walkW (betW a0 a1.Least a1.Limit) a1.Asks (-1)).map rS).length : Int)) = false := by simp
  simp only [Jn, hlen, Bool.false_eq_true, if_false]
  refine Ev.bind (pairs_ev a0 (by omega)) ?_
  refine Ev.bind (same_ev a0 (by omega)) ?_
  simp only [Bool.not_true, Bool.false_eq_true, if_false]
  have := walks_l0 (walkW (betW a0 a1.Least a1.Limit) a1.Asks (-1)) (by rw [walkW_len]; exact ha) (walkW (betW a0 a1.Least a1.Limit) a1.Asks (-1)) [] rfl
  exact this
end Go.Proofs.Ytgmaldangihhnaa.Mo
