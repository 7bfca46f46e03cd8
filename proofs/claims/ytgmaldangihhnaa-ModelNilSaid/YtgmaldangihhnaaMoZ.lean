import Derived.Test.YtgmaldangihhnaaPcMD
import Derived.Test.YtgmaldangihhnaaSyEv
import Derived.Test.YtgmaldangihhnaaSyUq
set_option linter.unusedVariables false
set_option linter.unusedSectionVars false
set_option linter.unusedSimpArgs false
set_option maxRecDepth 100000
namespace Go.Proofs.Ytgmaldangihhnaa.Mo
open Go Go.Proofs.Ytgmaldangihhnaa.Sy
theorem le_bound {P : Nat → Nat → Prop} : ∀ (n : Nat), (∀ i, i ≤ n → ∃ m, ∀ k, m ≤ k → P i k) → ∃ m, ∀ k, m ≤ k → ∀ i, i ≤ n → P i k
  | 0, h => by
    obtain ⟨m, hm⟩ := h 0 (Nat.le_refl _)
    exact ⟨m, fun k hk i hi => by obtain rfl : i = 0 := by omega
                                  exact hm k hk⟩
  | n + 1, h => by
    obtain ⟨m1, h1⟩ := le_bound n fun i hi => h i (by omega)
    obtain ⟨m2, h2⟩ := h (n + 1) (Nat.le_refl _)
    refine ⟨max m1 m2, fun k hk i hi => ?_⟩
    by_cases e : i = n + 1
    · subst e; exact h2 k (by omega)
    · exact h1 k (by omega) i (by omega)
theorem perm_bound {α : Type} : ∀ (m : List α) (P : List α → Nat → Prop), (∀ a, m.Perm a → ∃ n, ∀ k, n ≤ k → P a k) → ∃ n, ∀ k, n ≤ k → ∀ a, m.Perm a → P a k
  | [], P, h => by
    obtain ⟨n, hn⟩ := h [] (.refl _)
    refine ⟨n, fun k hk a ha => ?_⟩
    rw [List.Perm.eq_nil ha.symm]
    exact hn k hk
  | x :: m, P, h => by
    obtain ⟨n, hn⟩ := perm_bound m (fun a k => ∀ i, i ≤ m.length → P (a.take i ++ x :: a.drop i) k) fun a ha => by
      obtain ⟨n, hn⟩ := le_bound (P := fun i k => P (a.take i ++ x :: a.drop i) k) m.length fun i hi => h _ (by
        refine (List.Perm.cons x ha).trans ?_
        have e : a.take i ++ a.drop i = a := List.take_append_drop i a
        refine List.Perm.trans ?_ List.perm_middle.symm
        rw [e])
      exact ⟨n, hn⟩
    refine ⟨n, fun k hk a ha => ?_⟩
    obtain ⟨u, v, rfl⟩ := List.append_of_mem (ha.subset (List.mem_cons_self (a := x)))
    have hp : m.Perm (u ++ v) := (List.perm_cons x).1 (ha.trans List.perm_middle)
    have := hn k hk (u ++ v) hp u.length (by rw [hp.length_eq]; simp)
    simpa using this
abbrev kvP (p : KV) : model_Pair := ⟨p.1, p.2⟩
def cK (a b : model_Pair) : Int := if slt a.Key b.Key then -1 else if slt b.Key a.Key then 1 else 0
theorem ltK_iff {a b : model_Pair} : ltfPcM cK a b ↔ slt a.Key b.Key := by
  show cK a b < 0 ↔ _
  unfold cK
  split
  · simp [*]
  · split
    · simp [*]
    · simp [*]
theorem wo_K : Wo (ltfPcM cK) := by
  refine ⟨fun x y h k => ?_, fun x y z h k g => ?_⟩
  · rw [ltK_iff] at h k; exact slt_asymm h k
  · rw [ltK_iff] at h k g
    rcases slt_tri x.Key y.Key with c | c | c
    · exact h c
    · rw [c] at g; exact k g
    · exact k (slt_trans c g)
theorem told_cmp (a b : model_Pair) : model_told_1 a b = some (cK a b) := by
  simp only [model_told_1, cmp_Compare_string, cmp_isNaN_string, sEq_refl, Bool.not_true, Option.bind_some, Bool.false_eq_true, if_false, cK]
  rw [sLt_dec]
  by_cases h : slt a.Key b.Key
  · simp [h]
  · by_cases h2 : slt b.Key a.Key
    · have hne : sEq a.Key b.Key = false := sEq_false.2 fun e => by rw [e] at h2; exact slt_irrefl _ h2
      simp [h, h2, hne]
    · have e : a.Key = b.Key := by
        rcases slt_tri a.Key b.Key with c | c | c
        · exact absurd c h
        · exact c
        · exact absurd c h2
      simp [e, sEq_refl, slt_irrefl]
/-- Strictly rising. -/
def Ris (m : List model_Pair) : Prop := m.Pairwise fun a b => slt a.Key b.Key
theorem ris_uniq : ∀ {a b : List model_Pair}, Ris a → b.Pairwise (fun x y => ¬ slt y.Key x.Key) → a.Perm b → a = b
  | [], b, _, _, hp => (List.Perm.nil_eq hp)
  | x :: a, b, ha, hb, hp => by
    obtain ⟨k1, k2⟩ := List.pairwise_cons.1 ha
    cases b with
    | nil => exact absurd hp.length_eq (by simp)
    | cons y b =>
      obtain ⟨q1, q2⟩ := List.pairwise_cons.1 hb
      have hxy : x = y := by
        rcases List.mem_cons.1 (hp.subset (List.mem_cons_self (a := x))) with e | e
        · exact e
        · rcases List.mem_cons.1 (hp.symm.subset (List.mem_cons_self (a := y))) with e' | e'
          · exact e'.symm
          · exact absurd (k1 y e') (q1 x e)
      subst hxy
      rw [ris_uniq k2 q2 ((List.perm_cons x).1 hp)]
/-- The sort of any order of rising pairs gives them rising: one bound for all. -/
theorem sort_all (m : List model_Pair) (hm : Ris m) (hl : m.length ≤ 1152921504606846976) : ∃ n, ∀ k, n ≤ k → ∀ a, m.Perm a → slices_SortFunc_model_Pair k a (fun x0 x1 => model_told_1 x0 x1) = some m := by
  refine perm_bound m (fun a k => slices_SortFunc_model_Pair k a (fun x0 x1 => model_told_1 x0 x1) = some m) fun a ha => ?_
  obtain ⟨l', h1, h2, n, h3⟩ := sort_cmodel_Pair (⟨ByteArray.mk #[], ByteArray.mk #[]⟩ : model_Pair) (cmp := fun x0 x1 => model_told_1 x0 x1) (c0 := cK) told_cmp wo_K a (by rw [← ha.length_eq]; exact hl)
  have : m = l' := ris_uniq hm (h1.imp fun {x y} h c => h (ltK_iff.2 c)) (ha.trans h2)
  subst this
  exact ⟨n, h3⟩
theorem told_l1 (J : List model_Pair → Option (List model_Pair)) (R : List model_Pair) (m : List model_Pair) (hJ : ∀ a, m.Perm a → J a = some R) (hm : m.length ≤ 3518437208883) : ∀ (d : Nat) (rem : List KV) (acc : List model_Pair) (k : Nat), rem.length = d → d + 1 ≤ k → m.Perm (acc ++ rem.map kvP) →
    model_Apply.l1 J k acc rem = some R := by
  intro d
  induction d with
  | zero =>
    intro rem acc k hd hk hp
    obtain ⟨k, rfl⟩ : ∃ j, k = j + 1 := ⟨k - 1, by omega⟩
    have : rem = [] := List.length_eq_zero_iff.1 hd
    subst this
    rw [model_Apply.l1]
    refine stepAll_mk (fun _ => hJ _ (by simpa using hp)) (fun p r h => absurd h.length_eq (by simp))
  | succ d ih =>
    intro rem acc k hd hk hp
    obtain ⟨k, rfl⟩ : ∃ j, k = j + 1 := ⟨k - 1, by omega⟩
    rw [model_Apply.l1]
    refine stepAll_mk (fun e => by subst e; cases hd) (fun p r h => ?_)
    have hlen := hp.length_eq
    simp only [List.length_append, List.length_map] at hlen
    rw [push_ok (by omega), Option.bind_some]
    refine ih r _ k (by have := h.length_eq; simp at this; omega) (by omega) ?_
    refine hp.trans ?_
    have := (h.map kvP).append_left acc
    simpa using this
def inR (pr : ByteArray → Bool) (rem : List KV) (q : KV) : Bool := !(pr q.1 && rem.any fun p => decide (p.1 = q.1))
theorem del_l3 (J : List KV → Option (List model_Pair)) (x : Op) (R : List model_Pair) : ∀ (d : Nat) (rem l : List KV) (k : Nat), rem.length ≤ d → d + 1 ≤ k → (∀ p ∈ rem, p.1.size ≤ maxLen) → J (l.filter (inR (fun y => (!sLt y x.Key) && (sLt y x.Value)) rem)) = some R →
    model_Apply.l3 J x k l rem = some R := by
  intro d
  induction d with
  | zero =>
    intro rem l k hd hk hs hJ
    obtain ⟨k, rfl⟩ : ∃ j, k = j + 1 := ⟨k - 1, by omega⟩
    have : rem = [] := List.length_eq_zero_iff.1 (by omega)
    subst this
    rw [model_Apply.l3]
    refine stepAll_mk (fun _ => ?_) (fun p r h => absurd h.length_eq (by simp))
    rw [← hJ]; congr 1
    exact (List.filter_eq_self.2 fun q _ => by simp [inR]).symm
  | succ d ih =>
    intro rem l k hd hk hs hJ
    obtain ⟨k, rfl⟩ : ∃ j, k = j + 1 := ⟨k - 1, by omega⟩
    rw [model_Apply.l3]
    refine stepAll_mk (fun e => ?_) (fun p r h => ?_)
    · subst e
      rw [← hJ]; congr 1
      exact (List.filter_eq_self.2 fun q _ => by simp [inR]).symm
    · have hlen := h.length_eq
      simp only [List.length_cons] at hlen
      have hmem : ∀ q, q ∈ rem ↔ q = p ∨ q ∈ r := fun q => by rw [h.mem_iff, List.mem_cons]
      have hany : ∀ y : ByteArray, (rem.any fun q => decide (q.1 = y)) = (decide (p.1 = y) || r.any fun q => decide (q.1 = y)) := fun y => by
        rw [Bool.eq_iff_iff]; simp only [List.any_eq_true, Bool.or_eq_true, decide_eq_true_eq, hmem]
        constructor
        · rintro ⟨q, rfl | hq, e⟩
          · exact .inl e
          · exact .inr ⟨q, hq, e⟩
        · rintro (e | ⟨q, hq, e⟩)
          · exact ⟨p, .inl rfl, e⟩
          · exact ⟨q, .inr hq, e⟩
      have hsr : ∀ q ∈ r, q.1.size ≤ maxLen := fun q hq => hs q ((hmem q).2 (.inr hq))
      simp only [model_do_1, Option.bind_some]
      by_cases hp : ((!sLt p.1 x.Key) && (sLt p.1 x.Value)) = true
      · rw [if_pos hp]
        have hsz := hs p ((hmem p).2 (.inl rfl))
        simp only [sdel, if_pos hsz, Option.bind_some]
        refine ih _ _ k (by have := sdrop_len p.1 r; omega) (by omega) (fun q hq => hsr q (mem_sdrop.1 hq).1) ?_
        rw [← hJ]; congr 1
        rw [show sdrop p.1 l = l.filter (fun q => !decide (q.1 = p.1)) from rfl, List.filter_filter]
        refine List.filter_congr fun q _ => ?_
        unfold inR
        rw [hany q.1, any_sdrop]
        by_cases e : q.1 = p.1
        · have e' : p.1 = q.1 := e.symm
          have hp' : ((!sLt q.1 x.Key) && (sLt q.1 x.Value)) = true := by rw [e]; exact hp
          simp only [e', hp', decide_true, Bool.true_and, Bool.not_true, Bool.false_and, Bool.and_false, Bool.true_or]
        · have e' : ¬ p.1 = q.1 := fun c => e c.symm
          simp [e, e']
      · rw [if_neg hp]
        refine ih _ _ k (by omega) (by omega) hsr ?_
        rw [← hJ]; congr 1
        refine List.filter_congr fun q _ => ?_
        unfold inR
        rw [hany q.1]
        by_cases e : p.1 = q.1
        · rw [← e]
          have : ((!sLt p.1 x.Key) && (sLt p.1 x.Value)) = false := Bool.eq_false_iff.2 hp
          simp [this]
        · simp [e]
end Go.Proofs.Ytgmaldangihhnaa.Mo

set_option maxRecDepth 100000
namespace Go.Proofs.Ytgmaldangihhnaa.Mo
open Go Go.Proofs.Ytgmaldangihhnaa.Sy
def mayB (x : Op) : Bool := (batch_may x).getD false
theorem may_eq (x : Op) : batch_may x = some (mayB x) := by
  unfold mayB batch_may
  (repeat' split) <;> rfl
theorem emp_iff {b : ByteArray} : b = ByteArray.mk #[] ↔ b.size = 0 := by
  obtain ⟨d⟩ := b
  simp [ByteArray.size]
theorem may_sizes {x : Op} (h : mayB x = true) : 1 ≤ x.Key.size ∧ x.Key.size ≤ 1024 ∧ x.Value.size ≤ 65536 := by
  unfold mayB batch_may at h
  split at h
  · simp at h
  · rename_i h0
    simp only [Bool.or_eq_true, decide_eq_true_eq, not_or] at h0
    refine ⟨by omega, by omega, ?_⟩
    split at h
    · simp only [Option.getD_some, sEq_iff] at h
      rw [emp_iff.1 h]; omega
    · split at h
      · simp only [Option.getD_some, decide_eq_true_eq] at h; omega
      · split at h
        · simp only [Option.getD_some, Bool.and_eq_true, decide_eq_true_eq] at h; omega
        · simp at h
theorem csize (n : Nat) (hn : n ≤ 65536) : ∃ s : Int, 0 ≤ s ∧ s ≤ 3 ∧ ∀ k, 3 ≤ k → codec_Size k (n : Int) = some s := by
  have e7 : ∀ x : Int, x / 2 ^ (Int.toNat 7) = x / 128 := fun x => by rfl
  have w1 : w64 (1 + 1) = 2 := by decide
  have w2 : w64 (2 + 1) = 3 := by decide
  by_cases h1 : 128 ≤ (n : Int)
  · by_cases h2 : 128 ≤ (n : Int) / 128
    · have h3 : ¬ 128 ≤ (n : Int) / 128 / 128 := by omega
      refine ⟨3, by omega, by omega, fun k hk => ?_⟩
      obtain ⟨k, rfl⟩ : ∃ j, k = j + 3 := ⟨k - 3, by omega⟩
      simp only [codec_Size, codec_Size.l0, e7, decide_eq_true h1, decide_eq_true h2, decide_eq_false h3, if_true, Bool.false_eq_true, if_false, w1, w2]
    · refine ⟨2, by omega, by omega, fun k hk => ?_⟩
      obtain ⟨k, rfl⟩ : ∃ j, k = j + 3 := ⟨k - 3, by omega⟩
      simp only [codec_Size, codec_Size.l0, e7, decide_eq_true h1, decide_eq_false h2, if_true, Bool.false_eq_true, if_false, w1]
  · refine ⟨1, by omega, by omega, fun k hk => ?_⟩
    obtain ⟨k, rfl⟩ : ∃ j, k = j + 3 := ⟨k - 3, by omega⟩
    simp only [codec_Size, codec_Size.l0, decide_eq_false h1, Bool.false_eq_true, if_false]
theorem tsize (a : ByteArray) (ha : a.size ≤ 65536) : ∃ s : Int, 0 ≤ s ∧ s ≤ 65539 ∧ ∀ k, 3 ≤ k → batch_textSize k a = some s := by
  obtain ⟨s, h1, h2, h3⟩ := csize a.size ha
  refine ⟨s + a.size, by omega, by omega, fun k hk => ?_⟩
  unfold batch_textSize
  rw [wu64_nat_cmodel_Pair (n := a.size) (by omega) rfl, h3 k hk, Option.bind_some, w64_of (by omega) (by omega)]
theorem bsize (x : Op) (h : mayB x = true) : ∃ s : Int, 0 ≤ s ∧ s ≤ 131079 ∧ ∀ k, 3 ≤ k → batch_size k x = some s := by
  obtain ⟨_, h1, h2⟩ := may_sizes h
  obtain ⟨s, a1, a2, a3⟩ := tsize x.Key (by omega)
  obtain ⟨t, b1, b2, b3⟩ := tsize x.Value h2
  by_cases hk : (x.Kind != 0) = true
  · refine ⟨1 + s + t, by omega, by omega, fun k hkk => ?_⟩
    unfold batch_size
    rw [a3 k hkk]
    simp only [Option.bind_some, Jn, hk, if_true, b3 k hkk]
    rw [w64_of (x := 1 + s) (by omega) (by omega), w64_of (by omega) (by omega)]
  · refine ⟨1 + s, by omega, by omega, fun k hkk => ?_⟩
    unfold batch_size
    rw [a3 k hkk]
    simp only [Option.bind_some, Jn, hk, Bool.false_eq_true, if_false]
    rw [w64_of (x := 1 + s) (by omega) (by omega)]
theorem check_one (x : Op) : ∃ c : Int, ∀ k, 10 ≤ k → batch_Check k [x] = some (c, if mayB x = true then 0 else 40) := by
  have d0 : decide (4096 < (([x] : List Op).length : Int)) = false := rfl
  have d1 : decide ((0 : Int) < (([x] : List Op).length : Int)) = true := rfl
  have d2 : decide ((1 : Int) < (([x] : List Op).length : Int)) = false := rfl
  have i0 : idx [x] (0 : Int) = some x := rfl
  have w1 : w64 (0 + 1) = 1 := by decide
  by_cases h : mayB x = true
  · obtain ⟨s, h1, h2, h3⟩ := bsize x h
    refine ⟨0, fun k hk => ?_⟩
    obtain ⟨k, rfl⟩ : ∃ j, k = j + 2 := ⟨k - 2, by omega⟩
    rw [if_pos h]
    have e1 : decide ((1048576 : Int) < w64 (12 + s)) = false := by
      rw [w64_of (by omega) (by omega)]; exact decide_eq_false (by omega)
    simp only [batch_Check, d0, Bool.false_eq_true, if_false, slices_IndexFunc_Op, slices_IndexFunc_Op.l0, d1, if_true, i0, Option.bind_some, batch_Check_1, may_eq, h, Bool.not_true, w1, d2, batch_total, batch_total.l0, h3 (k + 1) (by omega), e1]
    rfl
  · have h := Bool.eq_false_iff.2 h
    refine ⟨0, fun k hk => ?_⟩
    obtain ⟨k, rfl⟩ : ∃ j, k = j + 2 := ⟨k - 2, by omega⟩
    simp only [batch_Check, d0, Bool.false_eq_true, if_false, slices_IndexFunc_Op, slices_IndexFunc_Op.l0, d1, if_true, i0, Option.bind_some, batch_Check_1, may_eq, h, Bool.not_false]
    rfl
def setM (m : List model_Pair) (x v : ByteArray) : List model_Pair := (m.filter fun p => decide (slt p.Key x)) ++ ⟨x, v⟩ :: m.filter fun p => decide (slt x p.Key)
def doM (m : List model_Pair) (o : Op) : List model_Pair :=
  if mayB o = true then (if (o.Kind == 1) = true then setM m o.Key o.Value
    else m.filter fun p => !(((o.Kind == 0) && sEq p.Key o.Key) || ((o.Kind == 2) && !sLt p.Key o.Key && sLt p.Key o.Value)))
  else m
theorem ris_filter {m : List model_Pair} (h : Ris m) (f : model_Pair → Bool) : Ris (m.filter f) := h.filter f
theorem ris_set {m : List model_Pair} (h : Ris m) (x v : ByteArray) : Ris (setM m x v) := by
  unfold Ris setM
  rw [List.pairwise_append]
  refine ⟨h.filter _, List.pairwise_cons.2 ⟨fun p hp => ?_, h.filter _⟩, fun a ha b hb => ?_⟩
  · have := (List.mem_filter.1 hp).2; simpa using this
  · have a1 : slt a.Key x := by simpa using (List.mem_filter.1 ha).2
    rcases List.mem_cons.1 hb with rfl | hb
    · exact a1
    · have b1 : slt x b.Key := by simpa using (List.mem_filter.1 hb).2
      exact slt_trans a1 b1
theorem ris_do {m : List model_Pair} (h : Ris m) (o : Op) : Ris (doM m o) := by
  unfold doM
  split
  · split
    · exact ris_set h _ _
    · exact ris_filter h _
  · exact h
theorem set_len (m : List model_Pair) (x v : ByteArray) : (setM m x v).length ≤ m.length + 1 := by
  have : ∀ m : List model_Pair, (m.filter fun p => decide (slt p.Key x)).length + (m.filter fun p => decide (slt x p.Key)).length ≤ m.length := by
    intro m
    induction m with
    | nil => simp
    | cons p m ih =>
      simp only [List.filter_cons, List.length_cons]
      by_cases c1 : slt p.Key x
      · have c2 : ¬ slt x p.Key := slt_asymm c1
        simp only [decide_eq_true c1, decide_eq_false c2, if_true, Bool.false_eq_true, if_false, List.length_cons]; omega
      · by_cases c2 : slt x p.Key
        · simp only [decide_eq_false c1, decide_eq_true c2, if_true, Bool.false_eq_true, if_false, List.length_cons]; omega
        · simp only [decide_eq_false c1, decide_eq_false c2, Bool.false_eq_true, if_false]; omega
  have := this m
  unfold setM
  rw [List.length_append, List.length_cons]; omega
theorem do_len (m : List model_Pair) (o : Op) : (doM m o).length ≤ m.length + 1 := by
  unfold doM
  split
  · split
    · exact set_len _ _ _
    · exact Nat.le_succ_of_le (List.length_filter_le _ _)
  · exact Nat.le_succ _
theorem sput_perm {l : List KV} {m : List model_Pair} (hm : Ris m) (hp : m.Perm (l.map kvP)) (x v : ByteArray) : (setM m x v).Perm (((x, v) :: sdrop x l).map kvP) := by
  have h1 : (sdrop x l).map kvP = (l.map kvP).filter fun p => !decide (p.Key = x) := by
    rw [List.filter_map]; rfl
  rw [List.map_cons, h1]
  refine List.Perm.trans List.perm_middle (List.Perm.cons _ ?_)
  refine List.Perm.trans ?_ (hp.filter _)
  have h2 : ∀ m : List model_Pair, ((m.filter fun p => decide (slt p.Key x)) ++ m.filter fun p => decide (slt x p.Key)).Perm (m.filter fun p => !decide (p.Key = x)) := by
    intro m
    induction m with
    | nil => exact .refl _
    | cons p m ih =>
      rcases slt_tri p.Key x with c | c | c
      · have c2 : ¬ slt x p.Key := slt_asymm c
        have c3 : p.Key ≠ x := fun e => by rw [e] at c; exact slt_irrefl _ c
        simp only [List.filter_cons, decide_eq_true c, decide_eq_false c2, decide_eq_false c3, if_true, Bool.false_eq_true, if_false, Bool.not_false, List.cons_append]
        exact ih.cons _
      · have c1 : ¬ slt p.Key x := by rw [c]; exact slt_irrefl _
        have c2 : ¬ slt x p.Key := by rw [c]; exact slt_irrefl _
        simp only [List.filter_cons, decide_eq_false c1, decide_eq_false c2, decide_eq_true c, Bool.not_true, Bool.false_eq_true, if_false]
        exact ih
      · have c2 : ¬ slt p.Key x := slt_asymm c
        have c3 : p.Key ≠ x := fun e => by rw [e] at c; exact slt_irrefl _ c
        simp only [List.filter_cons, decide_eq_true c, decide_eq_false c2, decide_eq_false c3, if_true, Bool.false_eq_true, if_false, Bool.not_false]
        exact List.perm_middle.trans (ih.cons _)
  exact h2 m
theorem sfil_perm {l : List KV} {m : List model_Pair} (hp : m.Perm (l.map kvP)) (f : model_Pair → Bool) (g : KV → Bool) (h : ∀ p ∈ l, g p = f (kvP p)) : (m.filter f).Perm ((l.filter g).map kvP) := by
  have h1 : (l.filter g).map kvP = (l.map kvP).filter f := by
    rw [List.filter_map]; congr 1; exact List.filter_congr fun p hp => h p hp
  rw [h1]
  exact hp.filter _
end Go.Proofs.Ytgmaldangihhnaa.Mo

set_option maxRecDepth 100000
namespace Go.Proofs.Ytgmaldangihhnaa.Mo
open Go Go.Proofs.Ytgmaldangihhnaa.Sy
theorem kv_len {l : List KV} {m : List model_Pair} (hp : m.Perm (l.map kvP)) : l.length = m.length := by rw [hp.length_eq, List.length_map]
theorem ops_l2 (a1 : List Op) (ha : a1.length ≤ 1048576) (J : List KV → Option (List model_Pair)) (R : List model_Pair) : ∀ (s p : List Op) (l : List KV) (m : List model_Pair) (k : Nat), a1 = p ++ s → Ris m → m.Perm (l.map kvP) → (∀ q ∈ l, q.1.size ≤ maxLen) →
    m.length + s.length ≤ 2097152 → s.length + 2097172 ≤ k → (∀ l' : List KV, (s.foldl doM m).Perm (l'.map kvP) → J l' = some R) → model_Apply.l2 a1 J k l (p.length : Int) = some R
  | [], p, l, m, k, hp, hm, hpm, hs, hl, hk, hJ => by
    obtain ⟨k, rfl⟩ : ∃ j, k = j + 1 := ⟨k - 1, by simp at hk; omega⟩
    have e1 : decide ((p.length : Int) < (a1.length : Int)) = false := by rw [hp]; exact lt_end p
    simp only [model_Apply.l2, e1, Bool.false_eq_true, if_false]
    exact hJ l hpm
  | x :: s, p, l, m, k, hp, hm, hpm, hs, hl, hk, hJ => by
    simp only [List.length_cons] at hk hl
    obtain ⟨k, rfl⟩ : ∃ j, k = j + 1 := ⟨k - 1, by omega⟩
    have e1 : decide ((p.length : Int) < (a1.length : Int)) = true := by rw [hp]; exact lt_at p s x
    have e2 : idx a1 (p.length : Int) = some x := by rw [hp]; exact idx_at p x s
    have hw := step_at p s x (by rw [← hp, maxLen_val]; omega)
    obtain ⟨c, hc⟩ := check_one x
    have hll := kv_len hpm
    have hdl := do_len m x
    have go : ∀ l1 : List KV, (doM m x).Perm (l1.map kvP) → (∀ q ∈ l1, q.1.size ≤ maxLen) → model_Apply.l2 a1 J k l1 (w64 ((p.length : Int) + 1)) = some R := fun l1 h1 h2 => by
      rw [hw]
      exact ops_l2 a1 ha J R s (p ++ [x]) l1 (doM m x) k (by simp [hp]) (ris_do hm x) h1 h2 (by omega) (by omega) hJ
    simp only [model_Apply.l2, e1, e2, if_true, Option.bind_some, Jn, hc k (by omega)]
    by_cases hmay : mayB x = true
    · obtain ⟨z1, z2, z3⟩ := may_sizes hmay
      have hks : x.Key.size ≤ maxLen := by rw [maxLen_val]; omega
      have hlm : l.length < maxLen := by rw [maxLen_val]; omega
      simp only [hmay, if_true, bne_self_eq_false, Bool.false_eq_true, if_false]
      by_cases k1 : (x.Kind == 1) = true
      · simp only [k1, if_true, sput, if_pos (And.intro hks hlm), Option.bind_some]
        refine go _ ?_ fun q hq => ?_
        · have : doM m x = setM m x.Key x.Value := by unfold doM; rw [if_pos hmay, if_pos k1]
          rw [this]
          exact sput_perm hm hpm _ _
        · rcases List.mem_cons.1 hq with rfl | hq
          · exact hks
          · exact hs q (mem_sdrop.1 hq).1
      · have k1' := Bool.eq_false_iff.2 k1
        simp only [k1', Bool.false_eq_true, if_false]
        have hd : doM m x = m.filter fun p => !(((x.Kind == 0) && sEq p.Key x.Key) || ((x.Kind == 2) && !sLt p.Key x.Key && sLt p.Key x.Value)) := by
          unfold doM; rw [if_pos hmay, if_neg k1]
        by_cases k0 : (x.Kind == 0) = true
        · have k2 : (x.Kind == 2) = false := by
            rw [eq_of_beq k0]; rfl
          simp only [k0, if_true, sdel, if_pos hks, Option.bind_some]
          refine go _ ?_ fun q hq => hs q (mem_sdrop.1 hq).1
          rw [hd]
          refine sfil_perm hpm _ _ fun q hq => ?_
          simp only [k0, k2, Bool.true_and, Bool.false_and, Bool.or_false, sEq_dec]
        · have k0' := Bool.eq_false_iff.2 k0
          simp only [k0', Bool.false_eq_true, if_false]
          by_cases k2 : (x.Kind == 2) = true
          · simp only [k2, if_true]
            refine del_l3 _ x R l.length l l k (Nat.le_refl _) (by omega) hs ?_
            refine go _ ?_ fun q hq => hs q (List.mem_filter.1 hq).1
            rw [hd]
            refine sfil_perm hpm _ _ fun q hq => ?_
            have : (l.any fun p => decide (p.1 = q.1)) = true := List.any_eq_true.2 ⟨q, hq, by simp⟩
            simp only [inR, this, Bool.and_true, k0', k2, Bool.false_and, Bool.false_or, Bool.true_and]
          · have k2' := Bool.eq_false_iff.2 k2
            simp only [k2', Bool.false_eq_true, if_false]
            refine go _ ?_ hs
            rw [hd]
            simp only [k0', k2', Bool.false_and, Bool.or_self, Bool.not_false]
            rw [List.filter_eq_self.2 fun _ _ => rfl]
            exact hpm
    · have hmay' := Bool.eq_false_iff.2 hmay
      have hd : doM m x = m := by unfold doM; rw [if_neg hmay]
      have h40 : ((40 : Int) != 0) = true := rfl
      simp only [hmay', Bool.false_eq_true, if_false, h40, if_true]
      exact go l (by rw [hd]; exact hpm) hs
def mapM (a0 : List model_Pair) (m : List model_Pair) : List model_Pair := a0.foldl (fun m p => setM m p.Key p.Value) m
def appM (a0 : List model_Pair) (a1 : List Op) : List model_Pair := a1.foldl doM (mapM a0 [])
theorem ris_mapM : ∀ (a0 m : List model_Pair), Ris m → Ris (mapM a0 m)
  | [], m, h => h
  | p :: a, m, h => ris_mapM a _ (ris_set h _ _)
theorem len_mapM : ∀ (a0 m : List model_Pair), (mapM a0 m).length ≤ m.length + a0.length
  | [], m => by simp [mapM]
  | p :: a, m => by
    have h1 := len_mapM a (setM m p.Key p.Value)
    have h2 := set_len m p.Key p.Value
    simp only [mapM, List.foldl_cons, List.length_cons] at h1 ⊢
    omega
theorem ris_ops : ∀ (a1 : List Op) (m : List model_Pair), Ris m → Ris (a1.foldl doM m)
  | [], m, h => h
  | o :: a, m, h => ris_ops a _ (ris_do h o)
theorem len_ops : ∀ (a1 : List Op) (m : List model_Pair), (a1.foldl doM m).length ≤ m.length + a1.length
  | [], m => by simp
  | o :: a, m => by
    have h1 := len_ops a (doM m o)
    have h2 := do_len m o
    simp only [List.foldl_cons, List.length_cons]
    omega
theorem ris_app (a0 : List model_Pair) (a1 : List Op) : Ris (appM a0 a1) := ris_ops _ _ (ris_mapM _ _ List.Pairwise.nil)
theorem len_app (a0 : List model_Pair) (a1 : List Op) : (appM a0 a1).length ≤ a0.length + a1.length := by
  have h1 := len_ops a1 (mapM a0 [])
  have h2 := len_mapM a0 []
  simp only [List.length_nil] at h2
  unfold appM; omega
theorem apply_l0 (a0 : List model_Pair) (a1 : List Op) (h0 : a0.length ≤ 1048576) (h1 : a1.length ≤ 1048576) (hs0 : ∀ p ∈ a0, p.Key.size ≤ maxLen) (n : Nat)
    (hn : ∀ k, n ≤ k → ∀ a, (appM a0 a1).Perm a → slices_SortFunc_model_Pair k a (fun x0 x1 => model_told_1 x0 x1) = some (appM a0 a1)) : ∀ (s p : List model_Pair) (l : List KV) (m : List model_Pair) (k : Nat), a0 = p ++ s → Ris m → m.Perm (l.map kvP) → (∀ q ∈ l, q.1.size ≤ maxLen) →
    m.length ≤ p.length → mapM s m = mapM a0 [] → n + s.length + 4194400 ≤ k → model_Apply.l0 a0 a1 k l (p.length : Int) = some (appM a0 a1)
  | [], p, l, m, k, hp, hm, hpm, hs, hl, he, hk => by
    obtain ⟨k, rfl⟩ : ∃ j, k = j + 1 := ⟨k - 1, by simp at hk; omega⟩
    have e1 : decide ((p.length : Int) < (a0.length : Int)) = false := by rw [hp]; exact lt_end p
    have hpl : p.length = a0.length := by rw [hp]; simp
    simp only [List.length_nil] at hk
    simp only [model_Apply.l0, e1, Bool.false_eq_true, if_false, Jn]
    have he' : m = mapM a0 [] := he
    refine ops_l2 a1 h1 _ _ a1 [] l m k rfl hm hpm hs (by omega) (by omega) fun l' hl' => ?_
    have hl'' : (appM a0 a1).Perm (l'.map kvP) := by rw [he'] at hl'; exact hl'
    have hlen := kv_len hl''
    have hla := len_app a0 a1
    refine told_l1 _ _ (appM a0 a1) (fun a ha => ?_) (by omega) l'.length l' [] k rfl (by omega) (by simpa using hl'')
    rw [hn k (by omega) a ha, Option.bind_some]
  | x :: s, p, l, m, k, hp, hm, hpm, hs, hl, he, hk => by
    simp only [List.length_cons] at hk
    obtain ⟨k, rfl⟩ : ∃ j, k = j + 1 := ⟨k - 1, by omega⟩
    have e1 : decide ((p.length : Int) < (a0.length : Int)) = true := by rw [hp]; exact lt_at p s x
    have e2 : idx a0 (p.length : Int) = some x := by rw [hp]; exact idx_at p x s
    have hw := step_at p s x (by rw [← hp, maxLen_val]; omega)
    have hpl : p.length + 1 ≤ a0.length := by rw [hp]; simp
    have hks : x.Key.size ≤ maxLen := hs0 x (by rw [hp]; simp)
    have hll := kv_len hpm
    have hlm : l.length < maxLen := by rw [maxLen_val]; omega
    simp only [model_Apply.l0, e1, e2, if_true, Option.bind_some, sput, if_pos (And.intro hks hlm), hw]
    have hsl := set_len m x.Key x.Value
    refine apply_l0 a0 a1 h0 h1 hs0 n hn s (p ++ [x]) _ (setM m x.Key x.Value) k (by simp [hp]) (ris_set hm _ _) (sput_perm hm hpm _ _) (fun q hq => ?_) (by simp; omega) he (by omega)
    rcases List.mem_cons.1 hq with rfl | hq
    · exact hks
    · exact hs q (mem_sdrop.1 hq).1
theorem apply_ev (a0 : List model_Pair) (a1 : List Op) (h0 : a0.length ≤ 1048576) (h1 : a1.length ≤ 1048576) (hs0 : ∀ p ∈ a0, p.Key.size ≤ maxLen) : Ev (fun k => model_Apply k a0 a1) (appM a0 a1) := by
  have hl := len_app a0 a1
  obtain ⟨n, hn⟩ := sort_all (appM a0 a1) (ris_app a0 a1) (by omega)
  refine ⟨n + a0.length + 4194400, fun k hk => ?_⟩
  exact apply_l0 a0 a1 h0 h1 hs0 n hn a0 [] [] [] k rfl List.Pairwise.nil (.refl _) (fun q hq => by cases hq) (Nat.le_refl _) rfl hk
end Go.Proofs.Ytgmaldangihhnaa.Mo

namespace Go.Proofs.Ytgmaldangihhnaa.Mo
open Go Go.Proofs.Ytgmaldangihhnaa.Sy
theorem nil_law (a0 : Int) (a1 : ByteArray) (a2 : List Op) : Ev (fun k => l26_ModelNil k a0 a1 a2) true := by
  unfold l26_ModelNil
  have h1 : ((((!sEq (ByteArray.mk #[]) (ByteArray.mk #[])) || false) || false) || false) = false := by simp [sEq_refl]
  have h2 : decide ((72057594037927935 : Int) < 1) = false := by decide
  simp only [h1, h2, Bool.false_eq_true, if_false, Jn]
  exact Ev.bind (apply_ev [] [] (by simp) (by simp) (by simp)) Ev.ret
end Go.Proofs.Ytgmaldangihhnaa.Mo
