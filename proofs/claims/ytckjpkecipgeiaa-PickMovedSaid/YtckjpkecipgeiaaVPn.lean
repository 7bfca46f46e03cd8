import Derived.Test.YtckjpkecipgeiaaVPm
set_option linter.unusedVariables false
set_option linter.unusedSimpArgs false
set_option maxRecDepth 100000
namespace Go.Proofs.Ytckjpkecipgeiaa.Mo
open Go Go.Proofs.Ytckjpkecipgeiaa.Sy
def ratesB (c : Config) : Bool := (pick_rates c).getD false
theorem rates_eq (c : Config) : pick_rates c = some (ratesB c) := rfl
theorem rates_iff {c : Config} : ratesB c = true ↔ (1 ≤ c.Base ∧ c.Base ≤ 268435456) ∧ 2 ≤ c.Ratio ∧ c.Ratio ≤ 100 := by
  simp [ratesB, pick_rates, and_assoc]
def mayS (l : List (List File)) (c : Config) : Bool := ((((validB l && (c.Levels == (l.length : Int))) && (decide (2 ≤ c.Levels))) && (decide (1 ≤ c.Files0))) && (decide (1 ≤ c.Cut))) && ratesB c
theorem mayS_iff {l : List (List File)} {c : Config} : mayS l c = true ↔ validB l = true ∧ c.Levels = l.length ∧ 2 ≤ c.Levels ∧ 1 ≤ c.Files0 ∧ 1 ≤ c.Cut ∧ ratesB c = true := by
  simp [mayS, and_assoc]
theorem pmay_ev (l : List (List File)) (hg : goodL l) (c : Config) : Ev (fun k => pick_may k l c) (mayS l c) := by
  unfold pick_may mayS
  refine Ev.bind (valid_ev l hg) ?_
  simp only [Jn, rates_eq, Option.bind_some]
  by_cases h : ((((validB l && (c.Levels == (l.length : Int))) && (decide (2 ≤ c.Levels))) && (decide (1 ≤ c.Files0))) && (decide (1 ≤ c.Cut))) = true
  · simp only [if_pos h, h, Bool.true_and]
    exact Ev.ret
  · have h' := Bool.eq_false_iff.2 h
    simp only [h', Bool.false_and, Bool.false_eq_true, if_false]
    exact Ev.ret
def bearsG (c : Config) : Nat → Int → Int
  | 0, n => n
  | m + 1, n => bearsG c m (minI (w64 (n * c.Ratio)) 1099511627776)
def bearsS (c : Config) (i : Int) : Int := if (((!ratesB c) || (decide (i < 1))) || (decide (6 < i))) = true then 0 else bearsG c (i - 1).toNat c.Base
theorem bears_l0 (c : Config) (m : Nat) (hm : m ≤ 6) : ∀ (d j : Nat) (n : Int), j + d = m → Ev (fun k => pick_Bears.l0 c k n m j) (bearsG c d n)
  | 0, j, n, h => by
    refine Ev.succ ?_
    have : decide ((j : Int) < (m : Int)) = false := by simp; omega
    simp only [pick_Bears.l0, this, Bool.false_eq_true, if_false]
    exact Ev.ret
  | d + 1, j, n, h => by
    refine Ev.succ ?_
    have e : decide ((j : Int) < (m : Int)) = true := by simp; omega
    simp only [pick_Bears.l0, e, if_true]
    rw [w64_succ (by omega)]
    exact bears_l0 c m hm d (j + 1) _ (by omega)
theorem bears_ev (c : Config) (i : Int) : Ev (fun k => pick_Bears k c i) (bearsS c i) := by
  unfold pick_Bears bearsS
  rw [rates_eq]
  refine Ev.bind0 rfl ?_
  by_cases h : (((!ratesB c) || (decide (i < 1))) || (decide (6 < i))) = true
  · simp only [if_pos h]; exact Ev.ret
  · simp only [if_neg h]
    simp only [Bool.or_eq_true, not_or, decide_eq_true_eq] at h
    have e : w64 (i - 1) = ((i - 1).toNat : Int) := by rw [w64_of (by omega) (by omega)]; omega
    rw [e]
    exact bears_l0 c _ (by omega) _ 0 c.Base (by omega)
theorem minI_alt (a b : Int) : minI a b = min a b := by
  unfold minI
  split <;> omega
theorem bearsG_pos {c : Config} (hr : ratesB c = true) : ∀ (m : Nat) (n : Int), 1 ≤ n ∧ n ≤ 1099511627776 → 1 ≤ bearsG c m n ∧ bearsG c m n ≤ 1099511627776
  | 0, n, h => h
  | m + 1, n, h => by
    have h2 := rates_iff.1 hr
    refine bearsG_pos hr m _ ?_
    rw [minI_alt]
    have h3 : n * c.Ratio ≤ 1099511627776 * 100 := Int.mul_le_mul h.2 h2.2.2 (by omega) (by omega)
    have h4 : 1 * 1 ≤ n * c.Ratio := Int.mul_le_mul h.1 (by omega) (by omega) (by omega)
    rw [w64_of (by omega) (by omega)]
    omega
def scoreS (l : List (List File)) (c : Config) (i : Int) : Int :=
  if (((!mayS l c) || (decide (i < 0))) || (decide ((w64 ((l.length : Int) - 1)) ≤ i))) = true then 0
  else if (i == 0) = true then w64 (Int.tdiv (w64 (1000 * (((l.getD 0 []).length : Nat) : Int))) (minI c.Files0 268435456))
  else w64 (Int.tdiv (w64 (1000 * sizeS (ofS l i))) (bearsS c i))
theorem score_ev (l : List (List File)) (hg : goodL l) (c : Config) (i : Int) : Ev (fun k => pick_Score k l c i) (scoreS l c i) := by
  unfold pick_Score scoreS
  refine Ev.bind (pmay_ev l hg c) ?_
  by_cases h : (((!mayS l c) || (decide (i < 0))) || (decide ((w64 ((l.length : Int) - 1)) ≤ i))) = true
  · simp only [if_pos h]; exact Ev.ret
  · simp only [if_neg h]
    simp only [Bool.or_eq_true, not_or, decide_eq_true_eq] at h
    have hm : mayS l c = true := by simpa using h.1.1
    have hmi := mayS_iff.1 hm
    have hb := rates_iff.1 hmi.2.2.2.2.2
    have h7 := (validB_iff.1 hmi.1).2.1
    have hw : w64 ((l.length : Int) - 1) = (l.length : Int) - 1 := w64_of (by omega) (by omega)
    by_cases h0 : (i == 0) = true
    · simp only [if_pos h0]
      have hlen : 0 < l.length := by omega
      refine Ev.bind0 (getD_idx hlen) ?_
      have : ¬ minI c.Files0 268435456 = 0 := by rw [minI_alt]; omega
      simp only [if_neg this, List.getD_eq_getElem?_getD, List.getElem?_eq_getElem hlen, Option.getD_some]
      exact Ev.ret
    · simp only [if_neg h0]
      refine Ev.bind (size_ev l hg i) ?_
      refine Ev.bind (bears_ev c i) ?_
      have hi : 0 < i ∧ i ≤ 6 := by simp at h0; omega
      have : ¬ bearsS c i = 0 := by
        unfold bearsS
        rw [if_neg (by simp [hmi.2.2.2.2.2]; omega)]
        have := (bearsG_pos hmi.2.2.2.2.2 (i - 1).toNat c.Base ⟨hb.1.1, by omega⟩).1
        omega
      simp only [if_neg this]
      exact Ev.ret
def bestF (l : List Int) : Nat → Nat → List Int → Nat
  | _, b, [] => b
  | i, b, x :: s => bestF l (i + 1) (if l.getD b 0 < x then i else b) s
def bestN (l : List Int) : Nat := bestF l 0 0 l
theorem best_l0 (l : List Int) (hl : l.length ≤ 9223372036854775000) : ∀ (s p : List Int) (b : Nat), l = p ++ s → (b < l.length ∨ s = []) → Ev (fun k => pick_best_int.l0 l k b p.length) (bestF l p.length b s : Int)
  | [], p, b, hp, _ => by
    subst hp
    refine Ev.succ ?_
    simp only [pick_best_int.l0, lt_end, Bool.false_eq_true, if_false]
    exact Ev.ret
  | x :: s, p, b, hp, hb => by
    have hb' : b < l.length := by
      rcases hb with h | h
      · exact h
      · cases h
    have hgd : idx l (b : Int) = some (l.getD b 0) := by rw [getD_idx hb', List.getD_eq_getElem?_getD, List.getElem?_eq_getElem hb']; rfl
    have e1 : decide ((p.length : Int) < (l.length : Int)) = true := by rw [hp]; exact lt_at p s x
    have e2 : idx l (p.length : Int) = some x := by rw [hp]; exact idx_at p x s
    have hst := step_at p s x (by rw [← hp, maxLen_val]; omega)
    refine Ev.succ ?_
    simp only [pick_best_int.l0, e1, e2, hgd, if_true, Option.bind_some, Jn, hst]
    have hpl : p.length < l.length := by rw [hp]; simp
    by_cases h : l.getD b 0 < x
    · simp only [h, decide_true, if_true]
      have := best_l0 l hl s (p ++ [x]) p.length (by simp [hp]) (.inl hpl)
      rw [bestF, if_pos h]
      simpa using this
    · simp only [h, decide_false, Bool.false_eq_true, if_false]
      have := best_l0 l hl s (p ++ [x]) b (by simp [hp]) (.inl hb')
      rw [bestF, if_neg h]
      simpa using this
theorem best_ev (l : List Int) (hl : l.length ≤ 9223372036854775000) : Ev (fun k => pick_best_int k l) (bestN l : Int) := by
  have := best_l0 l hl l [] 0 (by simp) (by cases l <;> simp)
  exact this
/-- The first of the greatest. -/
theorem bestF_spec (l : List Int) : ∀ (s p : List Int) (b : Nat), l = p ++ s → b < l.length → (∀ j, j < p.length → l.getD j 0 ≤ l.getD b 0 ∧ (j < b → l.getD j 0 < l.getD b 0)) → (b < p.length ∨ p = [] ∧ b = 0) →
    bestF l p.length b s < l.length ∧ ∀ j, j < l.length → l.getD j 0 ≤ l.getD (bestF l p.length b s) 0 ∧ (j < bestF l p.length b s → l.getD j 0 < l.getD (bestF l p.length b s) 0)
  | [], p, b, hp, hb, hs, _ => by
    simp at hp; subst hp
    exact ⟨hb, hs⟩
  | x :: s, p, b, hp, hb, hs, hbp => by
    have hx : l.getD p.length 0 = x := by rw [hp, List.getD_eq_getElem?_getD]; simp
    have hpl : p.length < l.length := by rw [hp]; simp
    have := bestF_spec l s (p ++ [x]) (if l.getD b 0 < x then p.length else b) (by simp [hp]) (by split <;> assumption) ?_ (by
      left
      split
      · simp
      · rcases hbp with h | ⟨h, h'⟩
        · simp; omega
        · simp [h'])
    · simpa [bestF] using this
    · intro j hj
      simp at hj
      split
      · rename_i hlt
        rw [hx]
        rcases Nat.lt_or_eq_of_le (Nat.le_of_lt_succ hj) with h | h
        · have := hs j h
          exact ⟨by omega, fun _ => by omega⟩
        · subst h
          exact ⟨by omega, fun h => by omega⟩
      · rename_i hlt
        rcases Nat.lt_or_eq_of_le (Nat.le_of_lt_succ hj) with h | h
        · exact hs j h
        · subst h
          rw [hx]
          refine ⟨by omega, fun h => ?_⟩
          rcases hbp with h' | ⟨h', h''⟩
          · omega
          · omega
theorem bestN_spec {l : List Int} (hl : l ≠ []) : bestN l < l.length ∧ ∀ j, j < l.length → l.getD j 0 ≤ l.getD (bestN l) 0 ∧ (j < bestN l → l.getD j 0 < l.getD (bestN l) 0) :=
  bestF_spec l l [] 0 (by simp) (by cases l <;> simp_all) (fun j hj => by simp at hj) (.inr ⟨rfl, rfl⟩)
theorem index_l0 (fs : List File) (q : File → Bool) (a : File → Option Bool) (ha : ∀ x, a x = some (q x)) (hl : fs.length ≤ 9223372036854775000) : ∀ (s p : List File), fs = p ++ s →
    Ev (fun k => slices_IndexFunc_File.l0 fs a k p.length) (match s.findIdx? q with | some i => ((p.length + i : Nat) : Int) | none => -1)
  | [], p, hp => by
    subst hp
    refine Ev.succ ?_
    simp only [slices_IndexFunc_File.l0, lt_end, Bool.false_eq_true, if_false]
    exact Ev.ret
  | x :: s, p, hp => by
    refine Ev.succ ?_
    subst hp
    simp only [slices_IndexFunc_File.l0, lt_at, idx_at, if_true, Option.bind_some, ha, step_at p s x (by rw [maxLen_val]; omega), List.findIdx?_cons]
    by_cases h : q x = true
    · simp only [h, if_true]
      exact Ev.ret
    · simp only [h, if_false, Bool.false_eq_true]
      have := index_l0 (p ++ x :: s) q a ha hl s (p ++ [x]) (by simp)
      refine this.to ?_
      cases s.findIdx? q with
      | none => rfl
      | some i => simp; omega
theorem index_ev (fs : List File) (q : File → Bool) (a : File → Option Bool) (ha : ∀ x, a x = some (q x)) (hl : fs.length ≤ 9223372036854775000) :
    Ev (fun k => slices_IndexFunc_File k fs a) (match fs.findIdx? q with | some i => (i : Int) | none => -1) := by
  have := index_l0 fs q a ha hl fs [] (by simp)
  refine this.to ?_
  cases fs.findIdx? q <;> simp
def zeroF : File := ⟨0, 0, ByteArray.mk #[], ByteArray.mk #[], 0, 0⟩
def fromS (level : Int) (last : List ByteArray) : ByteArray := if level < last.length then last.getD level.toNat (ByteArray.mk #[]) else ByteArray.mk #[]
def firstS (fs : List File) (level : Int) (last : List ByteArray) : File :=
  if 0 < level then (match fs.find? (fun f => !sLt f.Least (fromS level last)) with | some f => f | none => fs.headD zeroF) else fs.headD zeroF
theorem firstS_mem {fs : List File} (h : fs ≠ []) (level : Int) (last : List ByteArray) : firstS fs level last ∈ fs := by
  unfold firstS
  have hd : fs.headD zeroF ∈ fs := by cases fs <;> simp_all
  split
  · split
    · rename_i f hf; exact List.mem_of_find?_eq_some hf
    · exact hd
  · exact hd
theorem first_ev (fs : List File) (hl : fs.length ≤ 9223372036854775000) (hne : fs ≠ []) (level : Int) (h0 : 0 ≤ level) (last : List ByteArray) : Ev (fun k => pick_first k fs level last) (firstS fs level last) := by
  unfold pick_first
  have hhd : idx fs 0 = some (fs.headD zeroF) := by cases fs <;> simp_all [idx]
  have key : ∀ from_, Ev (fun k => Jn ((idx fs 0).bind fun x15 => some x15) (fun J_5 => if (decide (0 < level)) = true then ((slices_IndexFunc_File k fs (fun x0 => pick_first_1 x0 from_)).bind fun r18 => if (decide (0 ≤ r18)) = true then ((idx fs r18).bind fun x21 => some x21) else (J_5)) else (J_5)))
      (if 0 < level then (match fs.find? (fun f => !sLt f.Least from_) with | some f => f | none => fs.headD zeroF) else fs.headD zeroF) := by
    intro from_
    simp only [Jn, hhd, Option.bind_some]
    by_cases hp : 0 < level
    · simp only [hp, decide_true, if_true]
      refine Ev.bind (index_ev fs (fun f => !sLt f.Least from_) _ (fun _ => rfl) hl) ?_
      cases hf : fs.findIdx? (fun f => !sLt f.Least from_) with
      | none =>
        have : fs.find? (fun f => !sLt f.Least from_) = none := by
          rw [List.findIdx?_eq_none_iff] at hf
          rw [List.find?_eq_none]
          intro x hx
          have := hf x hx
          simpa using this
        rw [this]
        have e : decide ((0 : Int) ≤ -1) = false := by decide
        simp only [e, Bool.false_eq_true, if_false]
        exact Ev.ret
      | some i =>
        obtain ⟨hi, h1, h2⟩ := List.findIdx?_eq_some_iff_getElem.1 hf
        have : fs.find? (fun f => !sLt f.Least from_) = some fs[i] := by
          rw [List.find?_eq_some_iff_getElem]
          exact ⟨h1, i, hi, rfl, fun j hj => by simpa using h2 j hj⟩
        rw [this]
        have e : decide ((0 : Int) ≤ (i : Int)) = true := by simp
        simp only [e, if_true, getD_idx hi, Option.bind_some]
        exact Ev.ret
    · simp only [hp, decide_false, Bool.false_eq_true, if_false]
      exact Ev.ret
  unfold firstS fromS
  simp only [Jn] at key ⊢
  by_cases h : level < (last.length : Int)
  · obtain ⟨n, rfl⟩ : ∃ n : Nat, level = n := ⟨level.toNat, by omega⟩
    have hn : n < last.length := by omega
    have hgd : idx last (n : Int) = some (last.getD n (ByteArray.mk #[])) := by rw [getD_idx hn, List.getD_eq_getElem?_getD, List.getElem?_eq_getElem hn]; rfl
    simp only [h, decide_true, if_true, hgd, Option.bind_some, Int.toNat_natCast]
    exact key _
  · simp only [h, decide_false, Bool.false_eq_true, if_false]
    exact key _
theorem grow_eq {n : Int} (h0 : 0 ≤ n) (h1 : n ≤ 4398046511104) : slices_Grow_File_nil n = some [] := by
  unfold slices_Grow_File_nil
  have e1 : decide (n < 0) = false := by simp; omega
  have e2 : w64 (n - (w64 (0 - 0))) = n := by
    have : w64 (0 - 0) = 0 := by decide
    rw [this, w64_of (by omega) (by omega)]; omega
  simp only [e1, Bool.false_eq_true, if_false, Jn, e2]
  by_cases hp : 0 < n
  · have e3 : mkP 4398046511104 n (⟨0, 0, ByteArray.mk #[], ByteArray.mk #[], 0, 0⟩ : File) = some (List.replicate n.toNat ⟨0, 0, ByteArray.mk #[], ByteArray.mk #[], 0, 0⟩) := by
      unfold mkP; rw [if_pos (by omega)]
    simp only [hp, decide_true, if_true, e3, Option.bind_some]
    simp [cut]
    omega
  · simp [hp]
theorem concat_ev (u v : List File) (h : u.length + v.length ≤ 3518437208730) : Ev (fun k => slices_Concat_File k [u, v]) (u ++ v) := by
  unfold slices_Concat_File
  have i0 : idx [u, v] 0 = some u := rfl
  have i1 : idx [u, v] 1 = some v := rfl
  have w1 : w64 (0 + 1) = 1 := by decide
  have w2 : w64 (1 + 1) = 2 := by decide
  have l0 : decide ((0 : Int) < ([u, v].length : Int)) = true := rfl
  have l1 : decide ((1 : Int) < ([u, v].length : Int)) = true := rfl
  have l2 : decide ((2 : Int) < ([u, v].length : Int)) = false := rfl
  have e1 : w64 (0 + (u.length : Int)) = u.length := by rw [w64_of (by omega) (by omega)]; omega
  have e2 : w64 ((u.length : Int) + (v.length : Int)) = (u.length : Int) + v.length := w64_of (by omega) (by omega)
  have n1 : decide ((u.length : Int) < 0) = false := by simp
  have n2 : decide ((u.length : Int) + (v.length : Int) < 0) = false := by simp; omega
  refine Ev.succ ?_
  simp only [slices_Concat_File.l0, l0, i0, if_true, Option.bind_some, e1, n1, Bool.false_eq_true, if_false, w1]
  refine Ev.succ ?_
  simp only [slices_Concat_File.l0, l1, i1, if_true, Option.bind_some, e2, n2, Bool.false_eq_true, if_false, w2]
  refine Ev.succ ?_
  simp only [slices_Concat_File.l0, l2, Bool.false_eq_true, if_false, Jn]
  rw [grow_eq (by omega) (by omega)]
  refine Ev.bind0 rfl ?_
  refine Ev.succ ?_
  simp only [slices_Concat_File.l1, l0, i0, if_true, Option.bind_some, pushN_ok (show ([] : List File).length + u.length ≤ 3518437208730 by simp; omega), w1, List.nil_append]
  refine Ev.succ ?_
  simp only [slices_Concat_File.l1, l1, i1, if_true, Option.bind_some, pushN_ok h, w2]
  refine Ev.succ ?_
  simp only [slices_Concat_File.l1, l2, Bool.false_eq_true, if_false]
  exact Ev.ret
def eqlB : List File → List File → Bool
  | [], [] => true
  | x :: u, y :: v => File.eqb x y && eqlB u v
  | _, _ => false
theorem eqlB_iff : ∀ {u v : List File}, eqlB u v = true ↔ u = v
  | [], [] => by simp [eqlB]
  | [], _ :: _ => by simp [eqlB]
  | _ :: _, [] => by simp [eqlB]
  | x :: u, y :: v => by simp [eqlB, eqb_iff, eqlB_iff (u := u) (v := v)]
theorem equal_l0 (a b : List File) (hab : a.length = b.length) (hl : a.length ≤ 9223372036854775000) : ∀ (u v p q : List File), a = p ++ u → b = q ++ v → p.length = q.length → Ev (fun k => slices_Equal_File.l0 a b k p.length) (eqlB u v)
  | [], v, p, q, hp, hq, he => by
    have : v = [] := by
      rw [hp, hq] at hab
      simp at hab
      exact List.eq_nil_of_length_eq_zero (by omega)
    subst this
    subst hp
    refine Ev.succ ?_
    simp only [slices_Equal_File.l0, lt_end, Bool.false_eq_true, if_false]
    exact Ev.ret
  | x :: u, [], p, q, hp, hq, he => by
    rw [hp, hq] at hab
    simp at hab
    omega
  | x :: u, y :: v, p, q, hp, hq, he => by
    have e1 : decide ((p.length : Int) < (a.length : Int)) = true := by rw [hp]; exact lt_at p u x
    have e2 : idx a (p.length : Int) = some x := by rw [hp]; exact idx_at p x u
    have e3 : idx b (p.length : Int) = some y := by rw [hq, he]; exact idx_at q y v
    refine Ev.succ ?_
    simp only [slices_Equal_File.l0, e1, e2, e3, if_true, Option.bind_some, step_at p u x (by rw [← hp, maxLen_val]; omega), eqlB]
    by_cases h : File.eqb x y = true
    · simp only [h, Bool.not_true, Bool.false_eq_true, if_false, Bool.true_and]
      exact equal_l0 a b hab hl u v (p ++ [x]) (q ++ [y]) (by simp [hp]) (by simp [hq]) (by simp [he])
    · have h' := Bool.eq_false_iff.2 h
      simp only [h', Bool.not_false, if_true, Bool.false_and]
      exact Ev.ret
theorem equal_ev (a b : List File) (hl : a.length ≤ 9223372036854775000) : Ev (fun k => slices_Equal_File k a b) (eqlB a b) := by
  unfold slices_Equal_File
  by_cases h : a.length = b.length
  · have e : ((a.length : Int) != (b.length : Int)) = false := by simp [h]
    simp only [e, Bool.false_eq_true, if_false]
    exact equal_l0 a b h hl a b [] [] (by simp) (by simp) rfl
  · have e : ((a.length : Int) != (b.length : Int)) = true := by simp; omega
    simp only [e, if_true]
    refine Ev.ret.to ?_
    cases hh : eqlB a b with
    | false => rfl
    | true => exact absurd (congrArg List.length (eqlB_iff.1 hh)) h
theorem bytes_l0 (fs : List File) (hl : fs.length ≤ 9223372036854775000) : ∀ (s p : List File) (n : Int), fs = p ++ s → Ev (fun k => pick_size.l0 fs k n p.length) (s.foldl (fun n f => w64 (n + f.Size)) n)
  | [], p, n, hp => by
    subst hp
    refine Ev.succ ?_
    simp only [pick_size.l0, lt_end, Bool.false_eq_true, if_false]
    exact Ev.ret
  | f :: s, p, n, hp => by
    refine Ev.succ ?_
    subst hp
    simp only [pick_size.l0, lt_at, idx_at, if_true, Option.bind_some, step_at p s f (by rw [maxLen_val]; omega)]
    have := bytes_l0 (p ++ f :: s) hl s (p ++ [f]) (w64 (n + f.Size)) (by simp)
    simpa using this
theorem bytes_ev (fs : List File) (hl : fs.length ≤ 9223372036854775000) : Ev (fun k => pick_size k fs) (sizeS fs) := bytes_l0 fs hl fs [] 0 (by simp)
end Go.Proofs.Ytckjpkecipgeiaa.Mo
