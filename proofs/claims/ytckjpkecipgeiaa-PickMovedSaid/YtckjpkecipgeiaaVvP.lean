import Derived.Test.YtckjpkecipgeiaaVPx
import Derived.Test.YtckjpkecipgeiaaSySt
import Derived.Test.YtckjpkecipgeiaaPkID
import Derived.KernelRfl
import Derived.Test.YtckjpkecipgeiaaPkSt
import Derived.Test.YtckjpkecipgeiaaSyUq
set_option linter.unusedVariables false
set_option linter.unusedSectionVars false
set_option linter.unusedSimpArgs false
set_option maxRecDepth 100000
namespace Go.Proofs.Ytckjpkecipgeiaa.Mo
open Go Go.Proofs.Ytckjpkecipgeiaa.Sy
theorem upd_at {α : Type} (p r : List α) (y z : α) : upd (p ++ y :: r) (p.length : Int) z = some (p ++ z :: r) := by
  unfold upd
  rw [if_pos (by simp; omega)]
  simp
theorem idx_l {l : List (List File)} {p s : List (List File)} {fs : List File} (hp : l = p ++ fs :: s) : idx l (p.length : Int) = some fs := by rw [hp]; exact idx_at p fs s
end Go.Proofs.Ytckjpkecipgeiaa.Mo
set_option maxRecDepth 100000
namespace Go.Proofs.Ytckjpkecipgeiaa.Mo
open Go Go.Proofs.Ytckjpkecipgeiaa.Sy
theorem nodup_len : ∀ (n : Nat) (l : List Int), l.Nodup → (∀ x ∈ l, 1 ≤ x ∧ x ≤ (n : Int)) → l.length ≤ n
  | 0, l, _, h => by
    cases l with
    | nil => simp
    | cons x r => have := h x (by simp); omega
  | n + 1, l, hd, h => by
    have h1 : (l.erase ((n : Int) + 1)).length ≤ n := nodup_len n _ (hd.erase _) fun x hx => by
      have hm := hd.mem_erase_iff.1 hx
      have := h x hm.2
      omega
    have h2 := List.length_erase (a := ((n : Int) + 1)) (l := l)
    split at h2 <;> omega
theorem valid_len {l : List (List File)} (hv : validB l = true) : l.flatten.length ≤ 2147483647 := by
  obtain ⟨_, _, ho, hn⟩ := validB_iff.1 hv
  have := nodup_len 2147483647 (nums l.flatten) hn fun x hx => by
    obtain ⟨f, hf, rfl⟩ := List.mem_map.1 hx
    obtain ⟨fs, hfs, hf⟩ := List.mem_flatten.1 hf
    obtain ⟨j, hj⟩ := List.getElem?_of_mem hfs
    have := okF_may (okL_get ho hj) f hf
    have := (may_iff.1 this).1
    omega
  rwa [nums, List.length_map] at this
theorem len_le_flatten {α : Type} : ∀ {l : List (List α)} {y : List α}, y ∈ l → y.length ≤ l.flatten.length
  | x :: l, y, h => by
    rcases List.mem_cons.1 h with rfl | h
    · rw [List.flatten_cons, List.length_append]; omega
    · have := len_le_flatten h
      rw [List.flatten_cons, List.length_append]; omega
theorem ofS_le (l : List (List File)) (i : Int) : (ofS l i).length ≤ 2147483647 := by
  unfold ofS
  split
  · simp
  · rename_i h
    have hv : validB l = true := by
      cases hv : validB l with
      | true => rfl
      | false => exact absurd (by simp [hv]) h
    rw [List.getD_eq_getElem?_getD]
    cases hg : l[i.toNat]? with
    | none => simp
    | some y =>
      have := len_le_flatten (List.mem_of_getElem? hg)
      have := valid_len hv
      simp only [Option.getD_some]
      omega
theorem ofS_bad {l : List (List File)} (h : validB l = false) (i : Int) : ofS l i = [] := by simp [ofS, h]
theorem valid_ne {l : List (List File)} {i : Int} (h : ofS l i ≠ []) : validB l = true := by
  cases hv : validB l with
  | true => rfl
  | false => exact absurd (ofS_bad hv i) h
def bearsB (f : File) (key : ByteArray) : Bool := (sLt f.Least key || sEq f.Least key) && (sLt key f.Limit)
theorem bears_iff {f : File} {key : ByteArray} : bearsB f key = true ↔ sle f.Least key ∧ slt key f.Limit := by
  unfold bearsB
  rw [sLe_dec, sLt_dec]
  simp
def askI (i : Int) (key : ByteArray) (fs : List File) : List Place := (fs.filter fun f => bearsB f key).map fun f => ⟨i, f.Number⟩
theorem askI_len (i : Int) (key : ByteArray) (fs : List File) : (askI i key fs).length ≤ fs.length := by
  simp only [askI, List.length_map]
  exact List.length_filter_le _ _
/-- What the levels from j on add, n of them. -/
def askR (l : List (List File)) (key : ByteArray) : Nat → Nat → List Place
  | _, 0 => []
  | j, n + 1 => askI (j : Int) key (ofS l (j : Int)) ++ askR l key (j + 1) n
def asksS (l : List (List File)) (key : ByteArray) : List Place := askI 0 key (ofS l 0).reverse ++ askR l key 1 (l.length - 1)
end Go.Proofs.Ytckjpkecipgeiaa.Mo
set_option maxRecDepth 100000
namespace Go.Proofs.Ytckjpkecipgeiaa.Mo
open Go Go.Proofs.Ytckjpkecipgeiaa.Sy
theorem ofS_okF {l : List (List File)} {i : Nat} : okF i none (ofS l (i : Int)) = true := by
  unfold ofS
  split
  · rfl
  · rename_i h
    have hv : validB l = true := by
      cases hv : validB l with
      | true => rfl
      | false => exact absurd (by simp [hv]) h
    rw [List.getD_eq_getElem?_getD, Int.toNat_natCast]
    cases hg : l[i]? with
    | none => rfl
    | some y => simpa using okL_get (validB_iff.1 hv).2.2.1 hg
/-- In a level but the first: the files' limits rise. -/
theorem okF_lim {i : Nat} (hi : 0 < i) : ∀ {s : List File} {pv : Option File}, okF i pv s = true → (∀ q, pv = some q → ∀ f ∈ s, sle q.Limit f.Least) ∧ s.Pairwise fun a b => sle a.Limit b.Least
  | [], pv, _ => ⟨fun _ _ f h => absurd h (by simp), List.Pairwise.nil⟩
  | f :: s, pv, h => by
    simp only [okF, Bool.and_eq_true, Bool.not_eq_true'] at h
    obtain ⟨hm, hb, hs⟩ := h
    obtain ⟨h1, h2⟩ := okF_lim hi hs
    have hf : slt f.Least f.Limit := (may_iff.1 hm).2.2.2.1
    refine ⟨fun q hq g hg => ?_, List.pairwise_cons.2 ⟨fun g hg => h1 f rfl g hg, h2⟩⟩
    subst hq
    have hqf : sle q.Limit f.Least := by
      simp only [badO, bad, if_neg (show i ≠ 0 by omega), sLe_dec] at hb
      simpa using hb
    rcases List.mem_cons.1 hg with rfl | hg
    · exact hqf
    · exact sle_trans hqf (sle_trans (sle_of_lt hf) (h1 f rfl g hg))
/-- The file that the search finds is the only one that can bear. -/
theorem ask_cut {key : ByteArray} {p s : List File} (hp : ∀ f ∈ p, sle f.Limit key) : (p ++ s).filter (fun f => bearsB f key) = s.filter fun f => bearsB f key := by
  rw [List.filter_append, List.filter_eq_nil_iff.2 (fun f hf h => (hp f hf) (bears_iff.1 h).2), List.nil_append]
theorem ask_one {key : ByteArray} {x : File} {s : List File} (hx : slt key x.Limit) (hs : ∀ f ∈ s, sle x.Limit f.Least) : (x :: s).filter (fun f => bearsB f key) = if sle x.Least key then [x] else [] := by
  have h0 : s.filter (fun f => bearsB f key) = [] := List.filter_eq_nil_iff.2 fun f hf h => (bears_iff.1 h).1 (slt_of_lt_le hx (hs f hf))
  by_cases h : sle x.Least key
  · have hb : bearsB x key = true := bears_iff.2 ⟨h, hx⟩
    rw [if_pos h, List.filter_cons]
    simp only [hb, if_true, h0]
  · have hb : ¬ bearsB x key = true := fun hb => h (bears_iff.1 hb).1
    rw [if_neg h, List.filter_cons, if_neg hb, h0]
theorem vask_l1 (key : ByteArray) (fs : List File) (hl : fs.length ≤ 2147483647) (hs : fs.Pairwise fun a b => sle a.Limit b.Least) (hm : ∀ f ∈ fs, slt f.Least f.Limit) :
    ∃ t : Nat, t ≤ fs.length ∧ (∀ f ∈ fs.take t, sle f.Limit key) ∧ (∀ x, fs[t]? = some x → slt key x.Limit) ∧ EvC (fun (J : Int → Option (List Place)) k => version_Asks.l1 key fs J k 0 (fs.length : Int)) (t : Int) := by
  have hmono : ∀ (a b : Nat) (x y : File), a ≤ b → fs[a]? = some x → fs[b]? = some y → sle x.Limit y.Limit := by
    intro a b x y hab ha hb
    by_cases e : a = b
    · subst e
      have : x = y := Option.some.inj (ha.symm.trans hb)
      subst this
      exact sle_refl _
    · obtain ⟨ha', rfl⟩ := List.getElem?_eq_some_iff.1 ha
      obtain ⟨hb', rfl⟩ := List.getElem?_eq_some_iff.1 hb
      have := List.pairwise_iff_getElem.1 hs a b ha' hb' (by omega)
      exact sle_trans this (sle_of_lt (hm _ (List.getElem_mem _)))
  obtain ⟨t, _, h2, h3, h4, h5⟩ := bsearch (R := List Place) (fun i => ∃ x, fs[i]? = some x ∧ sle x.Limit key) (fun J k i j => version_Asks.l1 key fs J k i j) 0 fs.length
    (fun J k i => by simp only [version_Asks.l1, Int.lt_irrefl, decide_false, Bool.false_eq_true, if_false])
    (fun J k i j _ hij hj => by
      have hm := mid_eq (i := i) (j := j) (by omega)
      have hlt : (i + j) / 2 < fs.length := by omega
      simp only [version_Asks.l1, decT hij, if_true, hm, getD_idx hlt, Option.bind_some, Jn, sLe_dec, Bool.not_not]
      have e : (∃ x, fs[(i + j) / 2]? = some x ∧ sle x.Limit key) ↔ sle (fs[(i + j) / 2]).Limit key := by
        rw [List.getElem?_eq_getElem hlt]; simp
      simp only [e, decide_eq_true_eq]
      rw [w64_of (x := (((i + j) / 2 : Nat) : Int) + 1) (by omega) (by omega)]
      rfl)
    fs.length 0 fs.length (by omega) (by omega) (by omega) (by omega) (.inl rfl) (.inl rfl)
  refine ⟨t, h2, fun f hf => ?_, fun x hx => ?_, h5⟩
  · rcases h3 with h3 | ⟨y, hy, hyk⟩
    · subst h3; simp at hf
    · obtain ⟨i, hi⟩ := List.getElem?_of_mem hf
      rw [List.getElem?_take] at hi
      split at hi
      · exact sle_trans (hmono i (t - 1) f y (by omega) hi hy) hyk
      · cases hi
  · rcases h4 with h4 | h4
    · subst h4; simp at hx
    · refine Classical.byContradiction fun hc => h4 ⟨x, hx, hc⟩
theorem vask_l0 (l : List (List File)) (hg : goodL l) (key : ByteArray) : ∀ (n j : Nat) (acc : List Place), 0 < j → j + n = l.length → (validB l = true → acc.length ≤ j * 2147483647) → (validB l = false → acc.length ≤ 2147483647) → Ev (fun k => version_Asks.l0 l key k acc j) (acc ++ askR l key j n)
  | 0, j, acc, hj0, hj, h1, h0 => by
    refine Ev.succ ?_
    simp only [version_Asks.l0, decF (show l.length ≤ j by omega), Bool.false_eq_true, if_false]
    simpa [askR] using Ev.ret
  | n + 1, j, acc, hj0, hj, h1, h0 => by
    have hj' := hg.2
    refine Ev.succ ?_
    simp only [version_Asks.l0, decT (show j < l.length by omega), if_true, Jn]
    refine Ev.bind (of_ev l hg j) ?_
    have hle := ofS_le l j
    have hok : okF j none (ofS l (j : Int)) = true := ofS_okF
    have hpw := (okF_lim hj0 hok).2
    have hmm : ∀ f ∈ ofS l (j : Int), slt f.Least f.Limit := fun f hf => (may_iff.1 (okF_may hok f hf)).2.2.2.1
    have hw : w64 ((j : Int) + 1) = ((j + 1 : Nat) : Int) := by rw [w64_of (by omega) (by omega)]; omega
    have hb : acc.length + (ofS l (j : Int)).length ≤ 14073748835378 := by
      cases hv : validB l with
      | true =>
        have := h1 hv
        have := (validB_iff.1 hv).2.1
        have : j * 2147483647 ≤ 7 * 2147483647 := Nat.mul_le_mul_right _ (by omega)
        omega
      | false =>
        have := h0 hv
        rw [ofS_bad hv]
        simp; omega
    have next : ∀ acc', acc' = acc ++ askI (j : Int) key (ofS l (j : Int)) → Ev (fun k => version_Asks.l0 l key k acc' (w64 ((j : Int) + 1))) (acc ++ askR l key j (n + 1)) := fun acc' he => by
      rw [hw, askR, ← List.append_assoc, ← he]
      refine vask_l0 l hg key n (j + 1) acc' (by omega) (by omega) (fun hv => ?_) (fun hv => ?_)
      · have := h1 hv
        have := askI_len j key (ofS l (j : Int))
        rw [he, List.length_append, Nat.add_mul]
        omega
      · rw [he, ofS_bad hv]
        simpa [askI] using h0 hv
    obtain ⟨t, ht, hp, hx, he⟩ := vask_l1 key (ofS l j) hle hpw hmm
    refine he.ev ?_
    by_cases htl : t < (ofS l (j : Int)).length
    · have hspl : ofS l (j : Int) = (ofS l (j : Int)).take t ++ (ofS l (j : Int))[t] :: (ofS l (j : Int)).drop (t + 1) := by
        rw [← List.drop_eq_getElem_cons htl, List.take_append_drop]
      have hxx := hx _ (List.getElem?_eq_getElem htl)
      have hs' : ∀ f ∈ (ofS l (j : Int)).drop (t + 1), sle (ofS l (j : Int))[t].Limit f.Least := fun f hf => by
        rw [hspl] at hpw
        exact (List.pairwise_cons.1 (List.pairwise_append.1 hpw).2.1).1 f hf
      have hask : askI (j : Int) key (ofS l (j : Int)) = if sle (ofS l (j : Int))[t].Least key then [⟨j, (ofS l (j : Int))[t].Number⟩] else [] := by
        unfold askI
        conv => lhs; rw [hspl]
        rw [ask_cut hp, ask_one hxx hs']
        by_cases h : sle (ofS l (j : Int))[t].Least key <;> simp [h]
      simp only [decT htl, if_true, getD_idx htl, Option.bind_some, sLe_dec]
      by_cases h : sle (ofS l (j : Int))[t].Least key
      · simp only [h, decide_true, if_true, push_ok (show acc.length < 14073748835379 by omega), Option.bind_some]
        exact next _ (by rw [hask, if_pos h])
      · simp only [h, decide_false, Bool.false_eq_true, if_false]
        exact next _ (by rw [hask, if_neg h]; simp)
    · have htl' : (ofS l (j : Int)).length ≤ t := by omega
      simp only [decF htl', Bool.false_eq_true, if_false]
      refine next _ ?_
      have : askI (j : Int) key (ofS l (j : Int)) = [] := by
        have e : ofS l (j : Int) = (ofS l (j : Int)).take t ++ [] := by rw [List.append_nil, List.take_of_length_le htl']
        unfold askI
        rw [e, ask_cut hp]; rfl
      rw [this, List.append_nil]
theorem vask_l2 (key : ByteArray) (fs : List File) (hl : fs.length ≤ 2147483647) (J : Nat → List Place → Option (List Place)) (r : List Place) (hJ : Ev (fun k => J k (askI 0 key fs.reverse)) r) : ∀ (n : Nat) (p s : List File) (acc : List Place) (i : Int), p.length = n → fs = p ++ s → i = (p.length : Int) - 1 → acc = askI 0 key s.reverse → Ev (fun k => version_Asks.l2 key (J k) fs k i acc) r := by
  intro n
  induction n generalizing J with
  | zero =>
    intro p s acc i hn hp hi ha
    have : p = [] := List.eq_nil_of_length_eq_zero hn
    subst this
    have hi' : decide ((0 : Int) ≤ i) = false := by rw [hi]; simp
    refine Ev.succ ?_
    simp only [version_Asks.l2, hi', Bool.false_eq_true, if_false]
    rw [ha]
    rw [List.nil_append] at hp
    rw [← hp]
    exact hJ.shift
  | succ n ih =>
    intro p s acc i hn hp hi ha
    rcases nil_or_snoc p with rfl | ⟨p, f, rfl⟩
    · simp at hn
    · simp only [List.length_append, List.length_singleton] at hn hi
      have hl0 := hl
      rw [hp] at hl0
      simp only [List.length_append, List.length_singleton] at hl0
      have hi0 : i = (p.length : Int) := by rw [hi]; omega
      have h1 : decide ((0 : Int) ≤ i) = true := decide_eq_true (by omega)
      have h2 : idx fs i = some f := by rw [hp, hi0]; simpa using idx_at p f s
      refine Ev.succ ?_
      have hsl : acc.length < 14073748835379 := by
        have := askI_len 0 key s.reverse
        rw [ha]
        simp at this
        omega
      have hw : w64 (i - 1) = (p.length : Int) - 1 := by rw [hi0]; exact w64_of (by omega) (by omega)
      have e : askI 0 key (f :: s).reverse = askI 0 key s.reverse ++ (if bearsB f key = true then [⟨0, f.Number⟩] else []) := by
        simp only [askI, List.reverse_cons, List.filter_append, List.map_append]
        by_cases h : bearsB f key = true <;> simp [h]
      have hb : ((sLt f.Least key || sEq f.Least key) && (sLt key f.Limit)) = bearsB f key := rfl
      simp only [version_Asks.l2, h1, h2, if_true, Option.bind_some, Jn, hw, hb, Bool.not_true, Bool.false_eq_true, if_false]
      by_cases h : bearsB f key = true
      · simp only [h, if_true, push_ok hsl, Option.bind_some]
        exact ih (fun k => J (k + 1)) hJ.shift p (f :: s) _ _ (by omega) (by simp [hp]) rfl (by rw [e, ha]; simp [h])
      · simp only [h, if_false]
        exact ih (fun k => J (k + 1)) hJ.shift p (f :: s) _ _ (by omega) (by simp [hp]) rfl (by rw [e, ha]; simp [h])
theorem asks_ev (l : List (List File)) (hg : goodL l) (key : ByteArray) : Ev (fun k => version_Asks k l key) (asksS l key) := by
  unfold version_Asks
  simp only [Jn]
  refine Ev.bind (of_ev l hg 0) ?_
  have hle := ofS_le l 0
  have hw : w64 (((ofS l 0).length : Int) - 1) = ((ofS l 0).length : Int) - 1 := w64_of (by omega) (by omega)
  rw [hw]
  refine vask_l2 key (ofS l 0) hle (fun k l_60 => version_Asks.l0 l key k l_60 1) _ ?_ _ (ofS l 0) [] [] _ rfl (by simp) rfl rfl
  have hal := askI_len 0 key (ofS l 0).reverse
  rw [List.length_reverse] at hal
  cases hq : l with
  | nil =>
    have e : ofS ([] : List (List File)) 0 = [] := by simp [ofS, validB]
    refine Ev.succ ?_
    have : asksS [] key = [] := by simp [asksS, ofS, validB, askI, askR]
    have h2 : decide ((1 : Int) < (([] : List (List File)).length : Int)) = false := by decide
    simp only [version_Asks.l0, e, this, h2, Bool.false_eq_true, if_false]
    exact Ev.ret
  | cons x y =>
    have hlq : 1 + (l.length - 1) = l.length := by rw [hq]; simp; omega
    rw [← hq]
    exact vask_l0 l hg key (l.length - 1) 1 _ (by omega) hlq (fun _ => by omega) (fun _ => by omega)
end Go.Proofs.Ytckjpkecipgeiaa.Mo
set_option maxRecDepth 100000
namespace Go.Proofs.Ytckjpkecipgeiaa.Mo
open Go Go.Proofs.Ytckjpkecipgeiaa.Sy
def findG (n : Int) : Nat → List (List File) → Int × File × Bool
  | _, [] => (0, zeroF, false)
  | i, fs :: r => match fs.find? fun f => f.Number == n with
    | some f => ((i : Int), f, true)
    | none => findG n (i + 1) r
def findS (l : List (List File)) (n : Int) : Int × File × Bool := if validB l = true then findG n 0 l else (0, zeroF, false)
theorem vfind_l1 (n i : Int) (fs : List File) (hl : fs.length ≤ 9223372036854775000) : ∀ (s p : List File), fs = p ++ s → ∀ (J : Nat → Option (Int × File × Bool)) r, (∀ f, (s.find? fun f => f.Number == n) = some f → r = (i, f, true)) → ((s.find? fun f => f.Number == n) = none → Ev J r) →
    Ev (fun k => version_Find.l1 n (fun (i_63 : Int) (i_64 : Int) (i_65 : Int) (s_66 : ByteArray) (s_67 : ByteArray) (i_68 : Int) (i_69 : Int) (b_70 : Bool) => some (i_63, (⟨i_64, i_65, s_66, s_67, i_68, i_69⟩ : File), b_70)) i (J k) fs k p.length) r
  | [], p, hp, J, r, h1, h2 => by
    subst hp
    refine Ev.succ ?_
    simp only [version_Find.l1, lt_end, Bool.false_eq_true, if_false]
    exact (h2 rfl).shift
  | f :: s, p, hp, J, r, h1, h2 => by
    refine Ev.succ ?_
    subst hp
    simp only [version_Find.l1, lt_at, idx_at, if_true, Option.bind_some, step_at p s f (by rw [maxLen_val]; omega)]
    by_cases h : (f.Number == n) = true
    · simp only [h, if_true]
      rw [h1 f (by simp [h])]
      exact Ev.ret
    · simp only [h, if_false]
      refine vfind_l1 n i (p ++ f :: s) hl s (p ++ [f]) (by simp) (fun k => J (k + 1)) r (fun g hg => h1 g ?_) (fun hg => (h2 ?_).shift)
      · simp only [List.find?_cons, h]; exact hg
      · simp only [List.find?_cons, h]; exact hg
theorem vfind_l0 (l : List (List File)) (hg : goodL l) (n : Int) : ∀ (s p : List (List File)), l = p ++ s → Ev (fun k => version_Find.l0 l n (fun (i_63 : Int) (i_64 : Int) (i_65 : Int) (s_66 : ByteArray) (s_67 : ByteArray) (i_68 : Int) (i_69 : Int) (b_70 : Bool) => some (i_63, (⟨i_64, i_65, s_66, s_67, i_68, i_69⟩ : File), b_70)) k p.length) (findG n p.length s)
  | [], p, hp => by
    subst hp
    refine Ev.succ ?_
    simp only [version_Find.l0, lt_end, Bool.false_eq_true, if_false]
    exact Ev.ret
  | fs :: s, p, hp => by
    have hl2 := hg.2
    have hfs : fs.length ≤ 2199023255552 := (hg.1 fs (by rw [hp]; simp)).1
    subst hp
    refine Ev.succ ?_
    simp only [version_Find.l0, lt_at, idx_at, if_true, Option.bind_some, step_at p s fs (by rw [maxLen_val]; omega), Jn]
    refine vfind_l1 n p.length fs (by omega) fs [] (by simp) (fun k => version_Find.l0 (p ++ fs :: s) n _ k ((p ++ [fs]).length : Int)) _ (fun f hf => by simp [findG, hf]) (fun hf => ?_)
    have := vfind_l0 (p ++ fs :: s) hg n s (p ++ [fs]) (by simp)
    simpa [findG, hf] using this
theorem find_ev (l : List (List File)) (hg : goodL l) (n : Int) : Ev (fun k => version_Find k l n) (findS l n) := by
  unfold version_Find findS
  refine Ev.bind (valid_ev l hg) ?_
  cases hv : validB l with
  | false =>
    simp only [Bool.not_false, if_true, Bool.false_eq_true, if_false]
    exact Ev.ret
  | true =>
    simp only [Bool.not_true, Bool.false_eq_true, if_false, if_true, Jn]
    exact vfind_l0 l hg n l [] (by simp)
theorem ofS_at {l p s : List (List File)} {fs : List File} (hp : l = p ++ fs :: s) (hv : validB l = true) : ofS l (p.length : Int) = fs := ofS_valid hv (by rw [hp]; simp)
end Go.Proofs.Ytckjpkecipgeiaa.Mo
set_option maxRecDepth 100000
namespace Go.Proofs.Ytckjpkecipgeiaa.Mo
open Go Go.Proofs.Ytckjpkecipgeiaa.Sy
theorem less_int (x y : Int) : cmp_Less_int x y = some (decide (x < y)) := by
  simp [cmp_Less_int, cmp_isNaN_int, Jn]
theorem wo_int : Wo (fun x y : Int => x < y) := ⟨fun x y h k => by omega, fun x y z h k => by omega⟩
theorem vnum_l1 (fs : List File) (hf : fs.length ≤ 2199023255552) : ∀ (s p : List File) (acc : List Int), fs = p ++ s → acc.length + s.length ≤ 28147497670000 →
    ∀ (J : Nat → List Int → Option (List Int)) b, Ev (fun k => J k (acc ++ nums s)) b → Ev (fun k => version_Numbers.l1 (J k) fs k acc p.length) b
  | [], p, acc, hp, hb, J, b, hJ => by
    refine Ev.succ ?_
    subst hp
    simp only [version_Numbers.l1, lt_end, Bool.false_eq_true, if_false]
    simpa [nums] using hJ.shift
  | f :: s, p, acc, hp, hb, J, b, hJ => by
    refine Ev.succ ?_
    subst hp
    simp only [List.length_cons] at hb
    simp only [version_Numbers.l1, lt_at, idx_at, if_true, Option.bind_some, push_ok (show acc.length < 28147497670912 by omega), step_at p s f (by rw [maxLen_val]; omega)]
    refine vnum_l1 (p ++ f :: s) hf s (p ++ [f]) (acc ++ [f.Number]) (by simp) (by simp; omega) (fun k => J (k + 1)) b ?_
    simpa [nums] using hJ.shift
theorem vnum_l0 (l : List (List File)) (hg : goodL l) (h7 : l.length ≤ 7) (r : List Int) (hr : Ev (fun k => slices_Sort_int k (nums l.flatten)) r) : ∀ (s p : List (List File)) (acc : List Int), l = p ++ s → acc = nums p.flatten → acc.length + s.flatten.length ≤ 2147483647 →
    Ev (fun k => version_Numbers.l0 l k acc p.length) r
  | [], p, acc, hp, ha, hb => by
    refine Ev.succ ?_
    have e1 : decide ((p.length : Int) < (l.length : Int)) = false := by rw [hp]; exact lt_end p
    simp only [version_Numbers.l0, e1, Bool.false_eq_true, if_false]
    rw [List.append_nil] at hp
    rw [ha, ← hp]
    exact Ev.bind hr Ev.ret
  | fs :: s, p, acc, hp, ha, hb => by
    have hfs := (hg.1 fs (by rw [hp]; simp)).1
    rw [List.flatten_cons, List.length_append] at hb
    have e1 : decide ((p.length : Int) < (l.length : Int)) = true := by rw [hp]; exact lt_at p s fs
    refine Ev.succ ?_
    simp only [version_Numbers.l0, e1, if_true, Jn, idx_l hp, Option.bind_some, step_at p s fs (by rw [← hp, maxLen_val]; omega)]
    refine vnum_l1 fs hfs fs [] acc (by simp) (by omega) (fun k l_224 => version_Numbers.l0 l k l_224 ((p ++ [fs]).length : Int)) r ?_
    refine vnum_l0 l hg h7 r hr s (p ++ [fs]) (acc ++ nums fs) (by simp [hp]) (by simp [ha, nums]) ?_
    simp only [List.length_append, nums, List.length_map]
    omega
end Go.Proofs.Ytckjpkecipgeiaa.Mo
set_option maxRecDepth 100000
namespace Go.Proofs.Ytckjpkecipgeiaa.Mo
open Go Go.Proofs.Ytckjpkecipgeiaa.Sy
def cntB (key : ByteArray) (fs : List File) : Nat := fs.countP fun f => bearsB f key
theorem askI_cnt (i : Int) (key : ByteArray) (fs : List File) : (askI i key fs).length = cntB key fs := by
  simp [askI, cntB, List.countP_eq_length_filter]
theorem askR_cnt {l : List (List File)} (hv : validB l = true) (key : ByteArray) : ∀ (s p : List (List File)), l = p ++ s → (askR l key p.length s.length).length = cntB key s.flatten
  | [], p, hp => rfl
  | fs :: s, p, hp => by
    have := askR_cnt hv key s (p ++ [fs]) (by simp [hp])
    rw [List.length_append, List.length_singleton] at this
    simp only [List.length_cons, askR, List.length_append, askI_cnt, ofS_at hp hv, this, List.flatten_cons, cntB, List.countP_append]
theorem asksS_cnt {l : List (List File)} (hv : validB l = true) (key : ByteArray) : (asksS l key).length = cntB key l.flatten := by
  cases l with
  | nil => exact absurd hv (by decide)
  | cons x s =>
    have h1 := askR_cnt hv key s [x] rfl
    have h0 : ofS (x :: s) 0 = x := ofS_at (p := []) rfl hv
    rw [asksS, List.length_append, askI_cnt, h0]
    simp only [List.length_singleton] at h1
    have e : (x :: s).length - 1 = s.length := by simp
    rw [e, h1]
    simp only [cntB, List.flatten_cons, List.countP_append, List.countP_reverse]
def after (a b : Place) : Prop := a.Level ≤ b.Level ∧ (a.Level = b.Level → ¬ 0 < b.Level ∧ b.Number < a.Number)
theorem okF0_rise : ∀ {s : List File} {pv : Option File}, okF 0 pv s = true → (∀ q, pv = some q → ∀ f ∈ s, q.Number < f.Number) ∧ s.Pairwise fun a b => a.Number < b.Number
  | [], pv, _ => ⟨fun _ _ f h => absurd h (by simp), List.Pairwise.nil⟩
  | f :: s, pv, h => by
    simp only [okF, Bool.and_eq_true, Bool.not_eq_true'] at h
    obtain ⟨hm, hb, hs⟩ := h
    obtain ⟨h1, h2⟩ := okF0_rise hs
    refine ⟨fun q hq g hg => ?_, List.pairwise_cons.2 ⟨fun g hg => h1 f rfl g hg, h2⟩⟩
    subst hq
    have hqf : q.Number < f.Number := by
      simp only [badO, bad, if_true] at hb
      simpa using hb
    rcases List.mem_cons.1 hg with rfl | hg
    · exact hqf
    · have := h1 f rfl g hg
      omega
theorem findG_at {n : Int} {f : File} : ∀ {l : List (List File)} {i j : Nat} {fs : List File}, (nums l.flatten).Nodup → l[j]? = some fs → f ∈ fs → f.Number = n → findG n i l = (((i + j : Nat) : Int), f, true)
  | x :: l, i, j, fs, hd, hj, hf, hn => by
    have hd' : (nums x ++ nums l.flatten).Nodup := by simpa [nums] using hd
    obtain ⟨d1, d2, d3⟩ := List.nodup_append.1 hd'
    cases j with
    | zero =>
      have : x = fs := by simpa using hj
      subst this
      have hfind : (x.find? fun f => f.Number == n) = some f := by
        cases h : x.find? fun f => f.Number == n with
        | none => exact absurd (List.find?_eq_none.1 h f hf) (by simp [hn])
        | some g =>
          have hg := List.mem_of_find?_eq_some h
          have hgn : g.Number = n := by simpa using List.find?_some h
          obtain ⟨a, b, e, hnb⟩ := List.mem_iff_append.1 hf |>.elim fun a h => h.elim fun b h => (⟨a, b, h, trivial⟩ : ∃ a b, x = a ++ f :: b ∧ True)
          rw [e] at hg d1
          have d1' : (nums a ++ f.Number :: nums b).Nodup := by simpa [nums] using d1
          obtain ⟨_, e2, e3⟩ := List.nodup_append.1 d1'
          rcases List.mem_append.1 hg with hg | hg
          · exact absurd (by rw [hgn, hn]) (e3 g.Number (List.mem_map_of_mem hg) f.Number (by simp))
          · rcases List.mem_cons.1 hg with rfl | hg
            · rfl
            · have := (List.nodup_cons.1 e2).1
              exact absurd (by rw [hn, ← hgn]; exact List.mem_map_of_mem hg) this
      simp only [findG, hfind, Nat.add_zero]
    | succ j =>
      have hj' : l[j]? = some fs := by simpa using hj
      have hnone : (x.find? fun f => f.Number == n) = none := by
        rw [List.find?_eq_none]
        intro g hg hgn
        have hgn : g.Number = n := by simpa using hgn
        have hm : f.Number ∈ nums l.flatten := List.mem_map_of_mem (List.mem_flatten.2 ⟨fs, List.mem_of_getElem? hj', hf⟩)
        exact d3 g.Number (List.mem_map_of_mem hg) f.Number hm (by rw [hgn, hn])
      simp only [findG, hnone]
      rw [findG_at (i := i + 1) d2 hj' hf hn]
      congr 2
      omega
theorem findS_at {l : List (List File)} {i : Int} {f : File} (hf : f ∈ ofS l i) : findS l f.Number = (i, f, true) := by
  have hv : validB l = true := valid_ne (fun h => by rw [h] at hf; simp at hf)
  unfold ofS at hf
  split at hf
  · simp at hf
  · rename_i hc
    simp only [hv, Bool.not_true, Bool.false_or, Bool.or_eq_true, decide_eq_true_eq, not_or, Int.not_lt, Int.not_le] at hc
    rw [List.getD_eq_getElem?_getD] at hf
    cases hg : l[i.toNat]? with
    | none => rw [hg] at hf; simp at hf
    | some fs =>
      rw [hg] at hf
      have := findG_at (i := 0) (validB_iff.1 hv).2.2.2 hg (by simpa using hf) rfl
      rw [findS, if_pos hv, this]
      congr 1
      omega
end Go.Proofs.Ytckjpkecipgeiaa.Mo
set_option maxRecDepth 100000
namespace Go.Proofs.Ytckjpkecipgeiaa.Mo
open Go Go.Proofs.Ytckjpkecipgeiaa.Sy
def cK (i : Int) (a b : File) : Int :=
  if i = 0 then (if a.Number < b.Number then -1 else if b.Number < a.Number then 1 else 0) else (if slt a.Least b.Least then -1 else if slt b.Least a.Least then 1 else 0)
abbrev ltK (i : Int) : File → File → Prop := ltcFile (cK i)
theorem ltK_iff {i : Int} {a b : File} : ltK i a b ↔ if i = 0 then a.Number < b.Number else slt a.Least b.Least := by
  show cK i a b < 0 ↔ _
  unfold cK
  by_cases h : i = 0
  · simp only [h, if_true]
    split
    · simp [*]
    · split <;> simp [*]
  · simp only [h, if_false]
    split
    · simp [*]
    · split <;> simp [*]
theorem wo_key (i : Int) : Wo (ltK i) := by
  refine ⟨fun x y h k => ?_, fun x y z h k => ?_⟩
  · rw [ltK_iff] at h k
    by_cases e : i = 0
    · simp only [e, if_true] at h k; omega
    · simp only [e, if_false] at h k; exact slt_asymm h k
  · rw [ltK_iff] at h k ⊢
    by_cases e : i = 0
    · simp only [e, if_true] at h k ⊢; omega
    · simp only [e, if_false] at h k ⊢; exact sle_trans (a := z.Least) (b := y.Least) (c := x.Least) k h
theorem key_eq (i : Int) (a b : File) : version_sorted_1 a b i = some (cK i a b) := by
  unfold version_sorted_1 cK
  by_cases h : i = 0
  · subst h
    simp only [beq_self_eq_true, if_true, cmp_Compare_int, cmp_isNaN_int, bne_self_eq_false, Option.bind_some, Bool.false_eq_true, if_false, decide_eq_true_eq]
    split
    · rfl
    · split <;> rfl
  · have e : (i == 0) = false := by simp [h]
    simp only [e, Bool.false_eq_true, if_false, h, cmp_Compare_string, cmp_isNaN_string, sEq_refl, Bool.not_true, Option.bind_some, sLt_iff, sLe_dec]
    by_cases h1 : slt a.Least b.Least
    · simp only [h1, if_true, Option.bind_some]
    · simp only [h1, if_false]
      by_cases h2 : slt b.Least a.Least
      · have h3 : ¬ sle a.Least b.Least := fun h => h h2
        simp only [h2, h3, decide_false, Bool.not_false, if_true, Option.bind_some]
      · have h3 : sle a.Least b.Least := h2
        simp only [h2, h3, decide_true, Bool.not_true, Bool.false_eq_true, if_false, Option.bind_some]
theorem sorted_key (i : Int) (x : List File) (hx : x.length ≤ 1152921504606846976) : ∃ y, Srt (ltK i) y ∧ Sst (ltK i) x y ∧ Ev (fun k => version_sorted k i x) y := by
  obtain ⟨y, h1, h2, h3⟩ := stable_File (cmp := fun x0 x1 => version_sorted_1 x0 x1 i) (c := cK i) (fun a b => key_eq i a b) (wo_key i) x hx
  exact ⟨y, h1, h2, h3.bind Ev.ret⟩
end Go.Proofs.Ytckjpkecipgeiaa.Mo
set_option maxRecDepth 100000
namespace Go.Proofs.Ytckjpkecipgeiaa.Mo
open Go Go.Proofs.Ytckjpkecipgeiaa.Sy
theorem first_num {n : Int} : ∀ {x : List File}, n ∈ nums x → ∃ p f s, x = p ++ f :: s ∧ f.Number = n ∧ ∀ y ∈ p, y.Number ≠ n
  | [], h => by simp [nums] at h
  | f :: x, h => by
    by_cases e : f.Number = n
    · exact ⟨[], f, x, rfl, e, by simp⟩
    · have : n ∈ nums x := by
        rcases List.mem_cons.1 (show n ∈ f.Number :: nums x from h) with h | h
        · exact absurd h.symm e
        · exact h
      obtain ⟨p, g, s, h1, h2, h3⟩ := first_num this
      exact ⟨f :: p, g, s, by rw [h1]; rfl, h2, fun y hy => by
        rcases List.mem_cons.1 hy with rfl | hy
        · exact e
        · exact h3 y hy⟩
def lessN (n : Int) (x : List File) : List File := x.filter fun f => f.Number != n
theorem lessN_at {n : Int} {p s : List File} {f : File} (hd : (nums (p ++ f :: s)).Nodup) (hn : f.Number = n) (hp : ∀ y ∈ p, y.Number ≠ n) : lessN n (p ++ f :: s) = p ++ s := by
  have hs : ∀ y ∈ s, y.Number ≠ n := fun y hy e => by
    have h1 : (nums p ++ f.Number :: nums s).Nodup := by simpa [nums] using hd
    have h2 := (List.nodup_cons.1 (List.nodup_append.1 h1).2.1).1
    exact h2 (by rw [hn, ← e]; exact List.mem_map_of_mem hy)
  have e1 : (p.filter fun f => f.Number != n) = p := List.filter_eq_self.2 fun y hy => by simpa using hp y hy
  have e2 : (s.filter fun f => f.Number != n) = s := List.filter_eq_self.2 fun y hy => by simpa using hs y hy
  have e3 : ¬ ((f.Number != n) = true) := by simp [hn]
  simp only [lessN, List.filter_append, List.filter_cons, e1, e2, if_neg e3]
theorem lessN_sub (n : Int) (x : List File) : (lessN n x).Sublist x := List.filter_sublist
theorem lessN_nodup {n : Int} {x : List File} (h : (nums x).Nodup) : (nums (lessN n x)).Nodup := h.sublist ((lessN_sub n x).map _)
theorem vindex_l0 (g : Place) (x : List File) (hl : x.length ≤ 9223372036854775000) (f : File) (s : List File) (hf : f.Number = g.Number) : ∀ (m p : List File), x = p ++ m ++ f :: s → (∀ y ∈ m, y.Number ≠ g.Number) → Ev (fun k => slices_IndexFunc_File.l0 x (fun x0 => version_Apply_1 x0 g) k p.length) ((p ++ m).length : Int)
  | [], p, hp, hm => by
    rw [List.append_nil] at hp
    have e1 : decide ((p.length : Int) < (x.length : Int)) = true := by rw [hp]; exact lt_at p s f
    have e2 : idx x (p.length : Int) = some f := by rw [hp]; exact idx_at p f s
    have e3 : version_Apply_1 f g = some true := by simp [version_Apply_1, hf]
    refine Ev.succ ?_
    simp only [slices_IndexFunc_File.l0, e1, e2, if_true, Option.bind_some, e3, List.append_nil]
    exact Ev.ret
  | y :: m, p, hp, hm => by
    have hp' : x = p ++ y :: (m ++ f :: s) := by rw [hp]; simp
    have e1 : decide ((p.length : Int) < (x.length : Int)) = true := by rw [hp']; exact lt_at p _ y
    have e2 : idx x (p.length : Int) = some y := by rw [hp']; exact idx_at p y _
    have e3 : version_Apply_1 y g = some false := by simpa [version_Apply_1] using hm y (by simp)
    refine Ev.succ ?_
    simp only [slices_IndexFunc_File.l0, e1, e2, if_true, Option.bind_some, e3, Bool.false_eq_true, if_false, step_at p (m ++ f :: s) y (by rw [← hp', maxLen_val]; omega)]
    have := vindex_l0 g x hl f s hf m (p ++ [y]) (by rw [hp]; simp) (fun z hz => hm z (List.mem_cons_of_mem _ hz))
    simpa using this
theorem index_no (g : Place) (x : List File) (hl : x.length ≤ 9223372036854775000) : ∀ (m p : List File), x = p ++ m → (∀ y ∈ m, y.Number ≠ g.Number) → Ev (fun k => slices_IndexFunc_File.l0 x (fun x0 => version_Apply_1 x0 g) k p.length) (-1)
  | [], p, hp, hm => by
    have e1 : decide ((p.length : Int) < (x.length : Int)) = false := by rw [hp]; exact lt_end p
    refine Ev.succ ?_
    simp only [slices_IndexFunc_File.l0, e1, Bool.false_eq_true, if_false]
    exact Ev.ret
  | y :: m, p, hp, hm => by
    have e1 : decide ((p.length : Int) < (x.length : Int)) = true := by rw [hp]; exact lt_at p _ y
    have e2 : idx x (p.length : Int) = some y := by rw [hp]; exact idx_at p y _
    have e3 : version_Apply_1 y g = some false := by simpa [version_Apply_1] using hm y (by simp)
    refine Ev.succ ?_
    simp only [slices_IndexFunc_File.l0, e1, e2, if_true, Option.bind_some, e3, Bool.false_eq_true, if_false, step_at p m y (by rw [← hp, maxLen_val]; omega)]
    exact index_no g x hl m (p ++ [y]) (by rw [hp]; simp) (fun z hz => hm z (List.mem_cons_of_mem _ hz))
theorem cut_ok {α : Type} {l : List α} {i j : Nat} (h1 : i ≤ j) (h2 : j ≤ l.length) : cut l (i : Int) (j : Int) = some ((l.take j).drop i) := by
  unfold cut
  rw [if_pos ⟨by omega, by omega, by omega⟩]
  simp
theorem delete_at (p s : List File) (f : File) : slices_Delete_File (p ++ f :: s) (p.length : Int) ((p.length + 1 : Nat) : Int) = some (p ++ s) := by
  have hlen : (p ++ f :: s).length = p.length + 1 + s.length := by simp; omega
  have e0 : ((p.length : Int) == ((p.length + 1 : Nat) : Int)) = false := by rw [beq_eq_false_iff_ne]; omega
  have hlt : (p.length : Int) < ((p.length + 1 : Nat) : Int) := by omega
  have hsa : selfApp (p ++ f :: s) p.length (p.length + 1) = p ++ s ++ (p ++ f :: s).drop (p.length + s.length) := by
    unfold selfApp
    have : p.length + ((p ++ f :: s).length - (p.length + 1)) = p.length + s.length := by omega
    rw [this]
    congr 1
    rw [List.take_left]
    congr 1
    rw [show p.length + 1 = (p ++ [f]).length by simp, show p ++ f :: s = (p ++ [f]) ++ s by simp, List.drop_left]
  have hsl : (selfApp (p ++ f :: s) p.length (p.length + 1)).length = p.length + 1 + s.length := by
    rw [hsa]; simp; omega
  have en : p.length + ((p ++ f :: s).length - (p.length + 1)) = p.length + s.length := by omega
  have z0 : (0 : Int) = ((0 : Nat) : Int) := rfl
  have c1 : cut (p ++ f :: s) (p.length : Int) ((p.length + 1 : Nat) : Int) = some _ := cut_ok (by omega) (by omega)
  have c2 : cut (p ++ f :: s) 0 (p.length : Int) = some _ := cut_ok (i := 0) (by omega) (by omega)
  have c3 : cut (p ++ f :: s) ((p.length + 1 : Nat) : Int) ((p ++ f :: s).length : Int) = some _ := cut_ok (by omega) (by omega)
  have c4 : cut (selfApp (p ++ f :: s) p.length (p.length + 1)) 0 ((p.length + s.length : Nat) : Int) = some (p ++ s) := by
    rw [z0, cut_ok (by omega) (by omega), hsa]
    congr 1
    rw [List.drop_zero, show p.length + s.length = (p ++ s).length by simp, List.take_left]
  have c5 : cut (selfApp (p ++ f :: s) p.length (p.length + 1)) ((p ++ s).length : Int) ((p ++ f :: s).length : Int) = some _ := cut_ok (by simp) (by omega)
  have c6 : cut (clr (selfApp (p ++ f :: s) p.length (p.length + 1)) (p ++ s).length (p ++ f :: s).length (⟨0, 0, (ByteArray.mk #[]), (ByteArray.mk #[]), 0, 0⟩ : File)) 0 ((p.length + s.length : Nat) : Int) = some (p ++ s) := by
    rw [z0, cut_ok (by omega) (by unfold clr; simp only [List.length_append, List.length_take, List.length_drop, List.length_replicate, hsl]; simp; omega)]
    congr 1
    rw [List.drop_zero]
    unfold clr
    have e : List.take (p ++ s).length (selfApp (p ++ f :: s) p.length (p.length + 1)) = p ++ s := by
      rw [hsa, List.take_left]
    rw [e, List.append_assoc, show p.length + s.length = (p ++ s).length by simp, List.take_left]
  unfold slices_Delete_File
  simp only [c1, c2, c3, e0, Option.bind_some, Bool.false_eq_true, if_false, if_pos hlt, Int.toNat_natCast, en, c4, c5, c6]
def gone1 (o : List (List File)) (g : Place) : Option (List (List File)) :=
  if (decide (g.Level < 0) || decide ((o.length : Int) ≤ g.Level)) = true then none else
  if g.Number ∈ nums (o.getD g.Level.toNat []) then some (o.set g.Level.toNat (lessN g.Number (o.getD g.Level.toNat []))) else none
def goneS : List (List File) → List Place → Option (List (List File))
  | o, [] => some o
  | o, g :: s => match gone1 o g with
    | none => none
    | some o' => goneS o' s
def okO (o : List (List File)) : Prop := (∀ x ∈ o, (nums x).Nodup ∧ x.length ≤ 2147483647 ∧ ∀ f ∈ x, goodF f) ∧ o.length ≤ 7
theorem okO_set {o : List (List File)} (h : okO o) {i : Nat} {y : List File} (hy : (nums y).Nodup ∧ y.length ≤ 2147483647 ∧ ∀ f ∈ y, goodF f) : okO (o.set i y) := by
  refine ⟨fun x hx => ?_, by rw [List.length_set]; exact h.2⟩
  rcases List.mem_or_eq_of_mem_set hx with hx | rfl
  · exact h.1 x hx
  · exact hy
theorem lessN_ok {x : List File} {n : Int} (h : (nums x).Nodup ∧ x.length ≤ 2147483647 ∧ ∀ f ∈ x, goodF f) : (nums (lessN n x)).Nodup ∧ (lessN n x).length ≤ 2147483647 ∧ ∀ f ∈ lessN n x, goodF f :=
  ⟨lessN_nodup h.1, Nat.le_trans (lessN_sub n x).length_le h.2.1, fun f hf => h.2.2 f ((lessN_sub n x).subset hf)⟩
/-- What stands at a level that there is. -/
theorem at_lev {o : List (List File)} {i : Int} (h : (decide (i < 0) || decide ((o.length : Int) ≤ i)) = false) : ∃ j : Nat, i = (j : Int) ∧ ∃ hj : j < o.length, o[j]? = some o[j] ∧ idx o i = some o[j] ∧ o.getD i.toNat [] = o[j] ∧ o[j] ∈ o ∧ ∀ y, upd o i y = some (o.set j y) := by
  simp only [Bool.or_eq_false_iff, decide_eq_false_iff_not, Int.not_lt, Int.not_le] at h
  obtain ⟨j, rfl⟩ := Int.eq_ofNat_of_zero_le h.1
  have hj : j < o.length := by omega
  refine ⟨j, rfl, hj, List.getElem?_eq_getElem hj, getD_idx hj, ?_, List.getElem_mem hj, fun y => ?_⟩
  · rw [List.getD_eq_getElem?_getD, Int.toNat_natCast, List.getElem?_eq_getElem hj]; rfl
  · unfold upd
    rw [if_pos ⟨by omega, by omega⟩]; rfl
theorem goneS_bad {o : List (List File)} {g : Place} {s : List Place} (hc : (decide (g.Level < 0) || decide ((o.length : Int) ≤ g.Level)) = true) : goneS o (g :: s) = none := by
  simp only [goneS, gone1, hc, if_true]
theorem goneS_no {o : List (List File)} {g : Place} {s : List Place} (hc : (decide (g.Level < 0) || decide ((o.length : Int) ≤ g.Level)) = false) (hm : g.Number ∉ nums (o.getD g.Level.toNat [])) : goneS o (g :: s) = none := by
  simp only [goneS, gone1, hc, Bool.false_eq_true, if_false, if_neg hm]
theorem goneS_go {o : List (List File)} {g : Place} {s : List Place} (hc : (decide (g.Level < 0) || decide ((o.length : Int) ≤ g.Level)) = false) (hm : g.Number ∈ nums (o.getD g.Level.toNat [])) : goneS o (g :: s) = goneS (o.set g.Level.toNat (lessN g.Number (o.getD g.Level.toNat []))) s := by
  simp only [goneS, gone1, hc, Bool.false_eq_true, if_false, if_pos hm]
theorem vgone (e : Edit) (hE : e.Gone.length ≤ 9223372036854775000) (r : List (List File) × Int) :
    ∀ (s p : List Place) (o : List (List File)), e.Gone = p ++ s → okO o → (goneS o s = none → r = ([], 160)) → (∀ o', goneS o s = some o' → okO o' → Ev (fun k => version_Apply.l2 e (fun (l_34 : (List (List File))) => version_Apply.l1 l_34 (fun (l_48 : (List (List File))) => (version_Valid k l_48).bind fun r715 => if (!r715) = true then (some ([], 160)) else (some (l_48, 0))) k l_34 0) k o' 0) r) → Ev (fun k => version_Apply.l0 e k o p.length) r
  | [], p, o, hp, ho, hn, hR => by
    have e1 : decide ((p.length : Int) < (e.Gone.length : Int)) = false := by rw [hp]; exact lt_end p
    refine Ev.succ ?_
    simp only [version_Apply.l0, e1, Bool.false_eq_true, if_false, Jn]
    exact hR o rfl ho
  | g :: s, p, o, hp, ho, hn, hR => by
    have e1 : decide ((p.length : Int) < (e.Gone.length : Int)) = true := by rw [hp]; exact lt_at p s g
    have e2 : idx e.Gone (p.length : Int) = some g := by rw [hp]; exact idx_at p g s
    refine Ev.succ ?_
    simp only [version_Apply.l0, e1, e2, if_true, Option.bind_some, step_at p s g (by rw [← hp, maxLen_val]; omega)]
    cases hc : (decide (g.Level < 0) || decide ((o.length : Int) ≤ g.Level)) with
    | true =>
      simp only [if_true]
      rw [hn (goneS_bad hc)]
      exact Ev.ret
    | false =>
      obtain ⟨j, hj, hjl, a1, a2, a3, a4, a5⟩ := at_lev hc
      have hok := ho.1 _ a4
      simp only [Bool.false_eq_true, if_false, a2, a5, Option.bind_some]
      by_cases hm : g.Number ∈ nums o[j]
      · obtain ⟨q, f, t, h1, h2, h3⟩ := first_num hm
        have hidx := vindex_l0 g o[j] (by omega) f t h2 q [] (by rw [h1]; simp) h3
        refine Ev.bind hidx ?_
        have hql : q.length + 1 ≤ 2147483647 := by
          have := hok.2.1
          rw [h1] at this
          simp at this
          omega
        have c1 : decide ((([] ++ q).length : Int) < 0) = false := decide_eq_false (by omega)
        have c2 : w64 ((([] ++ q).length : Int) + 1) = ((q.length + 1 : Nat) : Int) := by rw [List.nil_append, w64_of (by omega) (by omega)]; omega
        have hdel : slices_Delete_File o[j] (([] ++ q).length : Int) ((q.length + 1 : Nat) : Int) = some (q ++ t) := by rw [h1, List.nil_append]; exact delete_at q t f
        have hless : lessN g.Number o[j] = q ++ t := by
          have := lessN_at (n := g.Number) (p := q) (s := t) (f := f) (by rw [← h1]; exact hok.1) h2 h3
          rw [← this, ← h1]
        have ht : g.Level.toNat = j := by rw [hj]; simp
        have hgo := goneS_go (s := s) hc (by rw [a3]; exact hm)
        rw [a3, hless, ht] at hgo
        rw [hgo] at hn hR
        have ih := vgone e hE r s (p ++ [g]) (o.set j (q ++ t)) (by simp [hp]) (okO_set ho (by rw [← hless]; exact lessN_ok hok)) hn hR
        simp only [c1, Bool.false_eq_true, if_false, c2, hdel, Option.bind_some]
        exact ih
      · refine Ev.bind (index_no g o[j] (by omega) o[j] [] rfl (fun y hy h => hm (by rw [← h]; exact List.mem_map_of_mem hy))) ?_
        have c1 : decide ((-1 : Int) < 0) = true := by decide
        simp only [c1, if_true]
        rw [hn (goneS_no hc (by rw [a3]; exact hm))]
        exact Ev.ret
end Go.Proofs.Ytckjpkecipgeiaa.Mo
set_option maxRecDepth 100000
namespace Go.Proofs.Ytckjpkecipgeiaa.Mo
open Go Go.Proofs.Ytckjpkecipgeiaa.Sy
def RelG : Nat → List (List File) → List (List File) → Prop
  | _, [], [] => True
  | i, x :: u, y :: v => Srt (ltK (i : Int)) y ∧ Sst (ltK (i : Int)) x y ∧ RelG (i + 1) u v
  | _, _, _ => False
theorem RelG.len : ∀ {i : Nat} {u v : List (List File)}, RelG i u v → u.length = v.length
  | _, [], [], _ => rfl
  | _, x :: u, y :: v, h => by simp [RelG.len h.2.2]
  | _, [], y :: v, h => h.elim
  | _, x :: u, [], h => h.elim
theorem RelG.uniq : ∀ {i : Nat} {u v v' : List (List File)}, RelG i u v → RelG i u v' → v = v'
  | _, [], [], [], _, _ => rfl
  | i, x :: u, y :: v, y' :: v', h, h' => by
    rw [RelG.uniq h.2.2 h'.2.2, Sst.uniq (wo_key i) h.1 h'.1 (h.2.1.symm.trans h'.2.1)]
  | _, [], y :: v, _, h, _ => h.elim
  | _, x :: u, [], _, h, _ => h.elim
  | _, [], [], y :: v, _, h => h.elim
  | _, x :: u, y :: v, [], _, h => h.elim
theorem RelG.at : ∀ {i j : Nat} {u v : List (List File)} {x : List File}, RelG i u v → u[j]? = some x → ∃ y, v[j]? = some y ∧ Srt (ltK ((i + j : Nat) : Int)) y ∧ Sst (ltK ((i + j : Nat) : Int)) x y
  | i, 0, x :: u, y :: v, z, h, hj => by
    have : x = z := by simpa using hj
    subst this
    exact ⟨y, rfl, h.1, h.2.1⟩
  | i, j + 1, x :: u, y :: v, z, h, hj => by
    obtain ⟨y', h1, h2, h3⟩ := RelG.at (j := j) h.2.2 (by simpa using hj)
    rw [show i + 1 + j = i + (j + 1) by omega] at h2 h3
    exact ⟨y', by simpa using h1, h2, h3⟩
  | _, _, [], [], _, _, h => by simp at h
  | _, _, [], y :: v, _, h, _ => h.elim
  | _, _, x :: u, [], _, h, _ => h.elim
theorem RelG.set : ∀ {i j : Nat} {u v : List (List File)} {x y : List File}, RelG i u v → Srt (ltK ((i + j : Nat) : Int)) y → Sst (ltK ((i + j : Nat) : Int)) x y → RelG i (u.set j x) (v.set j y)
  | i, 0, x :: u, y :: v, _, _, h, h1, h2 => ⟨h1, h2, h.2.2⟩
  | i, j + 1, x :: u, y :: v, _, _, h, h1, h2 => ⟨h.1, h.2.1, RelG.set h.2.2 (by rw [show i + 1 + j = i + (j + 1) by omega]; exact h1) (by rw [show i + 1 + j = i + (j + 1) by omega]; exact h2)⟩
  | _, _, [], [], _, _, h, _, _ => by simpa using h
  | _, _, [], y :: v, _, _, h, _, _ => h.elim
  | _, _, x :: u, [], _, _, h, _, _ => h.elim
/-- A valid level stands in its order, each file above the one ahead of it. -/
theorem okF_strict {i : Nat} : ∀ {s : List File} {pv : Option File}, okF i pv s = true → (∀ q, pv = some q → slt q.Least q.Limit → ∀ f ∈ s, ltK (i : Int) q f) ∧ s.Pairwise fun a b => ltK (i : Int) a b
  | [], pv, _ => ⟨fun _ _ _ f h => absurd h (by simp), List.Pairwise.nil⟩
  | f :: s, pv, h => by
    simp only [okF, Bool.and_eq_true, Bool.not_eq_true'] at h
    obtain ⟨hm, hb, hs⟩ := h
    have hff : slt f.Least f.Limit := (may_iff.1 hm).2.2.2.1
    obtain ⟨h1, h2⟩ := okF_strict hs
    refine ⟨fun q hq hql g hg => ?_, List.pairwise_cons.2 ⟨fun g hg => h1 f rfl hff g hg, h2⟩⟩
    subst hq
    have hqf : ltK (i : Int) q f := by
      rw [ltK_iff]
      by_cases hi : i = 0
      · subst hi
        rw [if_pos (by rfl)]
        simp only [badO, bad, if_true] at hb
        simpa using hb
      · rw [if_neg (by omega)]
        simp only [badO, bad, if_neg hi, sLe_dec] at hb
        exact slt_of_lt_le hql (by simpa using hb)
    rcases List.mem_cons.1 hg with rfl | hg
    · exact hqf
    · have h3 := h1 f rfl hff g hg
      exact (wo_key (i : Int)).lt_le hqf ((wo_key (i : Int)).asymm _ _ h3)
def comeV : List (List File) → List Added → Option (List (List File))
  | o, [] => some o
  | o, c :: s => if (decide (c.Level < 0) || decide ((o.length : Int) ≤ c.Level)) = true then none else comeV (o.set c.Level.toNat (o.getD c.Level.toNat [] ++ [c.File])) s
theorem comeV_bad {o : List (List File)} {g : Added} {s : List Added} (hc : (decide (g.Level < 0) || decide ((o.length : Int) ≤ g.Level)) = true) : comeV o (g :: s) = none := by
  simp only [comeV, hc, if_true]
theorem comeV_go {o : List (List File)} {g : Added} {s : List Added} (hc : (decide (g.Level < 0) || decide ((o.length : Int) ≤ g.Level)) = false) : comeV o (g :: s) = comeV (o.set g.Level.toNat (o.getD g.Level.toNat [] ++ [g.File])) s := by
  simp only [comeV, hc, Bool.false_eq_true, if_false]
def okC (n : Nat) (o : List (List File)) : Prop := (∀ x ∈ o, x.length ≤ 2147483647 + n ∧ ∀ f ∈ x, goodF f) ∧ o.length ≤ 7
def goodE (e : Edit) : Prop := e.Gone.length ≤ 8796093022207 ∧ e.Come.length ≤ 1954687338268 ∧ ∀ c ∈ e.Come, goodF c.File
theorem okC_set {n : Nat} {o : List (List File)} (h : okC n o) {j : Nat} {x : List File} {f : File} (hx : x ∈ o) (hf : goodF f) : okC (n + 1) (o.set j (x ++ [f])) := by
  refine ⟨fun y hy => ?_, by rw [List.length_set]; exact h.2⟩
  rcases List.mem_or_eq_of_mem_set hy with hy | rfl
  · exact ⟨by have := (h.1 y hy).1; omega, (h.1 y hy).2⟩
  · have := h.1 x hx
    refine ⟨by rw [List.length_append, List.length_singleton]; omega, fun g hg => ?_⟩
    rcases List.mem_append.1 hg with hg | hg
    · exact this.2 g hg
    · simp at hg; subst hg; exact hf
theorem vcome (e : Edit) (hE : goodE e) (J : Nat → List (List File) → Option ((List (List File)) × Int)) (r : List (List File) × Int) :
    ∀ (s p : List Added) (o : List (List File)) (J : Nat → List (List File) → Option ((List (List File)) × Int)), e.Come = p ++ s → okC p.length o → (comeV o s = none → r = ([], 160)) → (∀ o', comeV o s = some o' → okC e.Come.length o' → Ev (fun k => J k o') r) → Ev (fun k => version_Apply.l2 e (J k) k o p.length) r
  | [], p, o, J, hp, ho, hn, hR => by
    have e1 : decide ((p.length : Int) < (e.Come.length : Int)) = false := by rw [hp]; exact lt_end p
    have e2 : e.Come.length = p.length := by rw [hp]; simp
    refine Ev.succ ?_
    simp only [version_Apply.l2, e1, Bool.false_eq_true, if_false]
    exact (hR o rfl (by rw [e2]; exact ho)).shift
  | g :: s, p, o, J, hp, ho, hn, hR => by
    have e1 : decide ((p.length : Int) < (e.Come.length : Int)) = true := by rw [hp]; exact lt_at p s g
    have e2 : idx e.Come (p.length : Int) = some g := by rw [hp]; exact idx_at p g s
    have hpl : p.length + 1 ≤ e.Come.length := by rw [hp]; simp
    have hEc := hE.2.1
    have hgf : goodF g.File := hE.2.2 g (by rw [hp]; simp)
    refine Ev.succ ?_
    simp only [version_Apply.l2, e1, e2, if_true, Option.bind_some, step_at p s g (by rw [← hp, maxLen_val]; omega)]
    cases hc : (decide (g.Level < 0) || decide ((o.length : Int) ≤ g.Level)) with
    | true =>
      simp only [if_true]
      rw [hn (comeV_bad hc)]
      exact Ev.ret
    | false =>
      obtain ⟨j, hj, hjl, a1, a2, a3, a4, a5⟩ := at_lev hc
      have hok := ho.1 _ a4
      have ht : g.Level.toNat = j := by rw [hj]; simp
      have hgo := comeV_go (s := s) hc
      rw [a3, ht] at hgo
      rw [hgo] at hn hR
      simp only [Bool.false_eq_true, if_false, a2, a5, Option.bind_some, push_ok (show o[j].length < 3518437208730 by omega)]
      exact vcome e hE J r s (p ++ [g]) (o.set j (o[j] ++ [g.File])) (fun k => J (k + 1)) (by simp [hp]) (by rw [List.length_append, List.length_singleton]; exact okC_set ho a4 hgf) hn (fun o' h1 h2 => (hR o' h1 h2).shift)
theorem vsort (o : List (List File)) (n : Nat) (hn : n ≤ 1954687338268) (ho : okC n o) : ∀ (s p q : List (List File)), o = p ++ s → q.length = p.length → ∃ s', RelG p.length s s' ∧ ∀ (J : Nat → List (List File) → Option ((List (List File)) × Int)) r, Ev (fun k => J k (q ++ s')) r → Ev (fun k => version_Apply.l1 o (J k) k (q ++ s) p.length) r
  | [], p, q, hp, hq => by
    have e1 : decide ((p.length : Int) < (o.length : Int)) = false := by rw [hp]; exact lt_end p
    refine ⟨[], trivial, fun J r hJ => Ev.succ ?_⟩
    simp only [version_Apply.l1, e1, Bool.false_eq_true, if_false]
    exact hJ.shift
  | x :: s, p, q, hp, hq => by
    have e1 : decide ((p.length : Int) < (o.length : Int)) = true := by rw [hp]; exact lt_at p s x
    have hx := ho.1 x (by rw [hp]; simp)
    have ho7 := ho.2
    obtain ⟨y, y1, y2, y3⟩ := sorted_key (p.length : Int) x (by omega)
    obtain ⟨s', h1, h2⟩ := vsort o n hn ho s (p ++ [x]) (q ++ [y]) (by simp [hp]) (by simp [hq])
    rw [List.length_append, List.length_singleton] at h1
    refine ⟨y :: s', ⟨y1, y2, h1⟩, fun J r hJ => Ev.succ ?_⟩
    have e2 : idx (q ++ x :: s) (p.length : Int) = some x := by rw [← hq]; exact idx_at q x s
    have e3 : upd (q ++ x :: s) (p.length : Int) y = some (q ++ y :: s) := by rw [← hq]; exact upd_at q s x y
    simp only [version_Apply.l1, e1, if_true, e2, Option.bind_some, step_at p s x (by rw [← hp, maxLen_val]; omega)]
    refine Ev.bind y3 ?_
    simp only [e3, Option.bind_some]
    have := h2 (fun k => J (k + 1)) r (by simpa using hJ.shift)
    simpa using this
theorem rep_at (p : List (List File)) (n : Nat) (y : List File) : upd (p ++ List.replicate (n + 1) []) (p.length : Int) y = some (p ++ [y] ++ List.replicate n []) := by
  rw [List.replicate_succ, upd_at, List.append_assoc]; rfl
theorem vcopy (l : List (List File)) (hg : goodL l) (h7 : l.length ≤ 7) : ∀ (s p : List (List File)), l = p ++ s → Ev (fun k => version_copied.l0 l k (p ++ List.replicate s.length []) p.length) l
  | [], p, hp => by
    have e1 : decide ((p.length : Int) < (l.length : Int)) = false := by rw [hp]; exact lt_end p
    refine Ev.succ ?_
    simp only [version_copied.l0, e1, Bool.false_eq_true, if_false, List.length_nil, List.replicate_zero]
    rw [← hp]
    exact Ev.ret
  | x :: s, p, hp => by
    have e1 : decide ((p.length : Int) < (l.length : Int)) = true := by rw [hp]; exact lt_at p s x
    have hx := (hg.1 x (by rw [hp]; simp)).1
    refine Ev.succ ?_
    have e2 : idx (p ++ List.replicate (s.length + 1) ([] : List File)) (p.length : Int) = some [] := by rw [List.replicate_succ]; exact idx_at p [] _
    simp only [version_copied.l0, e1, if_true, idx_l hp, Option.bind_some, slices_Clone_File, pushN_ok (show ([] : List File).length + x.length ≤ 3518437208730 by rw [List.length_nil]; omega), List.nil_append, List.length_cons, e2, rep_at, step_at p s x (by rw [← hp, maxLen_val]; omega)]
    exact vcopy l hg h7 s (p ++ [x]) (by simp [hp])
theorem mkS_ok {n : Nat} (h : n ≤ 7) : mkS 11728124029610 (n : Int) ([] : List File) = some (List.replicate n []) := by
  unfold mkS
  rw [if_pos ⟨by omega, by omega⟩, Int.toNat_natCast]
theorem vcopied_ev (l : List (List File)) (hg : goodL l) (h7 : l.length ≤ 7) : Ev (fun k => version_copied k l) l := by
  unfold version_copied
  refine Ev.bind0 (mkS_ok h7) ?_
  exact vcopy l hg h7 l [] rfl
theorem okO_of {l : List (List File)} (hg : goodL l) (hv : validB l = true) : okO l := by
  refine ⟨fun x hx => ⟨?_, ?_, (hg.1 x hx).2⟩, (validB_iff.1 hv).2.1⟩
  · have h := (validB_iff.1 hv).2.2.2
    obtain ⟨a, b, rfl⟩ := List.append_of_mem hx
    rw [List.flatten_append, List.flatten_cons] at h
    unfold nums at h
    rw [List.map_append, List.map_append] at h
    exact (List.nodup_append.1 (List.nodup_append.1 h).2.1).1
  · exact Nat.le_trans (len_le_flatten hx) (valid_len hv)
end Go.Proofs.Ytckjpkecipgeiaa.Mo
set_option maxRecDepth 100000
namespace Go.Proofs.Ytckjpkecipgeiaa.Mo
open Go Go.Proofs.Ytckjpkecipgeiaa.Sy
theorem getD_set_ne {o : List (List File)} {i j : Nat} {y : List File} (h : j ≠ i) : (o.set j y).getD i [] = o.getD i [] := by
  rw [List.getD_eq_getElem?_getD, List.getD_eq_getElem?_getD, List.getElem?_set_ne h]
theorem RelG.perm {u v : List (List File)} (h : RelG 0 u v) (i : Nat) : (u.getD i []).Perm (v.getD i []) := by
  rw [List.getD_eq_getElem?_getD, List.getD_eq_getElem?_getD]
  cases e : u[i]? with
  | none =>
    have : v[i]? = none := by rw [List.getElem?_eq_none_iff] at e ⊢; rw [← h.len]; exact e
    rw [this]
  | some x =>
    obtain ⟨y, h1, _, h3⟩ := h.at e
    rw [h1]
    exact h3.1
theorem sst_strict {i : Int} {a b : List File} (hb : b.Pairwise fun x y => ltK i x y) (h : a.Perm b) : Sst (ltK i) a b := by
  refine ⟨h, fun z => ?_⟩
  have h1 : (a.filter (Eqv (ltK i) z)).Perm (b.filter (Eqv (ltK i) z)) := h.filter _
  have h2 : (b.filter (Eqv (ltK i) z)).length ≤ 1 := by
    have hp : (b.filter (Eqv (ltK i) z)).Pairwise fun x y => False := by
      rw [List.pairwise_filter]
      refine hb.imp fun {x y} hxy hx hy => ?_
      rw [Eqv_iff] at hx hy
      exact (wo_key i).neg x z y hx.2 hy.1 hxy
    cases hq : b.filter (Eqv (ltK i) z) with
    | nil => simp
    | cons x r =>
      rw [hq] at hp
      cases r with
      | nil => simp
      | cons y r => exact ((List.pairwise_cons.1 hp).1 y (by simp)).elim
  cases hq : b.filter (Eqv (ltK i) z) with
  | nil => rw [hq] at h1; exact List.perm_nil.1 h1
  | cons x r =>
    rw [hq] at h1 h2
    have : r = [] := by
      cases r with
      | nil => rfl
      | cons => simp at h2
    subst this
    exact List.perm_singleton.1 h1
theorem RelG.of_perm : ∀ {i : Nat} {u v : List (List File)}, u.length = v.length → (∀ j, (u.getD j []).Perm (v.getD j [])) → okL i v = true → RelG i u v
  | _, [], [], _, _, _ => trivial
  | i, x :: u, y :: v, hl, hp, ho => by
    simp only [okL, Bool.and_eq_true] at ho
    have hs := (okF_strict ho.1).2
    refine ⟨hs.imp fun {a b} hab => (wo_key (i : Int)).asymm _ _ hab, sst_strict hs (hp 0), RelG.of_perm (by simpa using hl) (fun j => by simpa using hp (j + 1)) ho.2⟩
  | _, [], y :: v, hl, _, _ => by simp at hl
  | _, x :: u, [], hl, _, _ => by simp at hl
end Go.Proofs.Ytckjpkecipgeiaa.Mo
