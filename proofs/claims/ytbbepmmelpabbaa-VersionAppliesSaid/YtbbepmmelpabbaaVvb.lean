/- Asks of the version: a search for the one file that bears. -/
import Derived.Test.YtbbepmmelpabbaaVva
set_option linter.unusedVariables false
set_option linter.unusedSectionVars false
set_option linter.unusedSimpArgs false
set_option maxRecDepth 100000
namespace Go.Proofs.Ytbbepmmelpabbaa.Mo
open Go Go.Proofs.Ytbbepmmelpabbaa.Sy

theorem ofS_okF {l : List (List File)} {i : Nat} : okF i none (ofS l (i : Int)) = true := by
  unfold ofS
  split
  · rfl
  · rename_i h
    have hv : validB l = true := by
      cases hv : validB l with
      | true => rfl
      | false => exact absurd (by simp [hv]) h
    rw [List.getD_eq_getElem?_getD, Int.toNat_natCast]
    cases hg : l[i]? with
    | none => rfl
    | some y => simpa using okL_get (validB_iff.1 hv).2.2.1 hg

/-- In a level but the first: the files' limits rise. -/
theorem okF_lim {i : Nat} (hi : 0 < i) : ∀ {s : List File} {pv : Option File}, okF i pv s = true → (∀ q, pv = some q → ∀ f ∈ s, sle q.Limit f.Least) ∧ s.Pairwise fun a b => sle a.Limit b.Least
  | [], pv, _ => ⟨fun _ _ f h => absurd h (by simp), List.Pairwise.nil⟩
  | f :: s, pv, h => by
    simp only [okF, Bool.and_eq_true, Bool.not_eq_true'] at h
    obtain ⟨hm, hb, hs⟩ := h
    obtain ⟨h1, h2⟩ := okF_lim hi hs
    have hf : slt f.Least f.Limit := (may_iff.1 hm).2.2.2.1
    refine ⟨fun q hq g hg => ?_, List.pairwise_cons.2 ⟨fun g hg => h1 f rfl g hg, h2⟩⟩
    subst hq
    have hqf : sle q.Limit f.Least := by
      simp only [badO, bad, if_neg (show i ≠ 0 by omega), sLe_dec] at hb
      simpa using hb
    rcases List.mem_cons.1 hg with rfl | hg
    · exact hqf
    · exact sle_trans hqf (sle_trans (sle_of_lt hf) (h1 f rfl g hg))

/-- The file that the search finds is the only one that can bear. -/
theorem ask_cut {key : ByteArray} {p s : List File} (hp : ∀ f ∈ p, sle f.Limit key) : (p ++ s).filter (fun f => bearsB f key) = s.filter fun f => bearsB f key := by
  rw [List.filter_append, List.filter_eq_nil_iff.2 (fun f hf h => (hp f hf) (bears_iff.1 h).2), List.nil_append]
theorem ask_one {key : ByteArray} {x : File} {s : List File} (hx : slt key x.Limit) (hs : ∀ f ∈ s, sle x.Limit f.Least) : (x :: s).filter (fun f => bearsB f key) = if sle x.Least key then [x] else [] := by
  have h0 : s.filter (fun f => bearsB f key) = [] := List.filter_eq_nil_iff.2 fun f hf h => (bears_iff.1 h).1 (slt_of_lt_le hx (hs f hf))
  by_cases h : sle x.Least key
  · have hb : bearsB x key = true := bears_iff.2 ⟨h, hx⟩
    rw [if_pos h, List.filter_cons]
    simp only [hb, if_true, h0]
  · have hb : ¬ bearsB x key = true := fun hb => h (bears_iff.1 hb).1
    rw [if_neg h, List.filter_cons, if_neg hb, h0]

theorem vask_l1 (key : ByteArray) (fs : List File) (hl : fs.length ≤ 2147483647) (hs : fs.Pairwise fun a b => sle a.Limit b.Least) (hm : ∀ f ∈ fs, slt f.Least f.Limit) :
    ∃ t : Nat, t ≤ fs.length ∧ (∀ f ∈ fs.take t, sle f.Limit key) ∧ (∀ x, fs[t]? = some x → slt key x.Limit) ∧ EvC (fun (J : Int → Option (List Place)) k => version_Asks.l1 key fs J k 0 (fs.length : Int)) (t : Int) := by
  have hmono : ∀ (a b : Nat) (x y : File), a ≤ b → fs[a]? = some x → fs[b]? = some y → sle x.Limit y.Limit := by
    intro a b x y hab ha hb
    by_cases e : a = b
    · subst e
      have : x = y := Option.some.inj (ha.symm.trans hb)
      subst this
      exact sle_refl _
    · obtain ⟨ha', rfl⟩ := List.getElem?_eq_some_iff.1 ha
      obtain ⟨hb', rfl⟩ := List.getElem?_eq_some_iff.1 hb
      have := List.pairwise_iff_getElem.1 hs a b ha' hb' (by omega)
      exact sle_trans this (sle_of_lt (hm _ (List.getElem_mem _)))
  obtain ⟨t, _, h2, h3, h4, h5⟩ := bsearch (R := List Place) (fun i => ∃ x, fs[i]? = some x ∧ sle x.Limit key) (fun J k i j => version_Asks.l1 key fs J k i j) 0 fs.length
    (fun J k i => by simp only [version_Asks.l1, Int.lt_irrefl, decide_false, Bool.false_eq_true, if_false])
    (fun J k i j _ hij hj => by
      have hm := mid_eq (i := i) (j := j) (by omega)
      have hlt : (i + j) / 2 < fs.length := by omega
      simp only [version_Asks.l1, decT hij, if_true, hm, getD_idx hlt, Option.bind_some, Jn, sLe_dec, Bool.not_not]
      have e : (∃ x, fs[(i + j) / 2]? = some x ∧ sle x.Limit key) ↔ sle (fs[(i + j) / 2]).Limit key := by
        rw [List.getElem?_eq_getElem hlt]; simp
      simp only [e, decide_eq_true_eq]
      rw [w64_of (x := (((i + j) / 2 : Nat) : Int) + 1) (by omega) (by omega)]
      rfl)
    fs.length 0 fs.length (by omega) (by omega) (by omega) (by omega) (.inl rfl) (.inl rfl)
  refine ⟨t, h2, fun f hf => ?_, fun x hx => ?_, h5⟩
  · rcases h3 with h3 | ⟨y, hy, hyk⟩
    · subst h3; simp at hf
    · obtain ⟨i, hi⟩ := List.getElem?_of_mem hf
      rw [List.getElem?_take] at hi
      split at hi
      · exact sle_trans (hmono i (t - 1) f y (by omega) hi hy) hyk
      · cases hi
  · rcases h4 with h4 | h4
    · subst h4; simp at hx
    · refine Classical.byContradiction fun hc => h4 ⟨x, hx, hc⟩

theorem vask_l0 (l : List (List File)) (hg : goodL l) (key : ByteArray) : ∀ (n j : Nat) (acc : List Place), 0 < j → j + n = l.length → (validB l = true → acc.length ≤ j * 2147483647) → (validB l = false → acc.length ≤ 2147483647) → Ev (fun k => version_Asks.l0 l key k acc j) (acc ++ askR l key j n)
  | 0, j, acc, hj0, hj, h1, h0 => by
    refine Ev.succ ?_
    simp only [version_Asks.l0, decF (show l.length ≤ j by omega), Bool.false_eq_true, if_false]
    simpa [askR] using Ev.ret
  | n + 1, j, acc, hj0, hj, h1, h0 => by
    have hj' := hg.2
    refine Ev.succ ?_
    simp only [version_Asks.l0, decT (show j < l.length by omega), if_true, Jn]
    refine Ev.bind (of_ev l hg j) ?_
    have hle := ofS_le l j
    have hok : okF j none (ofS l (j : Int)) = true := ofS_okF
    have hpw := (okF_lim hj0 hok).2
    have hmm : ∀ f ∈ ofS l (j : Int), slt f.Least f.Limit := fun f hf => (may_iff.1 (okF_may hok f hf)).2.2.2.1
    have hw : w64 ((j : Int) + 1) = ((j + 1 : Nat) : Int) := by rw [w64_of (by omega) (by omega)]; omega
    have hb : acc.length + (ofS l (j : Int)).length ≤ 14073748835378 := by
      cases hv : validB l with
      | true =>
        have := h1 hv
        have := (validB_iff.1 hv).2.1
        have : j * 2147483647 ≤ 7 * 2147483647 := Nat.mul_le_mul_right _ (by omega)
        omega
      | false =>
        have := h0 hv
        rw [ofS_bad hv]
        simp; omega
    have next : ∀ acc', acc' = acc ++ askI (j : Int) key (ofS l (j : Int)) → Ev (fun k => version_Asks.l0 l key k acc' (w64 ((j : Int) + 1))) (acc ++ askR l key j (n + 1)) := fun acc' he => by
      rw [hw, askR, ← List.append_assoc, ← he]
      refine vask_l0 l hg key n (j + 1) acc' (by omega) (by omega) (fun hv => ?_) (fun hv => ?_)
      · have := h1 hv
        have := askI_len j key (ofS l (j : Int))
        rw [he, List.length_append, Nat.add_mul]
        omega
      · rw [he, ofS_bad hv]
        simpa [askI] using h0 hv
    obtain ⟨t, ht, hp, hx, he⟩ := vask_l1 key (ofS l j) hle hpw hmm
    refine he.ev ?_
    by_cases htl : t < (ofS l (j : Int)).length
    · have hspl : ofS l (j : Int) = (ofS l (j : Int)).take t ++ (ofS l (j : Int))[t] :: (ofS l (j : Int)).drop (t + 1) := by
        rw [← List.drop_eq_getElem_cons htl, List.take_append_drop]
      have hxx := hx _ (List.getElem?_eq_getElem htl)
      have hs' : ∀ f ∈ (ofS l (j : Int)).drop (t + 1), sle (ofS l (j : Int))[t].Limit f.Least := fun f hf => by
        rw [hspl] at hpw
        exact (List.pairwise_cons.1 (List.pairwise_append.1 hpw).2.1).1 f hf
      have hask : askI (j : Int) key (ofS l (j : Int)) = if sle (ofS l (j : Int))[t].Least key then [⟨j, (ofS l (j : Int))[t].Number⟩] else [] := by
        unfold askI
        conv => lhs; rw [hspl]
        rw [ask_cut hp, ask_one hxx hs']
        by_cases h : sle (ofS l (j : Int))[t].Least key <;> simp [h]
      simp only [decT htl, if_true, getD_idx htl, Option.bind_some, sLe_dec]
      by_cases h : sle (ofS l (j : Int))[t].Least key
      · simp only [h, decide_true, if_true, push_ok (show acc.length < 14073748835379 by omega), Option.bind_some]
        exact next _ (by rw [hask, if_pos h])
      · simp only [h, decide_false, Bool.false_eq_true, if_false]
        exact next _ (by rw [hask, if_neg h]; simp)
    · have htl' : (ofS l (j : Int)).length ≤ t := by omega
      simp only [decF htl', Bool.false_eq_true, if_false]
      refine next _ ?_
      have : askI (j : Int) key (ofS l (j : Int)) = [] := by
        have e : ofS l (j : Int) = (ofS l (j : Int)).take t ++ [] := by rw [List.append_nil, List.take_of_length_le htl']
        unfold askI
        rw [e, ask_cut hp]; rfl
      rw [this, List.append_nil]

theorem vask_l2 (key : ByteArray) (fs : List File) (hl : fs.length ≤ 2147483647) (J : Nat → List Place → Option (List Place)) (r : List Place) (hJ : Ev (fun k => J k (askI 0 key fs.reverse)) r) : ∀ (n : Nat) (p s : List File) (acc : List Place) (i : Int), p.length = n → fs = p ++ s → i = (p.length : Int) - 1 → acc = askI 0 key s.reverse → Ev (fun k => version_Asks.l2 key (J k) fs k i acc) r := by
  intro n
  induction n generalizing J with
  | zero =>
    intro p s acc i hn hp hi ha
    have : p = [] := List.eq_nil_of_length_eq_zero hn
    subst this
    have hi' : decide ((0 : Int) ≤ i) = false := by rw [hi]; simp
    refine Ev.succ ?_
    simp only [version_Asks.l2, hi', Bool.false_eq_true, if_false]
    rw [ha]
    rw [List.nil_append] at hp
    rw [← hp]
    exact hJ.shift
  | succ n ih =>
    intro p s acc i hn hp hi ha
    rcases nil_or_snoc p with rfl | ⟨p, f, rfl⟩
    · simp at hn
    · simp only [List.length_append, List.length_singleton] at hn hi
      have hl0 := hl
      rw [hp] at hl0
      simp only [List.length_append, List.length_singleton] at hl0
      have hi0 : i = (p.length : Int) := by rw [hi]; omega
      have h1 : decide ((0 : Int) ≤ i) = true := decide_eq_true (by omega)
      have h2 : idx fs i = some f := by rw [hp, hi0]; simpa using idx_at p f s
      refine Ev.succ ?_
      have hsl : acc.length < 14073748835379 := by
        have := askI_len 0 key s.reverse
        rw [ha]
        simp at this
        omega
      have hw : w64 (i - 1) = (p.length : Int) - 1 := by rw [hi0]; exact w64_of (by omega) (by omega)
      have e : askI 0 key (f :: s).reverse = askI 0 key s.reverse ++ (if bearsB f key = true then [⟨0, f.Number⟩] else []) := by
        simp only [askI, List.reverse_cons, List.filter_append, List.map_append]
        by_cases h : bearsB f key = true <;> simp [h]
      have hb : ((sLt f.Least key || sEq f.Least key) && (sLt key f.Limit)) = bearsB f key := rfl
      simp only [version_Asks.l2, h1, h2, if_true, Option.bind_some, Jn, hw, hb, Bool.not_true, Bool.false_eq_true, if_false]
      by_cases h : bearsB f key = true
      · simp only [h, if_true, push_ok hsl, Option.bind_some]
        exact ih (fun k => J (k + 1)) hJ.shift p (f :: s) _ _ (by omega) (by simp [hp]) rfl (by rw [e, ha]; simp [h])
      · simp only [h, if_false]
        exact ih (fun k => J (k + 1)) hJ.shift p (f :: s) _ _ (by omega) (by simp [hp]) rfl (by rw [e, ha]; simp [h])
theorem asks_ev (l : List (List File)) (hg : goodL l) (key : ByteArray) : Ev (fun k => version_Asks k l key) (asksS l key) := by
  unfold version_Asks
  simp only [Jn]
  refine Ev.bind (of_ev l hg 0) ?_
  have hle := ofS_le l 0
  have hw : w64 (((ofS l 0).length : Int) - 1) = ((ofS l 0).length : Int) - 1 := w64_of (by omega) (by omega)
  rw [hw]
  refine vask_l2 key (ofS l 0) hle (fun k l_60 => version_Asks.l0 l key k l_60 1) _ ?_ _ (ofS l 0) [] [] _ rfl (by simp) rfl rfl
  have hal := askI_len 0 key (ofS l 0).reverse
  rw [List.length_reverse] at hal
  cases hq : l with
  | nil =>
    have e : ofS ([] : List (List File)) 0 = [] := by simp [ofS, validB]
    refine Ev.succ ?_
    have : asksS [] key = [] := by simp [asksS, ofS, validB, askI, askR]
    have h2 : decide ((1 : Int) < (([] : List (List File)).length : Int)) = false := by decide
    simp only [version_Asks.l0, e, this, h2, Bool.false_eq_true, if_false]
    exact Ev.ret
  | cons x y =>
    have hlq : 1 + (l.length - 1) = l.length := by rw [hq]; simp; omega
    rw [← hq]
    exact vask_l0 l hg key (l.length - 1) 1 _ (by omega) hlq (fun _ => by omega) (fun _ => by omega)
end Go.Proofs.Ytbbepmmelpabbaa.Mo
