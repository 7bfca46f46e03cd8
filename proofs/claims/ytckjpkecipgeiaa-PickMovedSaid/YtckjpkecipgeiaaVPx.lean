import Derived.Test.YtckjpkecipgeiaaVPw
set_option linter.unusedVariables false
set_option linter.unusedSimpArgs false
set_option linter.unusedSectionVars false
set_option maxRecDepth 100000
namespace Go.Proofs.Ytckjpkecipgeiaa.Mo
open Go Go.Proofs.Ytckjpkecipgeiaa.Sy
/-- Files of a level below the first do not overlap. -/
theorem okF_far {i : Nat} (hi : 0 < i) : ∀ {s : List File} {pv : Option File}, okF i pv s = true → ∀ q, pv = some q → ∀ f ∈ s, sle q.Limit f.Least
  | [], _, _, _, _, f, hf => by simp at hf
  | x :: s, pv, h, q, hq, f, hf => by
    subst hq
    have h' := h
    simp only [okF, badO, bad, Bool.and_eq_true, Bool.not_eq_true'] at h
    have h1 : sle q.Limit x.Least := by
      have := h.2.1
      rw [if_neg (by omega), sLe_dec] at this
      exact of_decide_eq_true (by simpa using this)
    rcases List.mem_cons.1 hf with rfl | hf
    · exact h1
    · exact sle_trans h1 (sle_trans (sle_of_lt (may_slt h.1)) (okF_far hi h.2.2 x rfl f hf))
theorem okF_apart {i : Nat} (hi : 0 < i) : ∀ {s : List File} {pv : Option File}, okF i pv s = true → ∀ f ∈ s, ∀ g ∈ s, f = g ∨ sle f.Limit g.Least ∨ sle g.Limit f.Least
  | [], _, _, f, hf, _, _ => by simp at hf
  | x :: s, pv, h, f, hf, g, hg => by
    have h' := h
    simp only [okF, Bool.and_eq_true] at h
    rcases List.mem_cons.1 hf with e1 | f1 <;> rcases List.mem_cons.1 hg with e2 | g1
    · exact .inl (e1.trans e2.symm)
    · rw [e1]; exact .inr (.inl (okF_far hi h.2.2 _ rfl g g1))
    · rw [e2]; exact .inr (.inr (okF_far hi h.2.2 _ rfl f f1))
    · exact okF_apart hi h.2.2 f f1 g g1
theorem touchF_shut (fs : List File) : ∀ (n : Nat) (a b : ByteArray), slt a b → (fs.filter fun f => !ovB f a b).length < n →
    ∃ a' b', sle a' a ∧ sle b b' ∧ slt a' b' ∧ touchF fs n a b = (fs.filter fun f => ovB f a' b') ∧ stopB (fs.filter fun f => ovB f a' b') a' b' = true
  | 0, a, b, _, h => by omega
  | n + 1, a, b, hab, h => by
    unfold touchF
    by_cases hs : stopB (fs.filter fun f => ovB f a b) a b = true
    · rw [if_pos hs]
      exact ⟨a, b, sle_refl _, sle_refl _, hab, rfl, hs⟩
    · rw [if_neg hs]
      generalize ha' : minS a (spanS (fs.filter fun f => ovB f a b)).1 = a'
      generalize hb' : maxS b (spanS (fs.filter fun f => ovB f a b)).2.1 = b'
      have h1 : sle a' a := ha' ▸ minS_le_l _ _
      have h2 : sle b b' := hb' ▸ maxS_ge_l _ _
      have hab' : slt a' b' := slt_of_le_lt h1 (slt_of_lt_le hab h2)
      have hmono : ∀ f, ovB f a b = true → ovB f a' b' = true := fun f hf => by
        have := (ov_iff hab).1 hf
        exact (ov_iff hab').2 ⟨slt_of_le_lt h1 this.1, slt_of_lt_le this.2 h2⟩
      by_cases hsame : ∀ f ∈ fs, ovB f a' b' = true → ovB f a b = true
      · have heq : fs.filter (fun f => ovB f a' b') = fs.filter fun f => ovB f a b := by
          apply List.filter_congr
          intro f hf
          cases h3 : ovB f a b with
          | true => exact hmono f h3
          | false =>
            cases h4 : ovB f a' b' with
            | true => exact absurd (hsame f hf h4) (by simp [h3])
            | false => rfl
        have hst : stopB (fs.filter fun f => ovB f a' b') a' b' = true := by
          rw [stop_iff, heq]
          right
          rw [← ha', ← hb']
          exact ⟨minS_le_r _ _, maxS_ge_r _ _⟩
        refine ⟨a', b', h1, h2, hab', ?_, hst⟩
        cases n with
        | zero => rfl
        | succ n => simp only [touchF, hst, if_true]
      · obtain ⟨a2, b2, k1, k2, k3, k4, k5⟩ := touchF_shut fs n a' b' hab' (by
          have : (fs.filter fun f => !ovB f a' b').length < (fs.filter fun f => !ovB f a b).length := by
            refine filter_len_lt (fun x _ hx => ?_) ?_
            · cases h3 : ovB x a b with
              | true => rw [hmono x h3] at hx; cases hx
              | false => rfl
            · simp only [Classical.not_forall] at hsame
              obtain ⟨x, hx, h3, h4⟩ := hsame
              exact ⟨x, hx, by simpa using h4, by simp [h3]⟩
          omega)
        exact ⟨a2, b2, sle_trans k1 h1, sle_trans h2 k2, k3, k4, k5⟩
def meets (f : File) (a b : ByteArray) : Prop := slt a f.Limit ∧ slt f.Least b
/-- Level 0: what is not touched does not overlap what is. -/
theorem touch0_apart (l : List (List File)) (files : List File) (hs : slt (spanS files).1 (spanS files).2.1) : ∀ f ∈ ofS l 0, f ∉ touchS l 0 files → ∀ g ∈ touchS l 0 files, ¬ meets f g.Least g.Limit := by
  unfold touchS
  rw [if_neg (by omega)]
  obtain ⟨a, b, h1, h2, h3, h4, h5⟩ := touchF_shut (ofS l 0) ((ofS l 0).length + 1) (spanS files).1 (spanS files).2.1 hs (by
    have := List.length_filter_le (fun f => !ovB f (spanS files).1 (spanS files).2.1) (ofS l 0)
    omega)
  rw [h4]
  intro f hf hn g hg hm
  apply hn
  rw [List.mem_filter]
  refine ⟨hf, (ov_iff h3).2 ?_⟩
  rcases stop_iff.1 h5 with he | ⟨k1, k2⟩
  · rw [he] at hg; simp at hg
  · obtain ⟨_, hsp, _, _⟩ := span_spec (List.ne_nil_of_mem hg)
    obtain ⟨k3, k4⟩ := hsp g hg
    exact ⟨slt_of_le_lt (sle_trans k1 k3) hm.1, slt_of_lt_le hm.2 (sle_trans k4 k2)⟩
theorem touchS_sub (l : List (List File)) (i : Int) (hi : 0 ≤ i) (files : List File) : ∀ f ∈ touchS l i files, f ∈ ofS l i := by
  intro f hf
  unfold touchS at hf
  split at hf
  · exact (List.mem_filter.1 hf).1
  · obtain rfl : i = 0 := by omega
    exact touchF_sub _ _ _ _ f hf
section
variable {l : List (List File)} (hg : goodL l) {c : Config} {r : Nat} (hr : r + 1 < l.length) (hv : validB l = true) (hne : l.getD r [] ≠ []) (last : List ByteArray)
include hg hr hv hne
theorem apart_r (hr0 : 0 < r) : ∀ f ∈ ofS l (r : Int), ∀ g ∈ ofS l (r : Int), f = g ∨ sle f.Limit g.Least ∨ sle g.Limit f.Least := by
  rw [ofS_valid hv (List.getElem?_eq_getElem (show r < l.length by omega))]
  have := okL_get (validB_iff.1 hv).2.2.1 (List.getElem?_eq_getElem (show r < l.length by omega))
  exact okF_apart (i := r) hr0 (by simpa using this)
theorem of_next : ofS l (w64 ((r : Int) + 1)) = l.getD (r + 1) [] := by
  have h7 := (validB_iff.1 hv).2.1
  rw [w64_succ (by omega), ofS_valid hv (List.getElem?_eq_getElem hr)]
  simp [List.getD_eq_getElem?_getD, hr]
theorem apart_next : ∀ f ∈ l.getD (r + 1) [], ∀ g ∈ l.getD (r + 1) [], f = g ∨ sle f.Limit g.Least ∨ sle g.Limit f.Least := by
  have := okL_get (validB_iff.1 hv).2.2.1 (List.getElem?_eq_getElem hr)
  have e : l.getD (r + 1) [] = l[r + 1] := by simp [List.getD_eq_getElem?_getD, hr]
  rw [e]
  exact okF_apart (i := r + 1) (by omega) (by simpa using this)
/-- Whatever files of the level are taken. -/
structure Taken (u low : List File) : Prop where
  ne : u ≠ []
  sub : ∀ f ∈ u, f ∈ l.getD r []
  low : low = (l.getD (r + 1) []).filter fun f => ovB f (spanS u).1 (spanS u).2.1
  apart : ∀ f ∈ l.getD r [], f ∉ u → ∀ g ∈ u, ¬ meets f g.Least g.Limit
theorem plan_taken (c : Config) : Taken (l := l) (r := r) (planS l c r last).Upper (planS l c r last).Lower := by
  have hr' : r < l.length := by omega
  have hof := ofS_r hg hr' hv hne
  have hup := upper_sub hg hr' hv hne last
  have hfirst := first_upper hg hr' hv hne last
  have hmay : ∀ g ∈ ofS l (r : Int), slt g.Least g.Limit := fun g h => may_slt (ofS_may h)
  have hsl : slt (spanS (upperS l r last)).1 (spanS (upperS l r last)).2.1 := span_slt (List.ne_nil_of_mem hfirst) (fun g h => hmay g (hup g h))
  have hlow : ∀ g ∈ underS l r (upperS l r last), slt g.Least g.Limit := fun g h => may_slt (ofS_may (List.mem_filter.1 h).1)
  have hsall : slt (spanS (upperS l r last ++ underS l r (upperS l r last))).1 (spanS (upperS l r last ++ underS l r (upperS l r last))).2.1 :=
    span_slt (by simp [List.ne_nil_of_mem hfirst]) (fun g h => by
      rcases List.mem_append.1 h with h | h
      · exact hmay g (hup g h)
      · exact hlow g h)
  have apart : ∀ u : List File, (∀ f ∈ u, f ∈ ofS l (r : Int)) → (0 < r ∨ ∃ files, slt (spanS files).1 (spanS files).2.1 ∧ u = touchS l 0 files) → ∀ f ∈ l.getD r [], f ∉ u → ∀ g ∈ u, ¬ meets f g.Least g.Limit := by
    intro u hu h f hf hn g hgu hm
    rw [← hof] at hf
    rcases Nat.eq_zero_or_pos r with h0 | h0
    · subst h0
      rcases h with h | ⟨files, hs, rfl⟩
      · omega
      · exact touch0_apart l files hs f hf hn g hgu hm
    · rcases apart_r hg hr hv hne h0 f hf g (hu g hgu) with e | e | e
      · exact hn (e ▸ hgu)
      · exact slt_irrefl _ (slt_of_lt_le hm.1 e)
      · exact slt_irrefl _ (slt_of_lt_le hm.2 e)
  have up : Taken (l := l) (r := r) (upperS l r last) (underS l r (upperS l r last)) := by
    refine ⟨List.ne_nil_of_mem hfirst, fun f hf => hof ▸ hup f hf, ?_, apart _ hup ?_⟩
    · unfold underS overS
      rw [of_next hg hr hv hne]
    · rcases Nat.eq_zero_or_pos r with h0 | h0
      · right
        subst h0
        refine ⟨[firstS (l.getD 0 []) ((0 : Nat) : Int) last], may_slt (ofS_may (first_in hg hr' hv hne last)), ?_⟩
        simp [upperS]
      · exact .inl h0
  unfold planS
  by_cases hw : wideB l c r (upperS l r last) (underS l r (upperS l r last)) (touchS l r (upperS l r last ++ underS l r (upperS l r last))) = true
  · simp only [hw, if_true]
    simp only [wideB, Bool.and_eq_true, decide_eq_true_eq, eqlB_iff] at hw
    have hsub := touchS_sub l (r : Int) (by omega) (upperS l r last ++ underS l r (upperS l r last))
    refine ⟨?_, fun f hf => hof ▸ hsub f hf, ?_, apart _ hsub ?_⟩
    · intro h
      have := hw.1.1
      rw [h] at this
      simp at this
      omega
    · refine Eq.trans hw.1.2.symm ?_
      unfold underS overS
      rw [of_next hg hr hv hne]
    · rcases Nat.eq_zero_or_pos r with h0 | h0
      · right
        subst h0
        exact ⟨_, hsall, rfl⟩
      · exact .inl h0
  · simp only [hw, Bool.false_eq_true, if_false]
    exact up
theorem below_apart {u low : List File} (t : Taken (l := l) (r := r) u low) : ∀ f ∈ l.getD (r + 1) [], f ∉ low → ¬ meets f (spanS (u ++ low)).1 (spanS (u ++ low)).2.1 := by
  intro f hf hn hm
  have hmu : ∀ g ∈ u, slt g.Least g.Limit := by
    intro g h
    have hr' : r < l.length := by omega
    have := t.sub g h
    rw [← ofS_r hg hr' hv hne] at this
    exact may_slt (ofS_may this)
  have hmn : ∀ g ∈ l.getD (r + 1) [], slt g.Least g.Limit := by
    intro g h
    rw [← of_next hg hr hv hne] at h
    exact may_slt (ofS_may h)
  have hs := span_slt t.ne hmu
  obtain ⟨_, hsp, _, _⟩ := span_spec t.ne
  have hnov : ¬ (slt (spanS u).1 f.Limit ∧ slt f.Least (spanS u).2.1) := by
    intro h
    apply hn
    rw [t.low, List.mem_filter]
    exact ⟨hf, (ov_iff hs).2 h⟩
  have hlow : ∀ q ∈ low, q ∈ l.getD (r + 1) [] ∧ slt (spanS u).1 q.Limit ∧ slt q.Least (spanS u).2.1 := by
    intro q hq
    rw [t.low, List.mem_filter] at hq
    exact ⟨hq.1, (ov_iff hs).1 hq.2⟩
  obtain ⟨_, _, ⟨x, hx, ex⟩, ⟨y, hy, ey⟩⟩ := span_spec (fs := u ++ low) (by simp [t.ne])
  unfold meets at hm
  rw [ex, ey] at hm
  by_cases h1 : slt (spanS u).1 f.Limit
  · have h2 : sle (spanS u).2.1 f.Least := fun h => hnov ⟨h1, h⟩
    rcases List.mem_append.1 hy with hy | hy
    · exact slt_irrefl _ (slt_of_lt_le hm.2 (sle_trans (hsp y hy).2 h2))
    · obtain ⟨k1, k2, k3⟩ := hlow y hy
      rcases apart_next hg hr hv hne f hf y k1 with e | e | e
      · exact hn (e ▸ hy)
      · exact slt_irrefl _ (slt_of_lt_le (slt_trans (slt_of_lt_le k3 h2) (hmn f hf)) e)
      · exact slt_irrefl _ (slt_of_lt_le hm.2 e)
  · have h2 : sle f.Limit (spanS u).1 := h1
    rcases List.mem_append.1 hx with hx | hx
    · exact slt_irrefl _ (slt_of_lt_le hm.1 (sle_trans h2 (hsp x hx).1))
    · obtain ⟨k1, k2, k3⟩ := hlow x hx
      rcases apart_next hg hr hv hne f hf x k1 with e | e | e
      · exact hn (e ▸ hx)
      · exact slt_irrefl _ (slt_of_lt_le hm.1 e)
      · exact slt_irrefl _ (slt_of_lt_le k2 (sle_trans e (sle_trans (sle_of_lt (hmn f hf)) h2)))
end
end Go.Proofs.Ytckjpkecipgeiaa.Mo
