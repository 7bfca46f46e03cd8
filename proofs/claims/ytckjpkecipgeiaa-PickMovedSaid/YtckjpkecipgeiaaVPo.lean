import Derived.Test.YtckjpkecipgeiaaVPn
set_option linter.unusedVariables false
set_option linter.unusedSimpArgs false
set_option maxRecDepth 100000
set_option linter.unusedSectionVars false
namespace Go.Proofs.Ytckjpkecipgeiaa.Mo
open Go Go.Proofs.Ytckjpkecipgeiaa.Sy
theorem minS_le_l (a b : ByteArray) : sle (minS a b) a := by
  rcases minS_cases a b with ⟨h, e⟩ | ⟨h, e⟩ <;> rw [e]
  · exact sle_refl _
  · exact sle_of_lt h
theorem minS_le_r (a b : ByteArray) : sle (minS a b) b := by
  rcases minS_cases a b with ⟨h, e⟩ | ⟨h, e⟩ <;> rw [e]
  · exact h
  · exact sle_refl _
theorem maxS_ge_l (a b : ByteArray) : sle a (maxS a b) := by
  rcases maxS_cases a b with ⟨h, e⟩ | ⟨h, e⟩ <;> rw [e]
  · exact sle_of_lt h
  · exact sle_refl _
theorem maxS_ge_r (a b : ByteArray) : sle b (maxS a b) := by
  rcases maxS_cases a b with ⟨h, e⟩ | ⟨h, e⟩ <;> rw [e]
  · exact sle_refl _
  · exact h
theorem minS_or (a b : ByteArray) : minS a b = a ∨ minS a b = b := by
  rcases minS_cases a b with ⟨h, e⟩ | ⟨h, e⟩ <;> simp [e]
theorem maxS_or (a b : ByteArray) : maxS a b = a ∨ maxS a b = b := by
  rcases maxS_cases a b with ⟨h, e⟩ | ⟨h, e⟩ <;> simp [e]
theorem leastG_le (m : ByteArray) : ∀ r : List File, sle (leastG m r) m ∧ ∀ f ∈ r, sle (leastG m r) f.Least := by
  intro r
  induction r generalizing m with
  | nil => exact ⟨sle_refl _, fun f hf => by simp at hf⟩
  | cons x r ih =>
    obtain ⟨h1, h2⟩ := ih (minS m x.Least)
    show sle (leastG (minS m x.Least) r) m ∧ ∀ f ∈ x :: r, sle (leastG (minS m x.Least) r) f.Least
    refine ⟨sle_trans h1 (minS_le_l _ _), fun f hf => ?_⟩
    rcases List.mem_cons.1 hf with rfl | hf
    · exact sle_trans h1 (minS_le_r _ _)
    · exact h2 f hf
theorem limitG_ge (m : ByteArray) : ∀ r : List File, sle m (limitG m r) ∧ ∀ f ∈ r, sle f.Limit (limitG m r) := by
  intro r
  induction r generalizing m with
  | nil => exact ⟨sle_refl _, fun f hf => by simp at hf⟩
  | cons x r ih =>
    obtain ⟨h1, h2⟩ := ih (maxS m x.Limit)
    show sle m (limitG (maxS m x.Limit) r) ∧ ∀ f ∈ x :: r, sle f.Limit (limitG (maxS m x.Limit) r)
    refine ⟨sle_trans (maxS_ge_l _ _) h1, fun f hf => ?_⟩
    rcases List.mem_cons.1 hf with rfl | hf
    · exact sle_trans (maxS_ge_r _ _) h1
    · exact h2 f hf
theorem leastG_mem (m : ByteArray) : ∀ r : List File, leastG m r = m ∨ ∃ f ∈ r, leastG m r = f.Least := by
  intro r
  induction r generalizing m with
  | nil => exact .inl rfl
  | cons x r ih =>
    show leastG (minS m x.Least) r = m ∨ ∃ f ∈ x :: r, leastG (minS m x.Least) r = f.Least
    rcases ih (minS m x.Least) with h | ⟨f, hf, h⟩
    · rcases minS_or m x.Least with e | e
      · exact .inl (h.trans e)
      · exact .inr ⟨x, by simp, h.trans e⟩
    · exact .inr ⟨f, by simp [hf], h⟩
theorem limitG_mem (m : ByteArray) : ∀ r : List File, limitG m r = m ∨ ∃ f ∈ r, limitG m r = f.Limit := by
  intro r
  induction r generalizing m with
  | nil => exact .inl rfl
  | cons x r ih =>
    show limitG (maxS m x.Limit) r = m ∨ ∃ f ∈ x :: r, limitG (maxS m x.Limit) r = f.Limit
    rcases ih (maxS m x.Limit) with h | ⟨f, hf, h⟩
    · rcases maxS_or m x.Limit with e | e
      · exact .inl (h.trans e)
      · exact .inr ⟨x, by simp, h.trans e⟩
    · exact .inr ⟨f, by simp [hf], h⟩
/-- What a span is. -/
theorem span_spec {fs : List File} (hne : fs ≠ []) : (spanS fs).2.2 = true ∧ (∀ f ∈ fs, sle (spanS fs).1 f.Least ∧ sle f.Limit (spanS fs).2.1) ∧ (∃ f ∈ fs, (spanS fs).1 = f.Least) ∧ ∃ f ∈ fs, (spanS fs).2.1 = f.Limit := by
  cases fs with
  | nil => exact absurd rfl hne
  | cons x r =>
    refine ⟨rfl, fun f hf => ?_, ?_, ?_⟩
    · rcases List.mem_cons.1 hf with rfl | hf
      · exact ⟨(leastG_le _ _).1, (limitG_ge _ _).1⟩
      · exact ⟨(leastG_le _ _).2 f hf, (limitG_ge _ _).2 f hf⟩
    · rcases leastG_mem x.Least r with h | ⟨f, hf, h⟩
      · exact ⟨x, by simp, h⟩
      · exact ⟨f, by simp [hf], h⟩
    · rcases limitG_mem x.Limit r with h | ⟨f, hf, h⟩
      · exact ⟨x, by simp, h⟩
      · exact ⟨f, by simp [hf], h⟩
theorem span_slt {fs : List File} (hne : fs ≠ []) (hv : ∀ f ∈ fs, slt f.Least f.Limit) : slt (spanS fs).1 (spanS fs).2.1 := by
  obtain ⟨_, h, ⟨f, hf, he⟩, _⟩ := span_spec hne
  rw [he]
  exact slt_of_lt_le (hv f hf) (h f hf).2
theorem not_empty_of_slt {a b : ByteArray} (h : slt a b) : b ≠ ByteArray.mk #[] := fun e => slt_empty a (e ▸ h)
theorem ov_iff {f : File} {a b : ByteArray} (h : slt a b) : ovB f a b = true ↔ slt a f.Limit ∧ slt f.Least b := by
  simp only [ovB, version_overlaps, Option.getD_some, Bool.and_eq_true, Bool.or_eq_true, sEq_iff, not_empty_of_slt h, false_or, sLt_iff, Bool.not_eq_true']
  have e1 : (sLt f.Limit a || sEq f.Limit a) = false ↔ slt a f.Limit := by rw [sLe_dec]; exact ⟨fun h => Classical.not_not.1 (of_decide_eq_false h), fun h => decide_eq_false (fun k => k h)⟩
  have e2 : (sLt b a || sEq b a) = false ↔ slt a b := by rw [sLe_dec]; exact ⟨fun h => Classical.not_not.1 (of_decide_eq_false h), fun h => decide_eq_false (fun k => k h)⟩
  rw [e1, e2]
  exact ⟨fun h => ⟨h.1, h.2.1⟩, fun k => ⟨k.1, k.2, h⟩⟩
def stopB (m : List File) (a b : ByteArray) : Bool := (!(spanS m).2.2) || ((sLt a (spanS m).1 || sEq a (spanS m).1) && (sLt (spanS m).2.1 b || sEq (spanS m).2.1 b))
theorem stop_iff {m : List File} {a b : ByteArray} : stopB m a b = true ↔ (m = [] ∨ sle a (spanS m).1 ∧ sle (spanS m).2.1 b) := by
  unfold stopB
  rw [sLe_dec, sLe_dec]
  cases m with
  | nil => simp [spanS]
  | cons x r => simp only [spanS, Bool.not_true, Bool.false_or, Bool.and_eq_true, reduceCtorEq, false_or]; exact ⟨fun h => ⟨of_decide_eq_true h.1, of_decide_eq_true h.2⟩, fun h => ⟨decide_eq_true h.1, decide_eq_true h.2⟩⟩
def touchF (fs : List File) : Nat → ByteArray → ByteArray → List File
  | 0, a, b => fs.filter fun f => ovB f a b
  | n + 1, a, b => if stopB (fs.filter fun f => ovB f a b) a b = true then fs.filter fun f => ovB f a b else touchF fs n (minS a (spanS (fs.filter fun f => ovB f a b)).1) (maxS b (spanS (fs.filter fun f => ovB f a b)).2.1)
theorem filter_len_lt {α : Type} {p q : α → Bool} : ∀ {l : List α}, (∀ x ∈ l, p x = true → q x = true) → (∃ x ∈ l, q x = true ∧ p x = false) → (l.filter p).length < (l.filter q).length
  | [], _, h => by obtain ⟨x, hx, _⟩ := h; simp at hx
  | x :: l, hpq, h => by
    have hle : (l.filter p).length ≤ (l.filter q).length := by
      have := hpq
      clear h
      induction l with
      | nil => simp
      | cons y l ih =>
        have ih' := ih (fun z hz => hpq z (by
          rcases List.mem_cons.1 hz with rfl | hz
          · simp
          · simp [hz])) (fun z hz => this z (by
          rcases List.mem_cons.1 hz with rfl | hz
          · simp
          · simp [hz]))
        have hy := hpq y (by simp)
        simp only [List.filter_cons]
        split
        · rename_i h1
          rw [if_pos (hy h1)]
          simpa using ih'
        · split
          · simp; omega
          · exact ih'
    obtain ⟨y, hy, h1, h2⟩ := h
    simp only [List.filter_cons]
    rcases List.mem_cons.1 hy with rfl | hy
    · rw [if_neg (by simp [h2]), if_pos h1]
      simp; omega
    · have := filter_len_lt (fun z hz => hpq z (by simp [hz])) ⟨y, hy, h1, h2⟩
      have hx := hpq x (by simp)
      split
      · rename_i h3
        rw [if_pos (hx h3)]
        simpa using this
      · split
        · simp; omega
        · exact this
section
variable (l : List (List File)) (hg : goodL l)
include hg
theorem touchN_ev (i : Int) (hi : 0 < i) (a b : ByteArray) : Ev (fun k => pick_touching.l0 l i k a b) (overS l i a b) := by
  refine Ev.succ ?_
  simp only [pick_touching.l0]
  refine Ev.bind (over_ev l hg i a b) ?_
  have hl : (overS l i a b).length ≤ 9223372036854775000 := by
    have h1 := ofS_len l hg i
    have h2 := List.length_filter_le (fun f => ovB f a b) (ofS l i)
    unfold overS; omega
  refine Ev.bind (span_ev _ hl) ?_
  simp only [hi, decide_true, Bool.true_or, if_true]
  exact Ev.ret
theorem touch0_step (a b : ByteArray) (r : List File) (h : stopB (overS l 0 a b) a b = false → Ev (fun k => pick_touching.l0 l 0 k (minS a (spanS (overS l 0 a b)).1) (maxS b (spanS (overS l 0 a b)).2.1)) r) (h2 : stopB (overS l 0 a b) a b = true → r = overS l 0 a b) :
    Ev (fun k => pick_touching.l0 l 0 k a b) r := by
  refine Ev.succ ?_
  simp only [pick_touching.l0]
  refine Ev.bind (over_ev l hg 0 a b) ?_
  have hl : (overS l 0 a b).length ≤ 9223372036854775000 := by
    have h1 := ofS_len l hg 0
    have h2 := List.length_filter_le (fun f => ovB f a b) (ofS l 0)
    unfold overS; omega
  refine Ev.bind (span_ev _ hl) ?_
  have e : ((decide ((0 : Int) < 0)) || (!(spanS (overS l 0 a b)).2.2)) = (!(spanS (overS l 0 a b)).2.2) := by simp
  rw [e]
  by_cases hs : stopB (overS l 0 a b) a b = true
  · rw [h2 hs]
    unfold stopB at hs
    simp only [hs, if_true]
    exact Ev.ret
  · have hs' := Bool.eq_false_iff.2 hs
    have := h hs'
    unfold stopB at hs'
    simp only [hs', Bool.false_eq_true, if_false]
    exact this
theorem touch0_ev : ∀ (n : Nat) (a b : ByteArray), slt a b → ((ofS l 0).filter fun f => !ovB f a b).length < n → Ev (fun k => pick_touching.l0 l 0 k a b) (touchF (ofS l 0) n a b)
  | 0, a, b, _, h => by omega
  | n + 1, a, b, hab, h => by
    have hov : overS l 0 a b = (ofS l 0).filter fun f => ovB f a b := rfl
    refine touch0_step l hg a b _ (fun hs => ?_) (fun hs => ?_)
    · rw [hov] at hs ⊢
      simp only [touchF, hs, Bool.false_eq_true, if_false]
      generalize ha' : minS a (spanS ((ofS l 0).filter fun f => ovB f a b)).1 = a'
      generalize hb' : maxS b (spanS ((ofS l 0).filter fun f => ovB f a b)).2.1 = b'
      have h1 : sle a' a := ha' ▸ minS_le_l _ _
      have h2 : sle b b' := hb' ▸ maxS_ge_l _ _
      have hab' : slt a' b' := slt_of_le_lt h1 (slt_of_lt_le hab h2)
      have hmono : ∀ f, ovB f a b = true → ovB f a' b' = true := fun f hf => by
        have := (ov_iff hab).1 hf
        exact (ov_iff hab').2 ⟨slt_of_le_lt h1 this.1, slt_of_lt_le this.2 h2⟩
      by_cases hsame : ∀ f ∈ ofS l 0, ovB f a' b' = true → ovB f a b = true
      · have heq : (ofS l 0).filter (fun f => ovB f a' b') = (ofS l 0).filter fun f => ovB f a b := by
          apply List.filter_congr
          intro f hf
          cases h3 : ovB f a b with
          | true => exact hmono f h3
          | false =>
            cases h4 : ovB f a' b' with
            | true => exact absurd (hsame f hf h4) (by simp [h3])
            | false => rfl
        have hst : stopB ((ofS l 0).filter fun f => ovB f a' b') a' b' = true := by
          rw [stop_iff, heq]
          right
          rw [← ha', ← hb']
          exact ⟨minS_le_r _ _, maxS_ge_r _ _⟩
        have hr : touchF (ofS l 0) n a' b' = (ofS l 0).filter fun f => ovB f a' b' := by
          cases n with
          | zero => rfl
          | succ n => simp only [touchF, hst, if_true]
        rw [hr]
        exact touch0_step l hg a' b' _ (fun h => by rw [show overS l 0 a' b' = (ofS l 0).filter fun f => ovB f a' b' from rfl, hst] at h; cases h) (fun _ => rfl)
      · refine touch0_ev n a' b' hab' ?_
        have : ((ofS l 0).filter fun f => !ovB f a' b').length < ((ofS l 0).filter fun f => !ovB f a b).length := by
          refine filter_len_lt (fun x _ hx => ?_) ?_
          · cases h3 : ovB x a b with
            | true => rw [hmono x h3] at hx; cases hx
            | false => rfl
          · simp only [Classical.not_forall] at hsame
            obtain ⟨x, hx, h3, h4⟩ := hsame
            exact ⟨x, hx, by simpa using h4, by simp [h3]⟩
        omega
    · rw [hov] at hs ⊢
      simp only [touchF, hs, if_true]
def touchS (i : Int) (files : List File) : List File := if 0 < i then overS l i (spanS files).1 (spanS files).2.1 else touchF (ofS l 0) ((ofS l 0).length + 1) (spanS files).1 (spanS files).2.1
theorem touch_ev (i : Int) (hi : 0 ≤ i) (files : List File) (hl : files.length ≤ 9223372036854775000) (hs : slt (spanS files).1 (spanS files).2.1) : Ev (fun k => pick_touching k l i files) (touchS l i files) := by
  unfold pick_touching touchS
  refine Ev.bind (span_ev files hl) ?_
  by_cases h : 0 < i
  · simp only [if_pos h]
    exact touchN_ev l hg i h _ _
  · simp only [if_neg h]
    obtain rfl : i = 0 := by omega
    refine touch0_ev l hg _ _ _ hs ?_
    have := List.length_filter_le (fun f => !ovB f (spanS files).1 (spanS files).2.1) (ofS l 0)
    omega
def underS (i : Int) (files : List File) : List File := overS l (w64 (i + 1)) (spanS files).1 (spanS files).2.1
theorem under_ev (i : Int) (files : List File) (hl : files.length ≤ 9223372036854775000) : Ev (fun k => pick_under k l i files) (underS l i files) := by
  unfold pick_under underS
  refine Ev.bind (span_ev files hl) ?_
  refine Ev.bind (over_ev l hg _ _ _) ?_
  exact Ev.ret
end
theorem touchF_sub (fs : List File) : ∀ (n : Nat) (a b : ByteArray), ∀ f ∈ touchF fs n a b, f ∈ fs
  | 0, a, b, f, hf => (List.mem_filter.1 hf).1
  | n + 1, a, b, f, hf => by
    unfold touchF at hf
    split at hf
    · exact (List.mem_filter.1 hf).1
    · exact touchF_sub fs n _ _ f hf
theorem touchF_len (fs : List File) : ∀ (n : Nat) (a b : ByteArray), (touchF fs n a b).length ≤ fs.length
  | 0, a, b => List.length_filter_le _ _
  | n + 1, a, b => by
    unfold touchF
    split
    · exact List.length_filter_le _ _
    · exact touchF_len fs n _ _
/-- It is all that overlaps some keys, those asked for among them. -/
theorem touchF_is (fs : List File) : ∀ (n : Nat) (a b : ByteArray), ∃ a' b', sle a' a ∧ sle b b' ∧ touchF fs n a b = fs.filter fun f => ovB f a' b'
  | 0, a, b => ⟨a, b, sle_refl _, sle_refl _, rfl⟩
  | n + 1, a, b => by
    unfold touchF
    split
    · exact ⟨a, b, sle_refl _, sle_refl _, rfl⟩
    · obtain ⟨a', b', h1, h2, h3⟩ := touchF_is fs n (minS a (spanS (fs.filter fun f => ovB f a b)).1) (maxS b (spanS (fs.filter fun f => ovB f a b)).2.1)
      exact ⟨a', b', sle_trans h1 (minS_le_l _ _), sle_trans (maxS_ge_l _ _) h2, h3⟩
def scoresS (l : List (List File)) (c : Config) : List Int := (List.range l.length).map fun i : Nat => scoreS l c (i : Int)
def upperS (l : List (List File)) (r : Nat) (last : List ByteArray) : List File := if r = 0 then touchS l 0 [firstS (l.getD r []) r last] else [firstS (l.getD r []) r last]
def wideB (l : List (List File)) (c : Config) (r : Nat) (up low wide : List File) : Bool := (decide ((up.length : Int) < (wide.length : Int)) && eqlB (underS l r wide) low) && decide (w64 (sizeS wide + sizeS low) ≤ w64 (25 * (minI c.Cut 268435456)))
def planS (l : List (List File)) (c : Config) (r : Nat) (last : List ByteArray) : pick_Plan :=
  let up := upperS l r last
  let low := underS l r up
  let wide := touchS l r (up ++ low)
  let u := if wideB l c r up low wide = true then wide else up
  ⟨r, u, low, ((u.length : Int) == 1) && ((low.length : Int) == 0)⟩
def nextS (l : List (List File)) (c : Config) (last : List ByteArray) : pick_Plan × Bool :=
  if mayS l c = true then (if (scoresS l c).getD (bestN (scoresS l c)) 0 < 1000 then (⟨0, [], [], false⟩, false) else (planS l c (bestN (scoresS l c)) last, true)) else (⟨0, [], [], false⟩, false)
theorem scores_get {l : List (List File)} {c : Config} {j : Nat} (hj : j < l.length) : (scoresS l c).getD j 0 = scoreS l c (j : Int) := by
  simp [scoresS, List.getD_eq_getElem?_getD, hj]
theorem scores_len (l : List (List File)) (c : Config) : (scoresS l c).length = l.length := by simp [scoresS]
theorem sizeS_nil : sizeS [] = 0 := rfl
/-- A level that is full has files. -/
theorem full_ne {l : List (List File)} {c : Config} (r : Nat) (hr : r < l.length) (h : ¬ scoreS l c (r : Int) < 1000) : mayS l c = true ∧ r + 1 < l.length ∧ l.getD r [] ≠ [] := by
  unfold scoreS at h
  split at h
  · omega
  · rename_i h1
    simp only [Bool.or_eq_true, not_or, decide_eq_true_eq] at h1
    have hm : mayS l c = true := by simpa using h1.1.1
    have hv := (mayS_iff.1 hm).1
    have h7 := (validB_iff.1 hv).2.1
    have hw : w64 ((l.length : Int) - 1) = (l.length : Int) - 1 := w64_of (by omega) (by omega)
    refine ⟨hm, by omega, fun he => ?_⟩
    split at h
    · rename_i h0
      have : r = 0 := by simpa using h0
      subst this
      rw [he] at h
      have e : w64 (1000 * ((([] : List File).length : Nat) : Int)) = 0 := by decide
      rw [e, Int.zero_tdiv] at h
      exact h (by decide)
    · have : ofS l (r : Int) = [] := by
        rw [ofS_valid hv (List.getElem?_eq_getElem hr)]
        simpa [List.getD_eq_getElem?_getD, hr] using he
      rw [this, sizeS_nil] at h
      revert h
      have e : w64 (1000 * 0) = 0 := by decide
      rw [e, Int.zero_tdiv]
      decide
theorem may_slt {f : File} (h : mayB f = true) : slt f.Least f.Limit := (may_iff.1 h).2.2.2.1
theorem ofS_may {l : List (List File)} {i : Int} {f : File} (h : f ∈ ofS l i) : mayB f = true := by
  unfold ofS at h
  split at h
  · simp at h
  · rename_i h1
    simp only [Bool.or_eq_true, not_or, decide_eq_true_eq] at h1
    have hv : validB l = true := by simpa using h1.1.1
    obtain ⟨n, rfl⟩ : ∃ n : Nat, i = n := ⟨i.toNat, by omega⟩
    have hn : n < l.length := by omega
    rw [List.getD_eq_getElem?_getD, Int.toNat_natCast, List.getElem?_eq_getElem hn] at h
    exact okF_may (okL_get (validB_iff.1 hv).2.2.1 (List.getElem?_eq_getElem hn)) f h
section
variable {l : List (List File)} (hg : goodL l) {c : Config} {r : Nat} (hr : r < l.length) (hv : validB l = true) (hne : l.getD r [] ≠ []) (last : List ByteArray)
include hg hr hv hne
theorem ofS_r : ofS l (r : Int) = l.getD r [] := by
  rw [ofS_valid hv (List.getElem?_eq_getElem hr)]
  simp [List.getD_eq_getElem?_getD, hr]
theorem first_in : firstS (l.getD r []) r last ∈ ofS l (r : Int) := by
  rw [ofS_r hg hr hv hne]; exact firstS_mem hne _ _
theorem upper_sub : ∀ f ∈ upperS l r last, f ∈ ofS l (r : Int) := by
  intro f hf
  unfold upperS at hf
  split at hf
  · rename_i h; subst h
    unfold touchS at hf
    rw [if_neg (by omega)] at hf
    exact touchF_sub _ _ _ _ f hf
  · simp at hf; subst hf
    exact first_in hg hr hv hne last
theorem first_upper : firstS (l.getD r []) r last ∈ upperS l r last := by
  have hm := first_in hg hr hv hne last
  have hs := may_slt (ofS_may hm)
  unfold upperS
  split
  · rename_i h; subst h
    unfold touchS
    rw [if_neg (by omega)]
    obtain ⟨a', b', h1, h2, h3⟩ := touchF_is (ofS l 0) ((ofS l 0).length + 1) (spanS [firstS (l.getD 0 []) ((0 : Nat) : Int) last]).1 (spanS [firstS (l.getD 0 []) ((0 : Nat) : Int) last]).2.1
    rw [h3, List.mem_filter]
    refine ⟨hm, ?_⟩
    have e1 : (spanS [firstS (l.getD 0 []) ((0 : Nat) : Int) last]).1 = (firstS (l.getD 0 []) ((0 : Nat) : Int) last).Least := rfl
    have e2 : (spanS [firstS (l.getD 0 []) ((0 : Nat) : Int) last]).2.1 = (firstS (l.getD 0 []) ((0 : Nat) : Int) last).Limit := rfl
    rw [e1] at h1
    rw [e2] at h2
    have hab : slt a' b' := slt_of_le_lt h1 (slt_of_lt_le hs h2)
    exact (ov_iff hab).2 ⟨slt_of_le_lt h1 hs, slt_of_lt_le hs h2⟩
  · simp
theorem upper_len : (upperS l r last).length ≤ 2147483647 := by
  unfold upperS
  split
  · rename_i h; subst h
    unfold touchS
    rw [if_neg (by omega)]
    refine Nat.le_trans (touchF_len _ _ _ _) ?_
    rw [show ((0 : Int)) = ((0 : Nat) : Int) from rfl, ofS_valid hv (List.getElem?_eq_getElem hr)]
    have := okL_get (validB_iff.1 hv).2.2.1 (List.getElem?_eq_getElem hr)
    exact level0_len (by simpa using this)
  · simp
theorem plan_ev : Ev (fun k => (idx l (r : Int)).bind fun x126 => (pick_first k x126 r last).bind fun r131 => Jn (fun (l_37 : (List File)) => (pick_under k l r l_37).bind fun r141 => (slices_Concat_File k ([l_37, r141])).bind fun r147 => (pick_touching k l r r147).bind fun r151 => Jn (fun (l_50 : (List File)) => some ((⟨r, l_50, r141, (((l_50.length : Int) == 1) && ((r141.length : Int) == 0))⟩ : pick_Plan), true)) (fun J_52 => Jn (fun (b_53 : Bool) (l_57 : (List File)) => Jn (fun (b_58 : Bool) => if b_58 = true then (J_52 r151) else (J_52 l_37)) (fun J_59 => if b_53 = true then ((pick_size k r151).bind fun r195 => (pick_size k r141).bind fun r197 => J_59 (decide ((w64 (r195 + r197)) ≤ (w64 (25 * (minI c.Cut 268435456)))))) else (J_59 false))) (fun J_54 => if (decide ((l_37.length : Int) < (r151.length : Int))) = true then ((pick_under k l r r151).bind fun r200 => (slices_Equal_File k r200 r141).bind fun r203 => J_54 r203 r200) else (J_54 false ([]))))) (fun J_39 => if ((r : Int) == 0) = true then ((pick_touching k l 0 ([r131])).bind fun r206 => J_39 r206) else (J_39 ([r131])))) (planS l c r last, true) := by
  have hgr : idx l (r : Int) = some (l.getD r []) := by rw [getD_idx hr]; simp [List.getD_eq_getElem?_getD, hr]
  have hlr : (l.getD r []).length ≤ 2199023255552 := by rw [← ofS_r hg hr hv hne]; exact ofS_len l hg _
  refine Ev.bind0 hgr ?_
  refine Ev.bind (first_ev _ (by omega) hne r (by omega) last) ?_
  simp only [Jn]
  -- behind the choice of the files above
  have hup : ∀ g ∈ upperS l r last, mayB g = true := fun g h => ofS_may (upper_sub hg hr hv hne last g h)
  have hul := upper_len hg hr hv hne last
  have hun : upperS l r last ≠ [] := List.ne_nil_of_mem (first_upper hg hr hv hne last)
  have hll : (underS l r (upperS l r last)).length ≤ 2199023255552 := Nat.le_trans (List.length_filter_le _ _) (ofS_len l hg _)
  have hall : ∀ g ∈ upperS l r last ++ underS l r (upperS l r last), slt g.Least g.Limit := by
    intro g h
    rcases List.mem_append.1 h with h | h
    · exact may_slt (hup g h)
    · exact may_slt (ofS_may (List.mem_filter.1 h).1)
  have hsp := span_slt (fs := upperS l r last ++ underS l r (upperS l r last)) (by simp [hun]) hall
  have hwl : (touchS l r (upperS l r last ++ underS l r (upperS l r last))).length ≤ 2199023255552 := by
    unfold touchS
    split
    · exact Nat.le_trans (List.length_filter_le _ _) (ofS_len l hg _)
    · exact Nat.le_trans (touchF_len _ _ _ _) (ofS_len l hg _)
  have hul2 : (underS l r (touchS l r (upperS l r last ++ underS l r (upperS l r last)))).length ≤ 2199023255552 := Nat.le_trans (List.length_filter_le _ _) (ofS_len l hg _)
  have rest : Ev (fun k => (pick_under k l r (upperS l r last)).bind fun r141 => (slices_Concat_File k ([upperS l r last, r141])).bind fun r147 => (pick_touching k l r r147).bind fun r151 =>
      if (decide (((upperS l r last).length : Int) < (r151.length : Int))) = true then ((pick_under k l r r151).bind fun r200 => (slices_Equal_File k r200 r141).bind fun r203 => if r203 = true then ((pick_size k r151).bind fun r195 => (pick_size k r141).bind fun r197 => if (decide ((w64 (r195 + r197)) ≤ (w64 (25 * (minI c.Cut 268435456))))) = true then (some ((⟨r, r151, r141, (((r151.length : Int) == 1) && ((r141.length : Int) == 0))⟩ : pick_Plan), true)) else (some ((⟨r, upperS l r last, r141, ((((upperS l r last).length : Int) == 1) && ((r141.length : Int) == 0))⟩ : pick_Plan), true)))
          else if false = true then (some ((⟨r, r151, r141, (((r151.length : Int) == 1) && ((r141.length : Int) == 0))⟩ : pick_Plan), true)) else (some ((⟨r, upperS l r last, r141, ((((upperS l r last).length : Int) == 1) && ((r141.length : Int) == 0))⟩ : pick_Plan), true)))
        else if false = true then ((pick_size k r151).bind fun r195 => (pick_size k r141).bind fun r197 => if (decide ((w64 (r195 + r197)) ≤ (w64 (25 * (minI c.Cut 268435456))))) = true then (some ((⟨r, r151, r141, (((r151.length : Int) == 1) && ((r141.length : Int) == 0))⟩ : pick_Plan), true)) else (some ((⟨r, upperS l r last, r141, ((((upperS l r last).length : Int) == 1) && ((r141.length : Int) == 0))⟩ : pick_Plan), true)))
          else if false = true then (some ((⟨r, r151, r141, (((r151.length : Int) == 1) && ((r141.length : Int) == 0))⟩ : pick_Plan), true)) else (some ((⟨r, upperS l r last, r141, ((((upperS l r last).length : Int) == 1) && ((r141.length : Int) == 0))⟩ : pick_Plan), true))) (planS l c r last, true) := by
    refine Ev.bind (under_ev l hg r _ (by omega)) ?_
    refine Ev.bind (concat_ev _ _ (by omega)) ?_
    refine Ev.bind (touch_ev l hg r (by omega) _ (by rw [List.length_append]; omega) hsp) ?_
    unfold planS wideB
    by_cases h1 : ((upperS l r last).length : Int) < ((touchS l r (upperS l r last ++ underS l r (upperS l r last))).length : Int)
    · simp only [h1, decide_true, if_true, Bool.true_and]
      refine Ev.bind (under_ev l hg r _ (by omega)) ?_
      refine Ev.bind (equal_ev _ _ (by omega)) ?_
      by_cases h2 : eqlB (underS l r (touchS l r (upperS l r last ++ underS l r (upperS l r last)))) (underS l r (upperS l r last)) = true
      · simp only [h2, if_true, Bool.true_and]
        refine Ev.bind (bytes_ev _ (by omega)) ?_
        refine Ev.bind (bytes_ev _ (by omega)) ?_
        by_cases h3 : w64 (sizeS (touchS l r (upperS l r last ++ underS l r (upperS l r last))) + sizeS (underS l r (upperS l r last))) ≤ w64 (25 * (minI c.Cut 268435456))
        · simp only [h3, decide_true, if_true]; exact Ev.ret
        · simp only [h3, decide_false, Bool.false_eq_true, if_false]; exact Ev.ret
      · have h2' := Bool.eq_false_iff.2 h2
        simp only [h2', Bool.false_eq_true, if_false, Bool.false_and]
        exact Ev.ret
    · simp only [h1, decide_false, Bool.false_eq_true, if_false, Bool.false_and]
      exact Ev.ret
  by_cases h0 : r = 0
  · subst h0
    simp only [Int.natCast_zero, beq_self_eq_true, if_true] at rest ⊢
    have hf := first_in hg hr hv hne last
    have hs1 : slt (spanS [firstS (l.getD 0 []) 0 last]).1 (spanS [firstS (l.getD 0 []) 0 last]).2.1 := may_slt (ofS_may hf)
    refine Ev.bind (touch_ev l hg 0 (by omega) [firstS (l.getD 0 []) 0 last] (by simp) hs1) ?_
    have hu : upperS l 0 last = touchS l 0 [firstS (l.getD 0 []) 0 last] := by simp [upperS]
    rw [hu] at rest
    exact rest
  · have hz : ((r : Int) == 0) = false := by simp; omega
    have hu : upperS l r last = [firstS (l.getD r []) r last] := by simp [upperS, h0]
    simp only [hz, Bool.false_eq_true, if_false]
    rw [hu] at rest
    simpa using rest
end
theorem next_l0 (l : List (List File)) (hg : goodL l) (c : Config) (last : List ByteArray) (hm : mayS l c = true) : ∀ (d j : Nat), j + d = l.length → Ev (fun k => pick_Next.l0 l c last k ((List.range j).map fun i : Nat => scoreS l c (i : Int)) j) (nextS l c last)
  | 0, j, h => by
    have hj : j = l.length := by omega
    subst hj
    refine Ev.succ ?_
    have e : decide ((l.length : Int) < (l.length : Int)) = false := by simp
    have hv := (mayS_iff.1 hm).1
    have h1 := (validB_iff.1 hv).1
    have h7 := (validB_iff.1 hv).2.1
    simp only [pick_Next.l0, e, Bool.false_eq_true, if_false]
    have hsl : ((List.range l.length).map fun i : Nat => scoreS l c (i : Int)) = scoresS l c := rfl
    rw [hsl]
    refine Ev.bind (best_ev (scoresS l c) (by rw [scores_len]; omega)) ?_
    have hb := bestN_spec (l := scoresS l c) (by
      intro h
      have := scores_len l c
      rw [h] at this
      simp at this
      omega)
    have hbl : bestN (scoresS l c) < l.length := by have := hb.1; rwa [scores_len] at this
    have hgd : idx (scoresS l c) (bestN (scoresS l c) : Int) = some ((scoresS l c).getD (bestN (scoresS l c)) 0) := getD_idx2 0 hb.1
    refine Ev.bind0 hgd ?_
    unfold nextS
    simp only [if_pos hm]
    by_cases hlt : (scoresS l c).getD (bestN (scoresS l c)) 0 < 1000
    · simp only [hlt, decide_true, if_true]
      exact Ev.ret
    · simp only [hlt, decide_false, Bool.false_eq_true, if_false]
      have hlt' := hlt
      rw [scores_get hbl] at hlt'
      obtain ⟨_, _, hne⟩ := full_ne (bestN (scoresS l c)) hbl hlt'
      exact plan_ev hg hbl hv hne last
  | d + 1, j, h => by
    refine Ev.succ ?_
    have hv := (mayS_iff.1 hm).1
    have h7 := (validB_iff.1 hv).2.1
    have e : decide ((j : Int) < (l.length : Int)) = true := by simp; omega
    simp only [pick_Next.l0, e, if_true]
    refine Ev.bind (score_ev l hg c j) ?_
    simp only [push_ok (show ((List.range j).map fun i : Nat => scoreS l c (i : Int)).length < 28147497670912 by simp; omega), Option.bind_some, w64_succ (show j < 9223372036854775807 by omega)]
    have := next_l0 l hg c last hm d (j + 1) (by omega)
    rw [List.range_succ, List.map_append] at this
    exact this
theorem next_ev (l : List (List File)) (hg : goodL l) (c : Config) (last : List ByteArray) : Ev (fun k => pick_Next k l c last) (nextS l c last) := by
  unfold pick_Next
  refine Ev.bind (pmay_ev l hg c) ?_
  by_cases h : mayS l c = true
  · simp only [h, Bool.not_true, Bool.false_eq_true, if_false]
    exact next_l0 l hg c last h l.length 0 (by omega)
  · have h' := Bool.eq_false_iff.2 h
    simp only [h', Bool.not_false, if_true]
    unfold nextS
    rw [if_neg h]
    exact Ev.ret
end Go.Proofs.Ytckjpkecipgeiaa.Mo
