/- The document's answers for picks, in plain words: they are the program's. -/
import Derived.Test.YtckjpkecipgeiaaVPr
import Derived.Test.YtckjpkecipgeiaaVPx
set_option linter.unusedVariables false
set_option linter.unusedSimpArgs false
set_option linter.unusedSectionVars false
set_option maxRecDepth 100000
namespace Go.Proofs.Ytckjpkecipgeiaa.Mo
open Go Go.Proofs.Ytckjpkecipgeiaa.Sy

theorem rmay_ev (l : List (List File)) (hg : goodL l) (c : Config) : Ev (fun k => r22_May k l c) (mayS l c) := by
  unfold r22_May mayS
  refine Ev.bind (rvalid_ev l hg) ?_
  have hr : r22_rates c = some (ratesB c) := rfl
  simp only [Jn, hr, Option.bind_some]
  by_cases h : ((((validB l && (c.Levels == (l.length : Int))) && (decide (2 ≤ c.Levels))) && (decide (1 ≤ c.Files0))) && (decide (1 ≤ c.Cut))) = true
  · simp only [if_pos h, h, Bool.true_and]
    exact Ev.ret
  · have h' := Bool.eq_false_iff.2 h
    simp only [h', Bool.false_and, Bool.false_eq_true, if_false]
    exact Ev.ret
theorem rbears_l0 (c : Config) (m : Nat) (hm : m ≤ 6) : ∀ (d j : Nat) (n : Int), j + d = m → Ev (fun k => r22_Bears.l0 c m k n j) (bearsG c d n)
  | 0, j, n, h => by
    refine Ev.succ ?_
    simp only [r22_Bears.l0, decF (show m ≤ j by omega), Bool.false_eq_true, if_false]
    exact Ev.ret
  | d + 1, j, n, h => by
    refine Ev.succ ?_
    simp only [r22_Bears.l0, decT (show j < m by omega), if_true]
    rw [w64_succ (by omega)]
    exact rbears_l0 c m hm d (j + 1) _ (by omega)
theorem rbears_ev (c : Config) (i : Int) : Ev (fun k => r22_Bears k c i) (bearsS c i) := by
  unfold r22_Bears bearsS
  have hr : r22_rates c = some (ratesB c) := rfl
  simp only [Jn, hr, Option.bind_some]
  by_cases h1 : i < 1
  · have e : ((decide (i < 1)) || (decide (7 ≤ i))) = true := by simp [h1]
    have e2 : (((!ratesB c) || (decide (i < 1))) || (decide (6 < i))) = true := by simp [h1]
    simp only [e, e2, if_true]; exact Ev.ret
  · by_cases h7 : 7 ≤ i
    · have e : ((decide (i < 1)) || (decide (7 ≤ i))) = true := by simp [h7]
      have e2 : (((!ratesB c) || (decide (i < 1))) || (decide (6 < i))) = true := by simp; omega
      simp only [e, e2, if_true]; exact Ev.ret
    · have e : ((decide (i < 1)) || (decide (7 ≤ i))) = false := by simp; omega
      simp only [e, Bool.false_eq_true, if_false]
      by_cases hr : ratesB c = true
      · have e2 : (((!ratesB c) || (decide (i < 1))) || (decide (6 < i))) = false := by simp [hr]; omega
        simp only [hr, Bool.not_true, Bool.false_eq_true, if_false] at e2 ⊢
        simp only [e2, Bool.false_eq_true, if_false]
        obtain ⟨m, rfl⟩ : ∃ m : Nat, i = m := ⟨i.toNat, by omega⟩
        have := rbears_l0 c m (by omega) (m - 1) 1 c.Base (by omega)
        have e3 : ((m : Int) - 1).toNat = m - 1 := by omega
        rw [e3]
        exact this
      · have hr' := Bool.eq_false_iff.2 hr
        simp only [hr', Bool.not_false, if_true, Bool.true_or]
        exact Ev.ret
theorem rscore_ev (l : List (List File)) (hg : goodL l) (c : Config) (i : Int) : Ev (fun k => r22_Score k l c i) (scoreS l c i) := by
  unfold r22_Score scoreS
  refine Ev.bind (rmay_ev l hg c) ?_
  by_cases h : (((!mayS l c) || (decide (i < 0))) || (decide ((w64 ((l.length : Int) - 1)) ≤ i))) = true
  · simp only [if_pos h]; exact Ev.ret
  · simp only [if_neg h]
    simp only [Bool.or_eq_true, not_or, decide_eq_true_eq] at h
    have hm : mayS l c = true := by simpa using h.1.1
    have hmi := mayS_iff.1 hm
    have hb := rates_iff.1 hmi.2.2.2.2.2
    have h7 := (validB_iff.1 hmi.1).2.1
    have hw : w64 ((l.length : Int) - 1) = (l.length : Int) - 1 := w64_of (by omega) (by omega)
    by_cases h0 : (i == 0) = true
    · simp only [if_pos h0]
      have hlen : 0 < l.length := by omega
      refine Ev.bind0 (getD_idx2 [] hlen) ?_
      have : ¬ minI c.Files0 268435456 = 0 := by rw [minI_alt]; omega
      simp only [if_neg this]
      exact Ev.ret
    · simp only [if_neg h0]
      refine Ev.bind (rsize_ev l hg i) ?_
      refine Ev.bind (rbears_ev c i) ?_
      have hi : 0 < i ∧ i ≤ 6 := by simp at h0; omega
      have : ¬ bearsS c i = 0 := by
        unfold bearsS
        rw [if_neg (by simp [hmi.2.2.2.2.2]; omega)]
        have := (bearsG_pos hmi.2.2.2.2.2 (i - 1).toNat c.Base ⟨hb.1.1, by omega⟩).1
        omega
      simp only [if_neg this]
      exact Ev.ret

theorem rfirst_l0 (fs : List File) (level : Int) (last : List ByteArray) (fr : ByteArray) (hfr : idx last level = some fr) (hl : fs.length ≤ 9223372036854775000) (hne : fs ≠ []) : ∀ (s p : List File), fs = p ++ s → Ev (fun k => r22_first.l0 fs level last k p.length) (match s.find? (fun f => !sLt f.Least fr) with | some f => f | none => fs.headD zeroF)
  | [], p, hp => by
    refine Ev.succ ?_
    have e : decide ((p.length : Int) < (fs.length : Int)) = false := by rw [hp]; exact lt_end p
    have hhd : idx fs 0 = some (fs.headD zeroF) := by
      cases fs with
      | nil => exact absurd rfl hne
      | cons x s => simp [idx]
    simp only [r22_first.l0, e, Bool.false_eq_true, if_false, hhd, Option.bind_some]
    exact Ev.ret
  | x :: s, p, hp => by
    refine Ev.succ ?_
    have e1 : decide ((p.length : Int) < (fs.length : Int)) = true := by rw [hp]; exact lt_at p s x
    have e2 : idx fs (p.length : Int) = some x := by rw [hp]; exact idx_at p x s
    simp only [r22_first.l0, e1, e2, hfr, if_true, Option.bind_some, step_at p s x (by rw [← hp, maxLen_val]; omega), List.find?_cons]
    by_cases h : (!sLt x.Least fr) = true
    · simp only [h, if_true]; exact Ev.ret
    · have h' := Bool.eq_false_iff.2 h
      simp only [h', Bool.false_eq_true, if_false]
      exact rfirst_l0 fs level last fr hfr hl hne s (p ++ [x]) (by simp [hp])
theorem rfirst_ev (fs : List File) (hl : fs.length ≤ 9223372036854775000) (hne : fs ≠ []) (level : Int) (h0 : 0 ≤ level) (last : List ByteArray) : Ev (fun k => r22_first k fs level last) (firstS fs level last) := by
  unfold r22_first
  have hhd : idx fs 0 = some (fs.headD zeroF) := by
    cases fs with
    | nil => exact absurd rfl hne
    | cons x s => simp [idx]
  by_cases h : ((level == 0) || (decide ((last.length : Int) ≤ level))) = true
  · simp only [h, if_true, hhd, Option.bind_some]
    refine Ev.ret.to ?_
    unfold firstS fromS
    simp only [Bool.or_eq_true, beq_iff_eq, decide_eq_true_eq] at h
    rcases h with h | h
    · rw [if_neg (by omega)]
    · rw [if_neg (show ¬ level < (last.length : Int) by omega)]
      split
      · cases fs with
        | nil => exact absurd rfl hne
        | cons x s =>
          have : (!sLt x.Least (ByteArray.mk #[])) = true := by
            rw [sLt_dec]
            simp [slt_empty]
          simp [List.find?_cons, this]
      · rfl
  · have h' := Bool.eq_false_iff.2 h
    simp only [h', Bool.false_eq_true, if_false]
    simp only [Bool.or_eq_true, not_or, beq_iff_eq, decide_eq_true_eq] at h
    obtain ⟨n, rfl⟩ : ∃ n : Nat, level = n := ⟨level.toNat, by omega⟩
    have := rfirst_l0 fs (n : Int) last _ (getD_idx2 (ByteArray.mk #[]) (show n < last.length by omega)) hl hne fs [] (by simp)
    refine this.to ?_
    unfold firstS fromS
    rw [if_pos (by omega), if_pos (by omega)]
    rfl

theorem filter_same {α : Type} {p q : α → Bool} {l : List α} (h : ∀ x ∈ l, p x = true → q x = true) (hl : (l.filter p).length = (l.filter q).length) : l.filter p = l.filter q := by
  apply List.filter_congr
  intro x hx
  cases h1 : p x with
  | true => exact (h x hx h1).symm
  | false =>
    cases h2 : q x with
    | true =>
      have := filter_len_lt h ⟨x, hx, h2, h1⟩
      omega
    | false => rfl

section
variable (l : List (List File)) (hg : goodL l)
include hg
theorem rtouch_l0 : ∀ (n : Nat) (a b : ByteArray), slt a b → ((ofS l 0).filter fun f => ovB f a b) ≠ [] → ((ofS l 0).filter fun f => !ovB f a b).length < n → Ev (fun k => r22_touch.l0 l 0 k ((ofS l 0).filter fun f => ovB f a b)) (touchF (ofS l 0) n a b)
  | 0, a, b, _, _, h => by omega
  | n + 1, a, b, hab, hne, h => by
    refine Ev.succ ?_
    have z : ((0 : Int) == 0) = true := rfl
    simp only [r22_touch.l0, z, if_true]
    have hml : ((ofS l 0).filter fun f => ovB f a b).length ≤ 2199023255552 := Nat.le_trans (List.length_filter_le _ _) (ofS_len l hg 0)
    refine Ev.bind (rspan_ev _ (by omega)) ?_
    refine Ev.bind (rover_ev l hg 0 _ _) ?_
    obtain ⟨_, hsp, ⟨x, hx, ex⟩, ⟨y, hy, ey⟩⟩ := span_spec hne
    have hval : ∀ f ∈ ofS l 0, slt f.Least f.Limit := fun f hf => may_slt (ofS_may hf)
    have hcd := span_slt hne (fun f hf => hval f (List.mem_filter.1 hf).1)
    simp only [touchF]
    generalize hc : (spanS ((ofS l 0).filter fun f => ovB f a b)).1 = c at *
    generalize hd : (spanS ((ofS l 0).filter fun f => ovB f a b)).2.1 = d at *
    have h1 : sle (minS a c) a := minS_le_l _ _
    have h2 : sle b (maxS b d) := maxS_ge_l _ _
    have hab' : slt (minS a c) (maxS b d) := slt_of_le_lt h1 (slt_of_lt_le hab h2)
    have hov : overS l 0 c d = (ofS l 0).filter fun f => ovB f c d := rfl
    have hx' := (ov_iff hab).1 (List.mem_filter.1 hx).2
    have hy' := (ov_iff hab).1 (List.mem_filter.1 hy).2
    -- the span and what was asked for together touch what the span touches
    have heq : (ofS l 0).filter (fun f => ovB f (minS a c) (maxS b d)) = (ofS l 0).filter fun f => ovB f c d := by
      apply List.filter_congr
      intro f hf
      rw [Bool.eq_iff_iff, ov_iff hab', ov_iff hcd]
      constructor
      · rintro ⟨k1, k2⟩
        constructor
        · rcases minS_or a c with e | e
          · rw [e] at k1
            refine Classical.byContradiction fun hn => ?_
            have h3 : sle f.Limit c := hn
            have h4 : slt f.Least b := slt_trans (slt_of_lt_le (hval f hf) h3) (ex ▸ hx'.2)
            have h5 := (hsp f (List.mem_filter.2 ⟨hf, (ov_iff hab).2 ⟨k1, h4⟩⟩)).1
            exact slt_irrefl _ (slt_of_lt_le (hval f hf) (sle_trans h3 h5))
          · rw [e] at k1; exact k1
        · rcases maxS_or b d with e | e
          · rw [e] at k2
            refine Classical.byContradiction fun hn => ?_
            have h3 : sle d f.Least := hn
            have h4 : slt a f.Limit := slt_trans (slt_of_lt_le (ey ▸ hy'.1) h3) (hval f hf)
            have h5 := (hsp f (List.mem_filter.2 ⟨hf, (ov_iff hab).2 ⟨h4, k2⟩⟩)).2
            exact slt_irrefl _ (slt_of_lt_le (hval f hf) (sle_trans h5 h3))
          · rw [e] at k2; exact k2
      · rintro ⟨k1, k2⟩
        exact ⟨slt_of_le_lt (minS_le_r _ _) k1, slt_of_lt_le k2 (maxS_ge_r _ _)⟩
    have hsub : ∀ f ∈ ofS l 0, ovB f a b = true → ovB f c d = true := fun f hf k => by
      have := hsp f (List.mem_filter.2 ⟨hf, k⟩)
      exact (ov_iff hcd).2 ⟨slt_of_le_lt this.1 (hval f hf), slt_of_lt_le (hval f hf) this.2⟩
    rw [hov]
    by_cases hs : stopB ((ofS l 0).filter fun f => ovB f a b) a b = true
    · rw [if_pos hs]
      have hst := stop_iff.1 hs
      rw [hc, hd] at hst
      rcases hst with h0 | ⟨k1, k2⟩
      · exact absurd h0 hne
      · have e1 : minS a c = a := by
          rcases minS_cases a c with ⟨_, e⟩ | ⟨k, e⟩
          · exact e
          · exact absurd k k1
        have e2 : maxS b d = b := by
          rcases maxS_cases b d with ⟨k, e⟩ | ⟨_, e⟩
          · exact absurd k k2
          · exact e
        rw [e1, e2] at heq
        rw [← heq]
        simp only [beq_self_eq_true, if_true]
        exact Ev.ret
    · rw [if_neg hs]
      by_cases hlen : ((ofS l 0).filter fun f => ovB f a b).length = ((ofS l 0).filter fun f => ovB f c d).length
      · have e : ((((ofS l 0).filter fun f => ovB f c d).length : Int) == (((ofS l 0).filter fun f => ovB f a b).length : Int)) = true := by rw [hlen]; exact beq_self_eq_true _
        simp only [e, if_true]
        have hsame := filter_same hsub hlen
        have hst : stopB ((ofS l 0).filter fun f => ovB f (minS a c) (maxS b d)) (minS a c) (maxS b d) = true := by
          rw [stop_iff, heq, ← hsame, hc, hd]
          exact .inr ⟨minS_le_r _ _, maxS_ge_r _ _⟩
        have hr : touchF (ofS l 0) n (minS a c) (maxS b d) = (ofS l 0).filter fun f => ovB f (minS a c) (maxS b d) := by
          cases n with
          | zero => rfl
          | succ n => simp only [touchF, hst, if_true]
        rw [hr, heq, ← hsame]
        exact Ev.ret
      · have e : ((((ofS l 0).filter fun f => ovB f c d).length : Int) == (((ofS l 0).filter fun f => ovB f a b).length : Int)) = false := beq_eq_false_iff_ne.2 (by omega)
        simp only [e, Bool.false_eq_true, if_false]
        have next := rtouch_l0 n (minS a c) (maxS b d) hab' (by
          rw [heq]
          exact List.ne_nil_of_mem (List.mem_filter.2 ⟨(List.mem_filter.1 hx).1, hsub x (List.mem_filter.1 hx).1 (List.mem_filter.1 hx).2⟩)) (by
          have hne2 : ∃ f ∈ ofS l 0, ovB f c d = true ∧ ovB f a b = false := by
            refine Classical.byContradiction fun hno => hlen ?_
            congr 1
            apply List.filter_congr
            intro f hf
            cases h3 : ovB f a b with
            | true => exact (hsub f hf h3).symm
            | false =>
              cases h4 : ovB f c d with
              | true => exact absurd ⟨f, hf, h4, h3⟩ hno
              | false => rfl
          obtain ⟨f, hf, h3, h4⟩ := hne2
          have hmono : ∀ g, ovB g a b = true → ovB g (minS a c) (maxS b d) = true := fun g hgm => by
            have := (ov_iff hab).1 hgm
            exact (ov_iff hab').2 ⟨slt_of_le_lt h1 this.1, slt_of_lt_le this.2 h2⟩
          have : ((ofS l 0).filter fun f => !ovB f (minS a c) (maxS b d)).length < ((ofS l 0).filter fun f => !ovB f a b).length := by
            refine filter_len_lt (fun g _ hgm => ?_) ⟨f, hf, by simp [h4], ?_⟩
            · cases h5 : ovB g a b with
              | true => rw [hmono g h5] at hgm; cases hgm
              | false => rfl
            · have := (ov_iff hcd).1 h3
              rw [(ov_iff hab').2 ⟨slt_of_le_lt (minS_le_r _ _) this.1, slt_of_lt_le this.2 (maxS_ge_r _ _)⟩]
              rfl
          omega)
        rw [heq] at next
        exact next
theorem rtouch_ev (i : Int) (hi : 0 ≤ i) (files : List File) (hl : files.length ≤ 9223372036854775000) (hs : slt (spanS files).1 (spanS files).2.1) (hne : i = 0 → overS l 0 (spanS files).1 (spanS files).2.1 ≠ []) : Ev (fun k => r22_touch k l i files) (touchS l i files) := by
  unfold r22_touch touchS
  refine Ev.bind (rspan_ev files hl) ?_
  refine Ev.bind (rover_ev l hg i _ _) ?_
  by_cases h : 0 < i
  · simp only [if_pos h]
    refine Ev.succ ?_
    have z : (i == 0) = false := beq_eq_false_iff_ne.2 (by omega)
    simp only [r22_touch.l0, z, Bool.false_eq_true, if_false]
    exact Ev.ret
  · simp only [if_neg h]
    obtain rfl : i = 0 := by omega
    refine rtouch_l0 l hg _ _ _ hs (hne rfl) ?_
    have := List.length_filter_le (fun f => !ovB f (spanS files).1 (spanS files).2.1) (ofS l 0)
    omega
theorem rbelow_ev (i : Int) (files : List File) (hl : files.length ≤ 9223372036854775000) : Ev (fun k => r22_below k l i files) (underS l i files) := by
  unfold r22_below underS
  refine Ev.bind (rspan_ev files hl) ?_
  refine Ev.bind (rover_ev l hg _ _ _) ?_
  exact Ev.ret
end
theorem rsame_l0 (a b : List File) (hab : a.length = b.length) (hl : a.length ≤ 9223372036854775000) : ∀ (u v p q : List File), a = p ++ u → b = q ++ v → p.length = q.length → Ev (fun k => r22_same.l0 a b k p.length) (eqlB u v)
  | [], v, p, q, hp, hq, he => by
    have : v = [] := by
      rw [hp, hq] at hab
      simp at hab
      exact List.eq_nil_of_length_eq_zero (by omega)
    subst this
    subst hp
    refine Ev.succ ?_
    simp only [r22_same.l0, lt_end, Bool.false_eq_true, if_false]
    exact Ev.ret
  | x :: u, [], p, q, hp, hq, he => by
    rw [hp, hq] at hab
    simp at hab
    omega
  | x :: u, y :: v, p, q, hp, hq, he => by
    have e1 : decide ((p.length : Int) < (a.length : Int)) = true := by rw [hp]; exact lt_at p u x
    have e2 : idx a (p.length : Int) = some x := by rw [hp]; exact idx_at p x u
    have e3 : idx b (p.length : Int) = some y := by rw [hq, he]; exact idx_at q y v
    refine Ev.succ ?_
    simp only [r22_same.l0, e1, e2, e3, if_true, Option.bind_some, step_at p u x (by rw [← hp, maxLen_val]; omega), eqlB]
    by_cases h : File.eqb x y = true
    · simp only [h, Bool.not_true, Bool.false_eq_true, if_false, Bool.true_and]
      exact rsame_l0 a b hab hl u v (p ++ [x]) (q ++ [y]) (by simp [hp]) (by simp [hq]) (by simp [he])
    · have h' := Bool.eq_false_iff.2 h
      simp only [h', Bool.not_false, if_true, Bool.false_and]
      exact Ev.ret
theorem eqlB_len {a b : List File} (h : ¬ a.length = b.length) : eqlB a b = false := by
  cases hh : eqlB a b with
  | false => rfl
  | true => exact absurd (congrArg List.length (eqlB_iff.1 hh)) h
theorem rsame_ev (a b : List File) (hl : a.length ≤ 9223372036854775000) : Ev (fun k => r22_same k a b) (eqlB a b) := by
  unfold r22_same
  by_cases h : a.length = b.length
  · have e : ((a.length : Int) != (b.length : Int)) = false := by simp [h]
    simp only [e, Bool.false_eq_true, if_false]
    exact rsame_l0 a b h hl a b [] [] (by simp) (by simp) rfl
  · have e : ((a.length : Int) != (b.length : Int)) = true := by simp; omega
    simp only [e, if_true]
    exact Ev.ret.to (eqlB_len h).symm
theorem rbytes_l0 (fs : List File) (hl : fs.length ≤ 9223372036854775000) : ∀ (s p : List File) (n : Int), fs = p ++ s → Ev (fun k => r22_bytes.l0 fs k n p.length) (s.foldl (fun n f => w64 (n + f.Size)) n)
  | [], p, n, hp => by
    subst hp
    refine Ev.succ ?_
    simp only [r22_bytes.l0, lt_end, Bool.false_eq_true, if_false]
    exact Ev.ret
  | f :: s, p, n, hp => by
    refine Ev.succ ?_
    subst hp
    simp only [r22_bytes.l0, lt_at, idx_at, if_true, Option.bind_some, step_at p s f (by rw [maxLen_val]; omega)]
    have := rbytes_l0 (p ++ f :: s) hl s (p ++ [f]) (w64 (n + f.Size)) (by simp)
    simpa using this
theorem rbytes_ev (fs : List File) (hl : fs.length ≤ 9223372036854775000) : Ev (fun k => r22_bytes k fs) (sizeS fs) := rbytes_l0 fs hl fs [] 0 (by simp)

/-! ### Next -/
def asR (p : pick_Plan) : R22_Plan := ⟨p.Level, p.Upper, p.Lower, p.Trivial⟩
section
variable {l : List (List File)} (hg : goodL l) {c : Config} {r : Nat} (hr : r < l.length) (hv : validB l = true) (hne : l.getD r [] ≠ []) (last : List ByteArray)
include hg hr hv hne
theorem rplan_ev : Ev (fun k => (idx l (r : Int)).bind fun x71 => (r22_first k x71 r last).bind fun r76 => Jn (fun (l_55 : (List File)) => (r22_below k l r l_55).bind fun r86 => (pushN 3518437208730 ([]) l_55).bind fun l93 => (pushN 3518437208730 l93 r86).bind fun l96 => (r22_touch k l r l96).bind fun r99 => Jn (fun (l_68 : (List File)) => some ((⟨r, l_68, r86, (((l_68.length : Int) == 1) && ((r86.length : Int) == 0))⟩ : R22_Plan), true)) (fun J_70 => Jn (fun (b_71 : Bool) (l_75 : (List File)) => Jn (fun (b_76 : Bool) => if b_76 = true then (J_70 r99) else (J_70 l_55)) (fun J_77 => if b_71 = true then ((r22_bytes k r99).bind fun r143 => (r22_bytes k r86).bind fun r145 => J_77 (decide ((w64 (r143 + r145)) ≤ (w64 (25 * (minI c.Cut 268435456)))))) else (J_77 false))) (fun J_72 => if (decide ((l_55.length : Int) < (r99.length : Int))) = true then ((r22_below k l r r99).bind fun r148 => (r22_same k r148 r86).bind fun r151 => J_72 r151 r148) else (J_72 false ([]))))) (fun J_57 => if ((r : Int) == 0) = true then ((r22_touch k l 0 ([r76])).bind fun r154 => J_57 r154) else (J_57 ([r76])))) (asR (planS l c r last), true) := by
  have hlr : (l.getD r []).length ≤ 2199023255552 := by rw [← ofS_r hg hr hv hne]; exact ofS_len l hg _
  refine Ev.bind0 (getD_idx2 [] hr) ?_
  refine Ev.bind (rfirst_ev _ (by omega) hne r (by omega) last) ?_
  simp only [Jn]
  have hsub := upper_sub hg hr hv hne last
  have hfu := first_upper hg hr hv hne last
  have hup : ∀ g ∈ upperS l r last, mayB g = true := fun g h => ofS_may (hsub g h)
  have hul := upper_len hg hr hv hne last
  have hun : upperS l r last ≠ [] := List.ne_nil_of_mem hfu
  have hll : (underS l r (upperS l r last)).length ≤ 2199023255552 := Nat.le_trans (List.length_filter_le _ _) (ofS_len l hg _)
  have hall : ∀ g ∈ upperS l r last ++ underS l r (upperS l r last), slt g.Least g.Limit := by
    intro g h
    rcases List.mem_append.1 h with h | h
    · exact may_slt (hup g h)
    · exact may_slt (ofS_may (List.mem_filter.1 h).1)
  have hsp := span_slt (fs := upperS l r last ++ underS l r (upperS l r last)) (by simp [hun]) hall
  have hsp9 := span_spec (fs := upperS l r last ++ underS l r (upperS l r last)) (by simp [hun])
  have hwl : (touchS l r (upperS l r last ++ underS l r (upperS l r last))).length ≤ 2199023255552 := by
    unfold touchS
    split
    · exact Nat.le_trans (List.length_filter_le _ _) (ofS_len l hg _)
    · exact Nat.le_trans (touchF_len _ _ _ _) (ofS_len l hg _)
  have hul2 : (underS l r (touchS l r (upperS l r last ++ underS l r (upperS l r last)))).length ≤ 2199023255552 := Nat.le_trans (List.length_filter_le _ _) (ofS_len l hg _)
  have hfx : ∀ files : List File, files ≠ [] → (∀ g ∈ files, slt g.Least g.Limit) → ∀ f ∈ files, f ∈ ofS l (r : Int) → ((r : Int) = 0 → overS l 0 (spanS files).1 (spanS files).2.1 ≠ []) := by
    intro files hn hvf f hf hfo h0
    have hs := span_slt hn hvf
    obtain ⟨_, h, _, _⟩ := span_spec hn
    rw [h0] at hfo
    exact List.ne_nil_of_mem (List.mem_filter.2 ⟨hfo, (ov_iff hs).2 ⟨slt_of_le_lt (h f hf).1 (hvf f hf), slt_of_lt_le (hvf f hf) (h f hf).2⟩⟩)
  have rest : Ev (fun k => (r22_below k l r (upperS l r last)).bind fun r86 => (pushN 3518437208730 ([]) (upperS l r last)).bind fun l93 => (pushN 3518437208730 l93 r86).bind fun l96 => (r22_touch k l r l96).bind fun r99 =>
      if (decide (((upperS l r last).length : Int) < (r99.length : Int))) = true then ((r22_below k l r r99).bind fun r148 => (r22_same k r148 r86).bind fun r151 => if r151 = true then ((r22_bytes k r99).bind fun r143 => (r22_bytes k r86).bind fun r145 => if (decide ((w64 (r143 + r145)) ≤ (w64 (25 * (minI c.Cut 268435456))))) = true then (some ((⟨r, r99, r86, (((r99.length : Int) == 1) && ((r86.length : Int) == 0))⟩ : R22_Plan), true)) else (some ((⟨r, upperS l r last, r86, ((((upperS l r last).length : Int) == 1) && ((r86.length : Int) == 0))⟩ : R22_Plan), true)))
          else if false = true then (some ((⟨r, r99, r86, (((r99.length : Int) == 1) && ((r86.length : Int) == 0))⟩ : R22_Plan), true)) else (some ((⟨r, upperS l r last, r86, ((((upperS l r last).length : Int) == 1) && ((r86.length : Int) == 0))⟩ : R22_Plan), true)))
        else if false = true then ((r22_bytes k r99).bind fun r143 => (r22_bytes k r86).bind fun r145 => if (decide ((w64 (r143 + r145)) ≤ (w64 (25 * (minI c.Cut 268435456))))) = true then (some ((⟨r, r99, r86, (((r99.length : Int) == 1) && ((r86.length : Int) == 0))⟩ : R22_Plan), true)) else (some ((⟨r, upperS l r last, r86, ((((upperS l r last).length : Int) == 1) && ((r86.length : Int) == 0))⟩ : R22_Plan), true)))
          else if false = true then (some ((⟨r, r99, r86, (((r99.length : Int) == 1) && ((r86.length : Int) == 0))⟩ : R22_Plan), true)) else (some ((⟨r, upperS l r last, r86, ((((upperS l r last).length : Int) == 1) && ((r86.length : Int) == 0))⟩ : R22_Plan), true))) (asR (planS l c r last), true) := by
    refine Ev.bind (rbelow_ev l hg r _ (by omega)) ?_
    refine Ev.bind0 (pushN_ok (by simp; omega)) ?_
    refine Ev.bind0 (pushN_ok (by simp; omega)) ?_
    rw [List.nil_append]
    refine Ev.bind (rtouch_ev l hg r (by omega) _ (by rw [List.length_append]; omega) hsp (hfx _ (by simp [hun]) hall _ (List.mem_append_left _ hfu) (hsub _ hfu))) ?_
    unfold planS wideB asR
    by_cases h1 : ((upperS l r last).length : Int) < ((touchS l r (upperS l r last ++ underS l r (upperS l r last))).length : Int)
    · simp only [h1, decide_true, if_true, Bool.true_and]
      refine Ev.bind (rbelow_ev l hg r _ (by omega)) ?_
      refine Ev.bind (rsame_ev _ _ (by omega)) ?_
      by_cases h2 : eqlB (underS l r (touchS l r (upperS l r last ++ underS l r (upperS l r last)))) (underS l r (upperS l r last)) = true
      · simp only [h2, if_true, Bool.true_and]
        refine Ev.bind (rbytes_ev _ (by omega)) ?_
        refine Ev.bind (rbytes_ev _ (by omega)) ?_
        by_cases h3 : w64 (sizeS (touchS l r (upperS l r last ++ underS l r (upperS l r last))) + sizeS (underS l r (upperS l r last))) ≤ w64 (25 * (minI c.Cut 268435456))
        · simp only [h3, decide_true, if_true]; exact Ev.ret
        · simp only [h3, decide_false, Bool.false_eq_true, if_false]; exact Ev.ret
      · have h2' := Bool.eq_false_iff.2 h2
        simp only [h2', Bool.false_eq_true, if_false, Bool.false_and]
        exact Ev.ret
    · simp only [h1, decide_false, Bool.false_eq_true, if_false, Bool.false_and]
      exact Ev.ret
  by_cases h0 : r = 0
  · subst h0
    simp only [Int.natCast_zero, beq_self_eq_true, if_true] at rest hfx ⊢
    have hf := first_in hg hr hv hne last
    have hs1 : slt (firstS (l.getD 0 []) 0 last).Least (firstS (l.getD 0 []) 0 last).Limit := may_slt (ofS_may hf)
    refine Ev.bind (rtouch_ev l hg 0 (by omega) [firstS (l.getD 0 []) 0 last] (by simp) hs1 (fun _ => hfx [firstS (l.getD 0 []) 0 last] (by simp) (fun g h => by simp at h; subst h; exact hs1) _ (by simp) hf trivial)) ?_
    have hu : upperS l 0 last = touchS l 0 [firstS (l.getD 0 []) 0 last] := by simp [upperS]
    rw [hu] at rest
    exact rest
  · have hz : ((r : Int) == 0) = false := by simp; omega
    have hu : upperS l r last = [firstS (l.getD r []) r last] := by simp [upperS, h0]
    simp only [hz, Bool.false_eq_true, if_false]
    rw [hu] at rest
    simpa using rest
end

/-- Of the first n levels, the fullest that is full. -/
def TopOf (l : List (List File)) (c : Config) (n : Nat) (best lev : Int) : Prop := (lev = -1 ∧ best = 0 ∧ ∀ i : Nat, i < n → scoreS l c (i : Int) < 1000) ∨
  ∃ m : Nat, m < n ∧ lev = m ∧ best = scoreS l c (m : Int) ∧ 1000 ≤ best ∧ ∀ i : Nat, i < n → scoreS l c (i : Int) ≤ best ∧ (i < m → scoreS l c (i : Int) < best)
theorem rnext_l0 (l : List (List File)) (hg : goodL l) (c : Config) (last : List ByteArray) : ∀ (d j : Nat) (best lev : Int), j + d = l.length → TopOf l c j best lev → Ev (fun k => r22_Next.l0 l c last k best lev j) (asR (nextS l c last).1, (nextS l c last).2)
  | 0, j, best, lev, h, ht => by
    have hj : j = l.length := by omega
    subst hj
    refine Ev.succ ?_
    simp only [r22_Next.l0, decF (Nat.le_refl l.length), Bool.false_eq_true, if_false]
    rcases ht with ⟨rfl, rfl, h3⟩ | ⟨m, hm, rfl, rfl, h2, h3⟩
    · have e : decide ((-1 : Int) < 0) = true := rfl
      simp only [e, if_true]
      refine Ev.ret.to ?_
      unfold nextS
      split
      · rename_i hmay
        have hv1 := (validB_iff.1 (mayS_iff.1 hmay).1).1
        have hb := (bestN_spec (l := scoresS l c) (by
          intro h
          have := scores_len l c
          rw [h] at this
          simp at this
          omega)).1
        rw [scores_len] at hb
        rw [scores_get hb, if_pos (h3 _ hb)]
        rfl
      · rfl
    · have e : decide ((m : Int) < 0) = false := decide_eq_false (by omega)
      simp only [e, Bool.false_eq_true, if_false]
      obtain ⟨hmay, _, hne⟩ := full_ne (c := c) m hm (by omega)
      have hv := (mayS_iff.1 hmay).1
      obtain ⟨hb, hb2⟩ := bestN_spec (l := scoresS l c) (by
          intro h
          have := scores_len l c
          rw [h] at this
          simp at this
          omega)
      rw [scores_len] at hb hb2
      have hbm : bestN (scoresS l c) = m := by
        have k1 := hb2 m hm
        have k2 := h3 _ hb
        rw [scores_get hm, scores_get hb] at k1
        rcases Nat.lt_trichotomy (bestN (scoresS l c)) m with h | h | h
        · have := k2.2 h; omega
        · exact h
        · have := k1.2 h; omega
      have hnx : nextS l c last = (planS l c m last, true) := by
        unfold nextS
        rw [if_pos hmay, hbm, scores_get hm, if_neg (by omega)]
      rw [hnx]
      exact rplan_ev hg hm hv hne last
  | d + 1, j, best, lev, h, ht => by
    refine Ev.succ ?_
    have hlen := hg.2
    simp only [r22_Next.l0, decT (show j < l.length by omega), if_true, Jn]
    refine Ev.bind (rscore_ev l hg c j) ?_
    rw [w64_succ (by omega)]
    by_cases hc : 1000 ≤ scoreS l c (j : Int) ∧ best < scoreS l c (j : Int)
    · have e : ((decide (1000 ≤ scoreS l c (j : Int))) && (decide (best < scoreS l c (j : Int)))) = true := by simp [hc.1, hc.2]
      simp only [e, if_true]
      refine rnext_l0 l hg c last d (j + 1) _ _ (by omega) (.inr ⟨j, by omega, rfl, rfl, hc.1, fun i hi => ?_⟩)
      rcases Nat.lt_or_eq_of_le (Nat.le_of_lt_succ hi) with h1 | rfl
      · rcases ht with ⟨_, _, h3⟩ | ⟨m, hm, _, _, h2, h3⟩
        · have := h3 i h1; omega
        · have := (h3 i h1).1; omega
      · exact ⟨Int.le_refl _, fun h => absurd h (Nat.lt_irrefl _)⟩
    · have e : ((decide (1000 ≤ scoreS l c (j : Int))) && (decide (best < scoreS l c (j : Int)))) = false := by
        rw [Bool.and_eq_false_iff]
        by_cases h1 : 1000 ≤ scoreS l c (j : Int)
        · right; exact decide_eq_false (fun h2 => hc ⟨h1, h2⟩)
        · left; exact decide_eq_false h1
      simp only [e, Bool.false_eq_true, if_false]
      refine rnext_l0 l hg c last d (j + 1) _ _ (by omega) ?_
      rcases ht with ⟨rfl, rfl, h3⟩ | ⟨m, hm, rfl, h1, h2, h3⟩
      · refine .inl ⟨rfl, rfl, fun i hi => ?_⟩
        rcases Nat.lt_or_eq_of_le (Nat.le_of_lt_succ hi) with h4 | rfl
        · exact h3 i h4
        · omega
      · refine .inr ⟨m, by omega, rfl, h1, h2, fun i hi => ?_⟩
        rcases Nat.lt_or_eq_of_le (Nat.le_of_lt_succ hi) with h4 | rfl
        · exact h3 i h4
        · exact ⟨by omega, fun h => by omega⟩
theorem rnext_ev (l : List (List File)) (hg : goodL l) (c : Config) (last : List ByteArray) : Ev (fun k => r22_Next k l c last) (asR (nextS l c last).1, (nextS l c last).2) :=
  rnext_l0 l hg c last l.length 0 0 (-1) (by omega) (.inl ⟨rfl, rfl, fun i hi => by omega⟩)
end Go.Proofs.Ytckjpkecipgeiaa.Mo
