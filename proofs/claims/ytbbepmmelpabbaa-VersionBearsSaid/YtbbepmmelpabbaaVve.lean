/- Bears: the law in plain words. -/
import Derived.Test.YtbbepmmelpabbaaVvd
set_option linter.unusedVariables false
set_option linter.unusedSectionVars false
set_option linter.unusedSimpArgs false
set_option maxRecDepth 100000
namespace Go.Proofs.Ytbbepmmelpabbaa.Mo
open Go Go.Proofs.Ytbbepmmelpabbaa.Sy

theorem askR_bad {l : List (List File)} (h : validB l = false) (key : ByteArray) : ∀ n j, askR l key j n = []
  | 0, _ => rfl
  | n + 1, j => by rw [askR, ofS_bad h, askR_bad h key n]; rfl
theorem asksS_bad {l : List (List File)} (h : validB l = false) (key : ByteArray) : asksS l key = [] := by
  rw [asksS, ofS_bad h, askR_bad h]; rfl

/-! ### How many bear -/
def cntB (key : ByteArray) (fs : List File) : Nat := fs.countP fun f => bearsB f key
theorem askI_cnt (i : Int) (key : ByteArray) (fs : List File) : (askI i key fs).length = cntB key fs := by
  simp [askI, cntB, List.countP_eq_length_filter]
theorem askR_cnt {l : List (List File)} (hv : validB l = true) (key : ByteArray) : ∀ (s p : List (List File)), l = p ++ s → (askR l key p.length s.length).length = cntB key s.flatten
  | [], p, hp => rfl
  | fs :: s, p, hp => by
    have := askR_cnt hv key s (p ++ [fs]) (by simp [hp])
    rw [List.length_append, List.length_singleton] at this
    simp only [List.length_cons, askR, List.length_append, askI_cnt, ofS_at hp hv, this, List.flatten_cons, cntB, List.countP_append]
theorem asksS_cnt {l : List (List File)} (hv : validB l = true) (key : ByteArray) : (asksS l key).length = cntB key l.flatten := by
  cases l with
  | nil => exact absurd hv (by decide)
  | cons x s =>
    have h1 := askR_cnt hv key s [x] rfl
    have h0 : ofS (x :: s) 0 = x := ofS_at (p := []) rfl hv
    rw [asksS, List.length_append, askI_cnt, h0]
    simp only [List.length_singleton] at h1
    have e : (x :: s).length - 1 = s.length := by simp
    rw [e, h1]
    simp only [cntB, List.flatten_cons, List.countP_append, List.countP_reverse]

theorem bear_l1 (l : List (List File)) (key : ByteArray) (p0 s0 : List (List File)) (fs : List File) (hp0 : l = p0 ++ fs :: s0) (hf : fs.length ≤ 2199023255552) : ∀ (s p : List File) (n : Nat), fs = p ++ s → n + s.length ≤ 9223372036854775000 →
    ∀ (J : Nat → Int → Option Bool) b, Ev (fun k => J k ((n + cntB key s : Nat) : Int)) b → Ev (fun k => l16_VersionBears.l1 l key p0.length (J k) k n p.length) b
  | [], p, n, hp, hn, J, b, hJ => by
    refine Ev.succ ?_
    subst hp
    simp only [l16_VersionBears.l1]
    refine Ev.bind0 (idx_l hp0) ?_
    simp only [lt_end, Bool.false_eq_true, if_false]
    simpa [cntB] using hJ.shift
  | f :: s, p, n, hp, hn, J, b, hJ => by
    refine Ev.succ ?_
    subst hp
    simp only [List.length_cons] at hn
    simp only [l16_VersionBears.l1]
    refine Ev.bind0 (idx_l hp0) ?_
    simp only [lt_at, if_true, Jn]
    refine Ev.bind0 (idx_l hp0) ?_
    refine Ev.bind0 (idx_at p f s) ?_
    rw [step_at p s f (by rw [maxLen_val]; omega)]
    have hw : w64 ((n : Int) + 1) = ((n + 1 : Nat) : Int) := by rw [w64_of (by omega) (by omega)]; omega
    by_cases h1 : (sLt f.Least key || sEq f.Least key) = true
    · simp only [h1, if_true]
      refine Ev.bind0 (idx_l hp0) ?_
      refine Ev.bind0 (idx_at p f s) ?_
      by_cases h2 : sLt key f.Limit = true
      · simp only [h2, if_true, hw]
        refine bear_l1 l key p0 s0 (p ++ f :: s) hp0 hf s (p ++ [f]) (n + 1) (by simp) (by omega) (fun k => J (k + 1)) b ?_
        have hb : bearsB f key = true := by simp only [bearsB, h1, h2, Bool.and_self]
        have e : cntB key (f :: s) = cntB key s + 1 := List.countP_cons_of_pos hb
        rw [e] at hJ
        have := hJ.shift
        rwa [show n + (cntB key s + 1) = n + 1 + cntB key s by omega] at this
      · simp only [h2, if_false]
        refine bear_l1 l key p0 s0 (p ++ f :: s) hp0 hf s (p ++ [f]) n (by simp) (by omega) (fun k => J (k + 1)) b ?_
        have hb : ¬ bearsB f key = true := by simp only [bearsB, h1, h2, Bool.true_and]; simp
        have e : cntB key (f :: s) = cntB key s := List.countP_cons_of_neg hb
        rw [e] at hJ
        exact hJ.shift
    · simp only [h1, if_false, Bool.false_eq_true]
      refine bear_l1 l key p0 s0 (p ++ f :: s) hp0 hf s (p ++ [f]) n (by simp) (by omega) (fun k => J (k + 1)) b ?_
      have hb : ¬ bearsB f key = true := by simp only [bearsB, h1, Bool.false_and]; simp
      have e : cntB key (f :: s) = cntB key s := List.countP_cons_of_neg hb
      rw [e] at hJ
      exact hJ.shift

/-! ### The answer's order -/
def after (a b : Place) : Prop := a.Level ≤ b.Level ∧ (a.Level = b.Level → ¬ 0 < b.Level ∧ b.Number < a.Number)
theorem askI_lev {i : Int} {key : ByteArray} {fs : List File} {q : Place} (h : q ∈ askI i key fs) : q.Level = i ∧ ∃ f ∈ fs, f.Number = q.Number ∧ bearsB f key = true := by
  obtain ⟨f, hf, rfl⟩ := List.mem_map.1 h
  obtain ⟨h1, h2⟩ := List.mem_filter.1 hf
  exact ⟨rfl, f, h1, rfl, h2⟩
theorem askR_lev {l : List (List File)} {key : ByteArray} : ∀ {n j : Nat} {q : Place}, q ∈ askR l key j n → (j : Int) ≤ q.Level ∧ ∃ f ∈ ofS l q.Level, f.Number = q.Number ∧ bearsB f key = true
  | 0, j, q, h => by simp [askR] at h
  | n + 1, j, q, h => by
    rcases List.mem_append.1 h with h | h
    · obtain ⟨e, g⟩ := askI_lev h
      rw [e]
      exact ⟨Int.le_refl _, g⟩
    · obtain ⟨e, g⟩ := askR_lev h
      exact ⟨by omega, g⟩
theorem asksS_mem {l : List (List File)} {key : ByteArray} {q : Place} (h : q ∈ asksS l key) : ∃ f ∈ ofS l q.Level, f.Number = q.Number ∧ bearsB f key = true := by
  rcases List.mem_append.1 h with h | h
  · obtain ⟨e, f, hf, g⟩ := askI_lev h
    exact ⟨f, by rw [e]; simpa using hf, g⟩
  · exact (askR_lev h).2
theorem askR_pw {l : List (List File)} {key : ByteArray} : ∀ (n j : Nat), 0 < j → (askR l key j n).Pairwise after
  | 0, _, _ => List.Pairwise.nil
  | n + 1, j, hj => by
    rw [askR, List.pairwise_append]
    refine ⟨?_, askR_pw n (j + 1) (by omega), fun a ha b hb => ?_⟩
    · have hok : okF j none (ofS l (j : Int)) = true := ofS_okF
      rw [askI, List.pairwise_map, List.pairwise_filter]
      refine (okF_lim hj hok).2.imp fun {a b} hab ha hb => ?_
      exact absurd (slt_of_lt_le (bears_iff.1 ha).2 hab) (bears_iff.1 hb).1
    · have h1 := (askI_lev ha).1
      have h2 := (askR_lev hb).1
      exact ⟨by omega, fun e => by omega⟩
theorem okF0_rise : ∀ {s : List File} {pv : Option File}, okF 0 pv s = true → (∀ q, pv = some q → ∀ f ∈ s, q.Number < f.Number) ∧ s.Pairwise fun a b => a.Number < b.Number
  | [], pv, _ => ⟨fun _ _ f h => absurd h (by simp), List.Pairwise.nil⟩
  | f :: s, pv, h => by
    simp only [okF, Bool.and_eq_true, Bool.not_eq_true'] at h
    obtain ⟨hm, hb, hs⟩ := h
    obtain ⟨h1, h2⟩ := okF0_rise hs
    refine ⟨fun q hq g hg => ?_, List.pairwise_cons.2 ⟨fun g hg => h1 f rfl g hg, h2⟩⟩
    subst hq
    have hqf : q.Number < f.Number := by
      simp only [badO, bad, if_true] at hb
      simpa using hb
    rcases List.mem_cons.1 hg with rfl | hg
    · exact hqf
    · have := h1 f rfl g hg
      omega
theorem asksS_pw (l : List (List File)) (key : ByteArray) : (asksS l key).Pairwise after := by
  rw [asksS, List.pairwise_append]
  refine ⟨?_, askR_pw _ 1 (by omega), fun a ha b hb => ?_⟩
  · have hok : okF 0 none (ofS l ((0 : Nat) : Int)) = true := ofS_okF
    rw [askI, List.pairwise_map, List.pairwise_filter, List.pairwise_reverse]
    refine (okF0_rise hok).2.imp fun {a b} hab hb ha => ?_
    exact ⟨Int.le_refl _, fun _ => ⟨by simp, hab⟩⟩
  · have h1 := (askI_lev ha).1
    have h2 := (askR_lev hb).1
    exact ⟨by omega, fun e => by omega⟩

/-! ### A file is found by its number -/
theorem findG_at {n : Int} {f : File} : ∀ {l : List (List File)} {i j : Nat} {fs : List File}, (nums l.flatten).Nodup → l[j]? = some fs → f ∈ fs → f.Number = n → findG n i l = (((i + j : Nat) : Int), f, true)
  | x :: l, i, j, fs, hd, hj, hf, hn => by
    have hd' : (nums x ++ nums l.flatten).Nodup := by simpa [nums] using hd
    obtain ⟨d1, d2, d3⟩ := List.nodup_append.1 hd'
    cases j with
    | zero =>
      have : x = fs := by simpa using hj
      subst this
      have hfind : (x.find? fun f => f.Number == n) = some f := by
        cases h : x.find? fun f => f.Number == n with
        | none => exact absurd (List.find?_eq_none.1 h f hf) (by simp [hn])
        | some g =>
          have hg := List.mem_of_find?_eq_some h
          have hgn : g.Number = n := by simpa using List.find?_some h
          obtain ⟨a, b, e, hnb⟩ := List.mem_iff_append.1 hf |>.elim fun a h => h.elim fun b h => (⟨a, b, h, trivial⟩ : ∃ a b, x = a ++ f :: b ∧ True)
          rw [e] at hg d1
          have d1' : (nums a ++ f.Number :: nums b).Nodup := by simpa [nums] using d1
          obtain ⟨_, e2, e3⟩ := List.nodup_append.1 d1'
          rcases List.mem_append.1 hg with hg | hg
          · exact absurd (by rw [hgn, hn]) (e3 g.Number (List.mem_map_of_mem hg) f.Number (by simp))
          · rcases List.mem_cons.1 hg with rfl | hg
            · rfl
            · have := (List.nodup_cons.1 e2).1
              exact absurd (by rw [hn, ← hgn]; exact List.mem_map_of_mem hg) this
      simp only [findG, hfind, Nat.add_zero]
    | succ j =>
      have hj' : l[j]? = some fs := by simpa using hj
      have hnone : (x.find? fun f => f.Number == n) = none := by
        rw [List.find?_eq_none]
        intro g hg hgn
        have hgn : g.Number = n := by simpa using hgn
        have hm : f.Number ∈ nums l.flatten := List.mem_map_of_mem (List.mem_flatten.2 ⟨fs, List.mem_of_getElem? hj', hf⟩)
        exact d3 g.Number (List.mem_map_of_mem hg) f.Number hm (by rw [hgn, hn])
      simp only [findG, hnone]
      rw [findG_at (i := i + 1) d2 hj' hf hn]
      congr 2
      omega
theorem findS_at {l : List (List File)} {i : Int} {f : File} (hf : f ∈ ofS l i) : findS l f.Number = (i, f, true) := by
  have hv : validB l = true := valid_ne (fun h => by rw [h] at hf; simp at hf)
  unfold ofS at hf
  split at hf
  · simp at hf
  · rename_i hc
    simp only [hv, Bool.not_true, Bool.false_or, Bool.or_eq_true, decide_eq_true_eq, not_or, Int.not_lt, Int.not_le] at hc
    rw [List.getD_eq_getElem?_getD] at hf
    cases hg : l[i.toNat]? with
    | none => rw [hg] at hf; simp at hf
    | some fs =>
      rw [hg] at hf
      have := findG_at (i := 0) (validB_iff.1 hv).2.2.2 hg (by simpa using hf) rfl
      rw [findS, if_pos hv, this]
      congr 1
      omega

theorem bear_l2 (l : List (List File)) (hg : goodL l) (key : ByteArray) (r7 : List Place) (hl : r7.length ≤ 9223372036854775000) (hm : ∀ q ∈ r7, ∃ f ∈ ofS l q.Level, f.Number = q.Number ∧ bearsB f key = true) (hpw : r7.Pairwise after) (J : Nat → Option Bool) (hJ : Ev J true) :
    ∀ (s p : List Place), r7 = p ++ s → Ev (fun k => l16_VersionBears.l2 l key r7 (J k) k p.length) true
  | [], p, hp => by
    refine Ev.succ ?_
    have e1 : decide ((p.length : Int) < (r7.length : Int)) = false := by rw [hp]; exact lt_end p
    simp only [l16_VersionBears.l2, e1, Bool.false_eq_true, if_false]
    exact hJ.shift
  | q :: s, p, hp => by
    have e1 : decide ((p.length : Int) < (r7.length : Int)) = true := by rw [hp]; exact lt_at p s q
    have e2 : idx r7 (p.length : Int) = some q := by rw [hp]; exact idx_at p q s
    have hst : w64 ((p.length : Int) + 1) = ((p ++ [q]).length : Int) := step_at p s q (by rw [← hp, maxLen_val]; omega)
    obtain ⟨f, hf, hn, hb⟩ := hm q (by rw [hp]; simp)
    obtain ⟨b1, b2⟩ := bears_iff.1 hb
    have ih := bear_l2 l hg key r7 hl hm hpw (fun k => J (k + 1)) hJ.shift s (p ++ [q]) (by simp [hp])
    refine Ev.succ ?_
    simp only [l16_VersionBears.l2, e1, e2, if_true, Option.bind_some]
    refine Ev.bind (find_ev l hg q.Number) ?_
    rw [← hn, findS_at hf]
    have c1 : sLt key f.Least = false := sLt_false.2 b1
    have c2 : sLt key f.Limit = true := sLt_iff.2 b2
    simp only [Jn, Bool.not_true, Bool.false_eq_true, if_false, bne_self_eq_false, Bool.false_or, c1, c2, hst]
    rcases nil_or_snoc p with rfl | ⟨p', x, rfl⟩
    · have h0 : decide ((0 : Int) < ((([] : List Place).length : Nat) : Int)) = false := by decide
      simp only [h0, Bool.false_eq_true, if_false]
      exact ih
    · have h0 : decide ((0 : Int) < (((p' ++ [x]).length : Nat) : Int)) = true := pos_snoc p' x
      have hbk : w64 (((p' ++ [x]).length : Int) - 1) = (p'.length : Int) := back_at p' s x q (by rw [← hp, maxLen_val]; omega)
      have e3 : idx r7 (p'.length : Int) = some x := by rw [hp, List.append_assoc]; exact idx_at p' x _
      have hax : after x q := by
        rw [hp] at hpw
        exact (List.pairwise_append.1 hpw).2.2 x (by simp) q (by simp)
      have c3 : decide (q.Level < x.Level) = false := decide_eq_false (by have := hax.1; omega)
      simp only [h0, if_true, hbk, e3, Option.bind_some, c3, Bool.false_eq_true, if_false]
      by_cases he : x.Level = q.Level
      · have h2 := hax.2 he
        have c4 : (x.Level == q.Level) = true := by simp [he]
        have c5 : decide (0 < q.Level) = false := decide_eq_false h2.1
        have c6 : decide (x.Number ≤ q.Number) = false := decide_eq_false (by omega)
        rw [← hn] at c6
        simp only [c4, c5, c6, if_true, Bool.false_eq_true, if_false, Option.bind_some, e2]
        exact ih
      · have c4 : (x.Level == q.Level) = false := by simp [he]
        simp only [c4, Bool.false_eq_true, if_false]
        exact ih

theorem bear_l0 (l : List (List File)) (hg : goodL l) (key : ByteArray) (hv : validB l = true) : ∀ (s p : List (List File)), l = p ++ s → Ev (fun k => l16_VersionBears.l0 l key (asksS l key) k ((cntB key p.flatten : Nat) : Int) p.length) true
  | [], p, hp => by
    have hc := asksS_cnt hv key
    have hlen := valid_len hv
    have hle : cntB key l.flatten ≤ l.flatten.length := List.countP_le_length
    refine Ev.succ ?_
    have e1 : decide ((p.length : Int) < (l.length : Int)) = false := by rw [hp]; exact lt_end p
    have hpl : p = l := by simpa using hp.symm
    simp only [l16_VersionBears.l0, e1, Bool.false_eq_true, if_false]
    simp only [hpl, hc, bne_self_eq_false, Jn, Bool.false_eq_true, if_false]
    exact bear_l2 l hg key (asksS l key) (by omega) (fun q hq => asksS_mem hq) (asksS_pw l key) (fun _ => some true) Ev.ret (asksS l key) [] (by simp)
  | fs :: s, p, hp => by
    have hfs := (hg.1 fs (by rw [hp]; simp)).1
    have hlen := valid_len hv
    have h7 := (validB_iff.1 hv).2.1
    have e1 : decide ((p.length : Int) < (l.length : Int)) = true := by rw [hp]; exact lt_at p s fs
    have hle : cntB key p.flatten ≤ p.flatten.length := List.countP_le_length
    have hll : p.flatten.length + fs.length ≤ l.flatten.length := by rw [hp, List.flatten_append, List.length_append, List.flatten_cons, List.length_append]; omega
    refine Ev.succ ?_
    simp only [l16_VersionBears.l0, e1, if_true, Jn, step_at p s fs (by rw [← hp, maxLen_val]; omega)]
    refine bear_l1 l key p s fs hp hfs fs [] _ (by simp) (by omega) (fun k i_456 => l16_VersionBears.l0 l key (asksS l key) k i_456 ((p ++ [fs]).length : Int)) true ?_
    have := bear_l0 l hg key hv s (p ++ [fs]) (by simp [hp])
    simpa [cntB] using this
theorem bears_ev (l : List (List File)) (hg : goodL l) (key : ByteArray) : Ev (fun k => l16_VersionBears k l key) true := by
  unfold l16_VersionBears
  refine Ev.bind one_ev ?_
  simp only [Bool.not_true, Bool.false_eq_true, if_false]
  refine Ev.bind (asks_ev l hg key) ?_
  refine Ev.bind (valid_ev l hg) ?_
  cases hv : validB l with
  | false =>
    simp only [Bool.not_false, if_true, asksS_bad hv]
    exact Ev.ret
  | true =>
    simp only [Bool.not_true, Bool.false_eq_true, if_false]
    exact bear_l0 l hg key hv l [] (by simp)
end Go.Proofs.Ytbbepmmelpabbaa.Mo
