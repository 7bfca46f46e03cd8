/- Cuts: the law in plain words. -/
import Derived.Test.YtbbepmmelpabbaaVvd
set_option linter.unusedVariables false
set_option linter.unusedSectionVars false
set_option linter.unusedSimpArgs false
set_option maxRecDepth 100000
namespace Go.Proofs.Ytbbepmmelpabbaa.Mo
open Go Go.Proofs.Ytbbepmmelpabbaa.Sy

theorem not_sle {a b : ByteArray} : ¬ sle a b ↔ slt b a := Classical.not_not
theorem ov_iff {f : File} {a b : ByteArray} : ovB f a b = true ↔ slt a f.Limit ∧ (b = ByteArray.mk #[] ∨ (slt f.Least b ∧ slt a b)) := by
  have h : ovB f a b = ((!(sLt f.Limit a || sEq f.Limit a)) && ((sEq b (ByteArray.mk #[])) || ((sLt f.Least b) && (!(sLt b a || sEq b a))))) := rfl
  rw [h]
  simp only [sLe_dec, Bool.and_eq_true, Bool.or_eq_true, Bool.not_eq_true', decide_eq_false_iff_not, sEq_iff, sLt_iff, not_sle]
theorem any_mem {s : List File} {z : File} : (s.any fun f => File.eqb f z) = true ↔ z ∈ s := by
  rw [List.any_eq_true]
  constructor
  · rintro ⟨f, hf, e⟩
    rw [eqb_iff] at e
    exact e ▸ hf
  · exact fun h => ⟨z, h, eqb_refl z⟩

theorem cut_l3 (r14 r19 : List File) (i : Nat) (z : File) (hz : idx r14 (i : Int) = some z) (hl : r19.length ≤ 9223372036854775000) : ∀ (s p : List File) (b : Bool), r19 = p ++ s → EvC (fun (J : Bool → Option Bool) k => l16_VersionCuts.l3 r14 r19 i J k b p.length) (b || s.any fun f => File.eqb f z)
  | [], p, b, hp => by
    subst hp
    refine EvC.succ ?_
    simp only [l16_VersionCuts.l3, lt_end, Bool.false_eq_true, if_false]
    rw [List.any_nil, Bool.or_false]
    exact EvC.ret
  | f :: s, p, b, hp => by
    subst hp
    refine EvC.succ ?_
    simp only [l16_VersionCuts.l3, lt_at, if_true, Jn, step_at p s f (by rw [maxLen_val]; omega)]
    cases b with
    | true =>
      simp only [if_true]
      exact (cut_l3 r14 (p ++ f :: s) i z hz hl s (p ++ [f]) true (by simp)).to (by simp)
    | false =>
      simp only [Bool.false_eq_true, if_false, idx_at, hz, Option.bind_some]
      exact (cut_l3 r14 (p ++ f :: s) i z hz hl s (p ++ [f]) (File.eqb f z) (by simp)).to (by simp)
theorem cut_l2 (r14 r19 : List File) (i : Nat) (z : File) (hz : idx r14 (i : Int) = some z) (hl : r19.length ≤ 9223372036854775000) : ∀ (s p : List File) (b : Bool), r19 = p ++ s → EvC (fun (J : Bool → Option Bool) k => l16_VersionCuts.l2 r14 r19 i J k b p.length) (b || s.any fun f => File.eqb f z)
  | [], p, b, hp => by
    subst hp
    refine EvC.succ ?_
    simp only [l16_VersionCuts.l2, lt_end, Bool.false_eq_true, if_false]
    rw [List.any_nil, Bool.or_false]
    exact EvC.ret
  | f :: s, p, b, hp => by
    subst hp
    refine EvC.succ ?_
    simp only [l16_VersionCuts.l2, lt_at, if_true, Jn, step_at p s f (by rw [maxLen_val]; omega)]
    cases b with
    | true =>
      simp only [if_true]
      exact (cut_l2 r14 (p ++ f :: s) i z hz hl s (p ++ [f]) true (by simp)).to (by simp)
    | false =>
      simp only [Bool.false_eq_true, if_false, idx_at, hz, Option.bind_some]
      exact (cut_l2 r14 (p ++ f :: s) i z hz hl s (p ++ [f]) (File.eqb f z) (by simp)).to (by simp)
theorem cut_l1 (r14 r19 : List File) (i : Nat) (z : File) (hz : idx r14 (i : Int) = some z) (hl : r19.length ≤ 9223372036854775000) : ∀ (s p : List File) (b : Bool), r19 = p ++ s → EvC (fun (J : Bool → Option Bool) k => l16_VersionCuts.l1 r14 i r19 J k b p.length) (b || s.any fun f => File.eqb f z)
  | [], p, b, hp => by
    subst hp
    refine EvC.succ ?_
    simp only [l16_VersionCuts.l1, lt_end, Bool.false_eq_true, if_false]
    rw [List.any_nil, Bool.or_false]
    exact EvC.ret
  | f :: s, p, b, hp => by
    subst hp
    refine EvC.succ ?_
    simp only [l16_VersionCuts.l1, lt_at, if_true, Jn, step_at p s f (by rw [maxLen_val]; omega)]
    cases b with
    | true =>
      simp only [if_true]
      exact (cut_l1 r14 (p ++ f :: s) i z hz hl s (p ++ [f]) true (by simp)).to (by simp)
    | false =>
      simp only [Bool.false_eq_true, if_false, idx_at, hz, Option.bind_some]
      exact (cut_l1 r14 (p ++ f :: s) i z hz hl s (p ++ [f]) (File.eqb f z) (by simp)).to (by simp)

theorem overS_le (l : List (List File)) (i : Int) (a b : ByteArray) : (overS l i a b).length ≤ 2147483647 := Nat.le_trans (List.length_filter_le _ _) (ofS_le l i)
theorem ofS_mayi {l : List (List File)} {i : Int} {f : File} (hf : f ∈ ofS l i) : slt f.Least f.Limit := by
  have hi : 0 ≤ i := by
    unfold ofS at hf
    split at hf
    · simp at hf
    · rename_i h
      simp at h
      omega
  obtain ⟨n, rfl⟩ := Int.eq_ofNat_of_zero_le hi
  exact (may_iff.1 (okF_may ofS_okF f hf)).2.2.2.1
theorem filter_or_len {α : Type} (p q r : α → Bool) : ∀ (l : List α), (∀ x ∈ l, p x = true → q x = true ∨ r x = true) → (l.filter p).length ≤ (l.filter q).length + (l.filter r).length
  | [], _ => by simp
  | x :: l, h => by
    have ih := filter_or_len p q r l fun y hy => h y (List.mem_cons_of_mem _ hy)
    have hx := h x (List.mem_cons_self ..)
    simp only [List.filter_cons]
    by_cases hp : p x = true
    · rcases hx hp with hq | hr
      · by_cases hr : r x = true <;> simp [hp, hq, hr] <;> omega
      · by_cases hq : q x = true <;> simp [hp, hq, hr] <;> omega
    · by_cases hq : q x = true <;> by_cases hr : r x = true <;> simp [hp, hq, hr] <;> omega
theorem filter_imp_len {α : Type} (p q : α → Bool) (l : List α) (h : ∀ x ∈ l, p x = true → q x = true) : (l.filter p).length ≤ (l.filter q).length := by
  have := filter_or_len p q (fun _ => false) l fun x hx hp => .inl (h x hx hp)
  have e : (l.filter fun _ => false).length = 0 := by rw [List.filter_eq_nil_iff.2 (fun _ _ h => by cases h)]; rfl
  omega

section
variable (l : List (List File)) (hg : goodL l) (a : L16_Ask) (h1 : slt a.Least a.Key) (h2 : a.Limit = ByteArray.mk #[] ∨ slt a.Key a.Limit)
include h1 h2
theorem cut_either {f : File} (hf : slt f.Least f.Limit) (h : ovB f a.Least a.Limit = true) : ovB f a.Least a.Key = true ∨ ovB f a.Key a.Limit = true := by
  obtain ⟨g1, g2⟩ := ov_iff.1 h
  by_cases hk : slt f.Least a.Key
  · exact .inl (ov_iff.2 ⟨g1, .inr ⟨hk, h1⟩⟩)
  · refine .inr (ov_iff.2 ⟨slt_of_le_lt hk hf, ?_⟩)
    rcases g2 with g2 | ⟨g2, _⟩
    · exact .inl g2
    · rcases h2 with h2 | h2
      · exact .inl h2
      · exact .inr ⟨g2, h2⟩
theorem cut_x {f : File} (h : ovB f a.Least a.Key = true) : ovB f a.Least a.Limit = true := by
  obtain ⟨g1, g2⟩ := ov_iff.1 h
  refine ov_iff.2 ⟨g1, ?_⟩
  rcases h2 with h2 | h2
  · exact .inl h2
  · rcases g2 with g2 | ⟨g2, _⟩
    · rw [g2] at h1; exact absurd h1 (slt_empty _)
    · exact .inr ⟨slt_trans g2 h2, slt_trans h1 h2⟩
theorem cut_y {f : File} (h : ovB f a.Key a.Limit = true) : ovB f a.Least a.Limit = true := by
  obtain ⟨g1, g2⟩ := ov_iff.1 h
  refine ov_iff.2 ⟨slt_trans h1 g1, ?_⟩
  rcases g2 with g2 | ⟨g2, g3⟩
  · exact .inl g2
  · exact .inr ⟨g2, slt_trans h1 g3⟩
include hg
theorem cut_l0 : ∀ (s p : List File), overS l a.Level a.Least a.Limit = p ++ s → Ev (fun k => l16_VersionCuts.l0 l a (overS l a.Level a.Least a.Limit) (overS l a.Level a.Least a.Key) (overS l a.Level a.Key a.Limit) k p.length) true
  | [], p, hp => by
    have b1 := overS_le l a.Level a.Least a.Key
    have b2 := overS_le l a.Level a.Key a.Limit
    have e1 : decide ((p.length : Int) < ((overS l a.Level a.Least a.Limit).length : Int)) = false := by rw [hp]; exact lt_end p
    have e2 : (overS l a.Level a.Least a.Key).length ≤ (overS l a.Level a.Least a.Limit).length := filter_imp_len _ _ _ fun f _ h => cut_x a h1 h2 h
    have e3 : (overS l a.Level a.Key a.Limit).length ≤ (overS l a.Level a.Least a.Limit).length := filter_imp_len _ _ _ fun f _ h => cut_y a h1 h2 h
    have e4 : (overS l a.Level a.Least a.Limit).length ≤ (overS l a.Level a.Least a.Key).length + (overS l a.Level a.Key a.Limit).length := filter_or_len _ _ _ _ fun f hf h => cut_either a h1 h2 (ofS_mayi hf) h
    refine Ev.succ ?_
    simp only [l16_VersionCuts.l0, e1, Bool.false_eq_true, if_false]
    rw [w64_of (by omega) (by omega)]
    refine Ev.of fun _ => ?_
    congr 1
    simp only [Bool.and_eq_true, decide_eq_true_eq]
    omega
  | f :: s, p, hp => by
    have hf : f ∈ overS l a.Level a.Least a.Limit := by rw [hp]; simp
    obtain ⟨f1, f2⟩ := List.mem_filter.1 hf
    have b0 := overS_le l a.Level a.Least a.Limit
    have e1 : decide ((p.length : Int) < ((overS l a.Level a.Least a.Limit).length : Int)) = true := by rw [hp]; exact lt_at p s f
    have e2 : idx (overS l a.Level a.Least a.Limit) (p.length : Int) = some f := by rw [hp]; exact idx_at p f s
    have hst : w64 ((p.length : Int) + 1) = ((p ++ [f]).length : Int) := step_at p s f (by rw [← hp, maxLen_val]; omega)
    have ih := cut_l0 s (p ++ [f]) (by simp [hp])
    refine Ev.succ ?_
    simp only [l16_VersionCuts.l0, e1, if_true, hst, Jn]
    refine (cut_l3 _ (overS l a.Level a.Least a.Key) p.length f e2 (by have := overS_le l a.Level a.Least a.Key; omega) (overS l a.Level a.Least a.Key) [] false (by simp)).ev ?_
    refine (cut_l2 _ (overS l a.Level a.Key a.Limit) p.length f e2 (by have := overS_le l a.Level a.Key a.Limit; omega) (overS l a.Level a.Key a.Limit) [] _ (by simp)).ev ?_
    have hany : ((false || List.any (overS l a.Level a.Least a.Key) fun g => File.eqb g f) || (List.any (overS l a.Level a.Key a.Limit) fun g => File.eqb g f)) = true := by
      rw [Bool.false_or, Bool.or_eq_true, any_mem, any_mem]
      rcases cut_either a h1 h2 (ofS_mayi f1) f2 with h | h
      · exact .inl (List.mem_filter.2 ⟨f1, h⟩)
      · exact .inr (List.mem_filter.2 ⟨f1, h⟩)
    simp only [hany, Bool.not_true, Bool.false_eq_true, if_false, e2, Option.bind_some]
    refine Ev.bind (over_ev l hg a.Level f.Least f.Limit) ?_
    refine (cut_l1 _ (overS l a.Level f.Least f.Limit) p.length f e2 (by have := overS_le l a.Level f.Least f.Limit; omega) (overS l a.Level f.Least f.Limit) [] false (by simp)).ev ?_
    have hown : (false || List.any (overS l a.Level f.Least f.Limit) fun g => File.eqb g f) = true := by
      have hm := ofS_mayi f1
      rw [Bool.false_or, any_mem]
      exact List.mem_filter.2 ⟨f1, ov_iff.2 ⟨hm, .inr ⟨hm, hm⟩⟩⟩
    simp only [hown, Bool.not_true, Bool.false_eq_true, if_false]
    exact ih
end
theorem cuts_ev (l : List (List File)) (hg : goodL l) (a : L16_Ask) : Ev (fun k => l16_VersionCuts k l a) true := by
  unfold l16_VersionCuts
  refine Ev.bind one_ev ?_
  simp only [Bool.not_true, Bool.false_eq_true, if_false]
  by_cases hc : ((sLt a.Key a.Least || sEq a.Key a.Least) || ((!sEq a.Limit (ByteArray.mk #[])) && (!sLt a.Key a.Limit))) = true
  · simp only [hc, if_true]
    exact Ev.ret
  · simp only [hc, if_false, Bool.false_eq_true]
    rw [sLe_dec, Bool.or_eq_true, Bool.and_eq_true, not_or, not_and] at hc
    have h1 : slt a.Least a.Key := not_sle.1 (fun h => hc.1 (decide_eq_true h))
    have h2 : a.Limit = ByteArray.mk #[] ∨ slt a.Key a.Limit := by
      by_cases h : a.Limit = ByteArray.mk #[]
      · exact .inl h
      · refine .inr ?_
        have := hc.2 (by rw [Bool.not_eq_true', Bool.eq_false_iff, ne_eq, sEq_iff]; exact h)
        rw [Bool.not_eq_true', Bool.not_eq_false, sLt_iff] at this
        exact this
    refine Ev.bind (over_ev l hg _ _ _) ?_
    refine Ev.bind (over_ev l hg _ _ _) ?_
    refine Ev.bind (over_ev l hg _ _ _) ?_
    exact cut_l0 l hg a h1 h2 (overS l a.Level a.Least a.Limit) [] (by simp)
end Go.Proofs.Ytbbepmmelpabbaa.Mo
