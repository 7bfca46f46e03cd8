/- Copies, comparisons; Asks, Tells, Spans: the laws in plain words. -/
import Derived.Test.YtbbepmmelpabbaaVvd
set_option linter.unusedVariables false
set_option linter.unusedSectionVars false
set_option linter.unusedSimpArgs false
set_option maxRecDepth 100000
namespace Go.Proofs.Ytbbepmmelpabbaa.Mo
open Go Go.Proofs.Ytbbepmmelpabbaa.Sy

theorem copied_l0 (l : List (List File)) (hg : goodL l) (hl : l.length ≤ 5864062014805) : ∀ (s p : List (List File)), l = p ++ s → Ev (fun k => l16_copied.l0 l k p p.length) l
  | [], p, hp => by
    simp at hp
    subst hp
    refine Ev.succ ?_
    simp only [l16_copied.l0, decF (Nat.le_refl l.length), Bool.false_eq_true, if_false]
    exact Ev.ret
  | fs :: s, p, hp => by
    refine Ev.succ ?_
    have e1 : decide ((p.length : Int) < (l.length : Int)) = true := by rw [hp]; exact lt_at p s fs
    have e2 : idx l (p.length : Int) = some fs := by rw [hp]; exact idx_at p fs s
    have hfs := (hg.1 fs (by rw [hp]; simp)).1
    have hpl : p.length < l.length := by rw [hp]; simp
    simp only [l16_copied.l0, e1, if_true]
    refine Ev.bind0 e2 ?_
    refine Ev.bind0 (pushN_ok (by simp; omega)) ?_
    refine Ev.bind0 (push_ok (by omega)) ?_
    rw [List.nil_append, step_at p s fs (by rw [← hp, maxLen_val]; omega)]
    exact copied_l0 l hg hl s (p ++ [fs]) (by simp [hp])
theorem copied_ev (l : List (List File)) (hg : goodL l) (hl : l.length ≤ 5864062014805) : Ev (fun k => l16_copied k l) l := copied_l0 l hg hl l [] (by simp)

theorem files_l0 (a b : List File) (hab : a.length = b.length) (hl : a.length ≤ 9223372036854775000) : ∀ (u v p q : List File), a = p ++ u → b = q ++ v → p.length = q.length → Ev (fun k => l16_files.l0 a b k p.length) (eqlB u v)
  | [], v, p, q, hp, hq, he => by
    have : v = [] := by
      rw [hp, hq] at hab
      simp at hab
      exact List.eq_nil_of_length_eq_zero (by omega)
    subst this
    subst hp
    refine Ev.succ ?_
    simp only [l16_files.l0, lt_end, Bool.false_eq_true, if_false]
    exact Ev.ret
  | x :: u, [], p, q, hp, hq, he => by
    rw [hp, hq] at hab
    simp at hab
    omega
  | x :: u, y :: v, p, q, hp, hq, he => by
    have e1 : decide ((p.length : Int) < (a.length : Int)) = true := by rw [hp]; exact lt_at p u x
    have e2 : idx a (p.length : Int) = some x := by rw [hp]; exact idx_at p x u
    have e3 : idx b (p.length : Int) = some y := by rw [hq, he]; exact idx_at q y v
    refine Ev.succ ?_
    simp only [l16_files.l0, e1, e2, e3, if_true, Option.bind_some, step_at p u x (by rw [← hp, maxLen_val]; omega), eqlB]
    by_cases h : File.eqb x y = true
    · simp only [h, Bool.not_true, Bool.false_eq_true, if_false, Bool.true_and]
      exact files_l0 a b hab hl u v (p ++ [x]) (q ++ [y]) (by simp [hp]) (by simp [hq]) (by simp [he])
    · have h' := Bool.eq_false_iff.2 h
      simp only [h', Bool.not_false, if_true, Bool.false_and]
      exact Ev.ret
theorem len_bne {α β : Type} {a : List α} {b : List β} (h : ¬ a.length = b.length) : ((a.length : Int) != (b.length : Int)) = true := by
  rw [bne_iff_ne, ne_eq, Int.natCast_inj]; exact h
theorem len_beq {α β : Type} {a : List α} {b : List β} (h : a.length = b.length) : ((a.length : Int) != (b.length : Int)) = false := by
  rw [h, bne_self_eq_false]
theorem eqlB_len : ∀ {a b : List File}, ¬ a.length = b.length → eqlB a b = false := fun {a b} h => by
  cases e : eqlB a b with
  | false => rfl
  | true => exact absurd (congrArg List.length (eqlB_iff.1 e)) h
theorem eqlB_refl (a : List File) : eqlB a a = true := eqlB_iff.2 rfl
theorem lfiles_ev (a b : List File) (hl : a.length ≤ 9223372036854775000) : Ev (fun k => l16_files k a b) (eqlB a b) := by
  unfold l16_files
  by_cases h : a.length = b.length
  · simp only [len_beq h, Bool.false_eq_true, if_false]
    exact files_l0 a b h hl a b [] [] (by simp) (by simp) rfl
  · simp only [len_bne h, if_true, eqlB_len h]
    exact Ev.ret

/-! ### The same levels -/
def eqLL : List (List File) → List (List File) → Bool
  | [], [] => true
  | x :: u, y :: v => eqlB x y && eqLL u v
  | _, _ => false
theorem eqLL_iff : ∀ {u v : List (List File)}, eqLL u v = true ↔ u = v
  | [], [] => by simp [eqLL]
  | [], g :: v => by simp [eqLL]
  | f :: u, [] => by simp [eqLL]
  | f :: u, g :: v => by
    simp only [eqLL, Bool.and_eq_true, eqlB_iff, List.cons.injEq, eqLL_iff (u := u) (v := v)]
theorem eqLL_refl (a : List (List File)) : eqLL a a = true := eqLL_iff.2 rfl
theorem eqLL_len {a b : List (List File)} (h : ¬ a.length = b.length) : eqLL a b = false := by
  cases e : eqLL a b with
  | false => rfl
  | true => exact absurd (congrArg List.length (eqLL_iff.1 e)) h

theorem same_l1 (a b p0 s0 q0 t0 : List (List File)) (x y : List File) (ha : a = p0 ++ x :: s0) (hb : b = q0 ++ y :: t0) (h0 : p0.length = q0.length) (hxy : x.length = y.length) (hl : x.length ≤ 9223372036854775000) : ∀ (u v p q : List File), x = p ++ u → y = q ++ v → p.length = q.length → ∀ (J : Nat → Option Bool) r, Ev J r → Ev (fun k => r16_Same.l1 a b p0.length (J k) k p.length) (eqlB u v && r)
  | [], v, p, q, hp, hq, he, J, r, hJ => by
    have : v = [] := by
      rw [hp, hq] at hxy
      simp at hxy
      exact List.eq_nil_of_length_eq_zero (by omega)
    subst this
    have e1 : decide ((p.length : Int) < (x.length : Int)) = false := by rw [hp]; exact lt_end p
    refine Ev.succ ?_
    simp only [r16_Same.l1]
    refine Ev.bind0 (idx_l ha) ?_
    simp only [e1, Bool.false_eq_true, if_false, eqlB, Bool.true_and]
    exact hJ.shift
  | f :: u, [], p, q, hp, hq, he, J, r, hJ => by
    rw [hp, hq] at hxy
    simp at hxy
    omega
  | f :: u, g :: v, p, q, hp, hq, he, J, r, hJ => by
    have e1 : decide ((p.length : Int) < (x.length : Int)) = true := by rw [hp]; exact lt_at p u f
    have e2 : idx x (p.length : Int) = some f := by rw [hp]; exact idx_at p f u
    have e3 : idx y (p.length : Int) = some g := by rw [hq, he]; exact idx_at q g v
    have e4 : idx b (p0.length : Int) = some y := by rw [h0]; exact idx_l hb
    refine Ev.succ ?_
    simp only [r16_Same.l1]
    refine Ev.bind0 (idx_l ha) ?_
    simp only [e1, if_true]
    refine Ev.bind0 (idx_l ha) ?_
    refine Ev.bind0 e2 ?_
    refine Ev.bind0 e4 ?_
    refine Ev.bind0 e3 ?_
    rw [step_at p u f (by rw [← hp, maxLen_val]; omega)]
    by_cases h : File.eqb f g = true
    · simp only [h, Bool.not_true, Bool.false_eq_true, if_false, eqlB, Bool.true_and]
      exact same_l1 a b p0 s0 q0 t0 x y ha hb h0 hxy hl u v (p ++ [f]) (q ++ [g]) (by simp [hp]) (by simp [hq]) (by simp [he]) (fun k => J (k + 1)) r hJ.shift
    · have h' := Bool.eq_false_iff.2 h
      simp only [h', Bool.not_false, if_true, eqlB, Bool.false_and]
      exact Ev.ret
theorem same_l0 (a b : List (List File)) (hab : a.length = b.length) (hg : goodL a) : ∀ (u v p q : List (List File)), a = p ++ u → b = q ++ v → p.length = q.length → Ev (fun k => r16_Same.l0 a b k p.length) (eqLL u v)
  | [], v, p, q, hp, hq, he => by
    have : v = [] := by
      rw [hp, hq] at hab
      simp at hab
      exact List.eq_nil_of_length_eq_zero (by omega)
    subst this
    have e1 : decide ((p.length : Int) < (a.length : Int)) = false := by rw [hp]; exact lt_end p
    refine Ev.succ ?_
    simp only [r16_Same.l0, e1, Bool.false_eq_true, if_false]
    exact Ev.ret
  | x :: u, [], p, q, hp, hq, he => by
    rw [hp, hq] at hab
    simp at hab
    omega
  | x :: u, y :: v, p, q, hp, hq, he => by
    have hal := hg.2
    have hxl := (hg.1 x (by rw [hp]; simp)).1
    have e1 : decide ((p.length : Int) < (a.length : Int)) = true := by rw [hp]; exact lt_at p u x
    have e4 : idx b (p.length : Int) = some y := by rw [he]; exact idx_l hq
    have ih := same_l0 a b hab hg u v (p ++ [x]) (q ++ [y]) (by simp [hp]) (by simp [hq]) (by simp [he])
    refine Ev.succ ?_
    simp only [r16_Same.l0, e1, if_true, Jn, step_at p u x (by rw [← hp, maxLen_val]; omega)]
    refine Ev.bind0 (idx_l hp) ?_
    refine Ev.bind0 e4 ?_
    by_cases h : x.length = y.length
    · simp only [len_beq h, Bool.false_eq_true, if_false, eqLL]
      exact same_l1 a b p u q v x y hp hq he h (by omega) x y [] [] (by simp) (by simp) rfl _ _ ih
    · simp only [len_bne h, if_true, eqLL, eqlB_len h, Bool.false_and]
      exact Ev.ret
theorem rsameL_ev (a b : List (List File)) (hg : goodL a) : Ev (fun k => r16_Same k a b) (eqLL a b) := by
  unfold r16_Same
  by_cases h : a.length = b.length
  · simp only [len_beq h, Bool.false_eq_true, if_false]
    exact same_l0 a b h hg a b [] [] (by simp) (by simp) rfl
  · simp only [len_bne h, if_true, eqLL_len h]
    exact Ev.ret
theorem rsameL_refl (a : List (List File)) (hg : goodL a) : Ev (fun k => r16_Same k a a) true := (rsameL_ev a a hg).to (eqLL_refl a)

theorem wiped_l0 : ∀ (s p : List File), (p ++ s).length ≤ 9223372036854775000 → Ev (fun k => l16_wiped.l0 k (p ++ s) p.length) (p ++ s.map fun _ => (⟨(-7), 0, (ByteArray.mk #[]), (ByteArray.mk #[]), 0, 0⟩ : File))
  | [], p, hl => by
    refine Ev.succ ?_
    simp only [l16_wiped.l0, lt_end, Bool.false_eq_true, if_false, List.map_nil]
    exact Ev.ret
  | f :: s, p, hl => by
    refine Ev.succ ?_
    simp only [l16_wiped.l0, lt_at, idx_at, if_true, Option.bind_some, upd_at, step_at p s f (by rw [maxLen_val]; omega)]
    have := wiped_l0 s (p ++ [(⟨(-7), 0, (ByteArray.mk #[]), (ByteArray.mk #[]), 0, 0⟩ : File)]) (by simp at hl ⊢; omega)
    simpa using this
theorem wiped_ev (l : List File) (hl : l.length ≤ 9223372036854775000) : Ev (fun k => l16_wiped k l) (l.map fun _ => (⟨(-7), 0, (ByteArray.mk #[]), (ByteArray.mk #[]), 0, 0⟩ : File)) := wiped_l0 l [] (by simpa using hl)
end Go.Proofs.Ytbbepmmelpabbaa.Mo
