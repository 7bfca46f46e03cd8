/- Spans: the law. -/
import Derived.Test.YtbbepmmelpabbaaVvh
set_option linter.unusedVariables false
set_option linter.unusedSectionVars false
set_option linter.unusedSimpArgs false
set_option maxRecDepth 100000
namespace Go.Proofs.Ytbbepmmelpabbaa.Mo
open Go Go.Proofs.Ytbbepmmelpabbaa.Sy

theorem equal_l0 (a b : List File) (hab : a.length = b.length) (hl : a.length ≤ 9223372036854775000) : ∀ (u v p q : List File), a = p ++ u → b = q ++ v → p.length = q.length → Ev (fun k => slices_Equal_File.l0 a b k p.length) (eqlB u v)
  | [], v, p, q, hp, hq, he => by
    have : v = [] := by
      rw [hp, hq] at hab
      simp at hab
      exact List.eq_nil_of_length_eq_zero (by omega)
    subst this
    subst hp
    refine Ev.succ ?_
    simp only [slices_Equal_File.l0, lt_end, Bool.false_eq_true, if_false]
    exact Ev.ret
  | x :: u, [], p, q, hp, hq, he => by
    rw [hp, hq] at hab
    simp at hab
    omega
  | x :: u, y :: v, p, q, hp, hq, he => by
    have e1 : decide ((p.length : Int) < (a.length : Int)) = true := by rw [hp]; exact lt_at p u x
    have e2 : idx a (p.length : Int) = some x := by rw [hp]; exact idx_at p x u
    have e3 : idx b (p.length : Int) = some y := by rw [hq, he]; exact idx_at q y v
    refine Ev.succ ?_
    simp only [slices_Equal_File.l0, e1, e2, e3, if_true, Option.bind_some, step_at p u x (by rw [← hp, maxLen_val]; omega), eqlB]
    by_cases h : File.eqb x y = true
    · simp only [h, Bool.not_true, Bool.false_eq_true, if_false, Bool.true_and]
      exact equal_l0 a b hab hl u v (p ++ [x]) (q ++ [y]) (by simp [hp]) (by simp [hq]) (by simp [he])
    · have h' := Bool.eq_false_iff.2 h
      simp only [h', Bool.not_false, if_true, Bool.false_and]
      exact Ev.ret
theorem equalF_ev (a b : List File) (hl : a.length ≤ 9223372036854775000) : Ev (fun k => slices_Equal_File k a b) (eqlB a b) := by
  unfold slices_Equal_File
  by_cases h : a.length = b.length
  · simp only [len_beq h, Bool.false_eq_true, if_false]
    exact equal_l0 a b h hl a b [] [] (by simp) (by simp) rfl
  · simp only [len_bne h, if_true, eqlB_len h]
    exact Ev.ret
theorem vsame_l0 (a b : List (List File)) (hab : a.length = b.length) (hg : goodL a) : ∀ (u v p q : List (List File)), a = p ++ u → b = q ++ v → p.length = q.length → Ev (fun k => version_Same.l0 a b (fun b_17 => some b_17) k p.length) (eqLL u v)
  | [], v, p, q, hp, hq, he => by
    have : v = [] := by
      rw [hp, hq] at hab
      simp at hab
      exact List.eq_nil_of_length_eq_zero (by omega)
    subst this
    have e1 : decide ((p.length : Int) < (a.length : Int)) = false := by rw [hp]; exact lt_end p
    refine Ev.succ ?_
    simp only [version_Same.l0, e1, Bool.false_eq_true, if_false]
    exact Ev.ret
  | x :: u, [], p, q, hp, hq, he => by
    rw [hp, hq] at hab
    simp at hab
    omega
  | x :: u, y :: v, p, q, hp, hq, he => by
    have hal := hg.2
    have hxl := (hg.1 x (by rw [hp]; simp)).1
    have e1 : decide ((p.length : Int) < (a.length : Int)) = true := by rw [hp]; exact lt_at p u x
    have e4 : idx b (p.length : Int) = some y := by rw [he]; exact idx_l hq
    have ih := vsame_l0 a b hab hg u v (p ++ [x]) (q ++ [y]) (by simp [hp]) (by simp [hq]) (by simp [he])
    refine Ev.succ ?_
    simp only [version_Same.l0, e1, if_true, step_at p u x (by rw [← hp, maxLen_val]; omega)]
    refine Ev.bind0 (idx_l hp) ?_
    refine Ev.bind0 e4 ?_
    refine Ev.bind (Ev.bind (equalF_ev x y (by omega)) Ev.ret) ?_
    cases h : eqlB x y with
    | true =>
      simp only [Bool.not_true, Bool.false_eq_true, if_false, eqLL, h, Bool.true_and]
      exact ih
    | false =>
      simp only [Bool.not_false, if_true, eqLL, h, Bool.false_and]
      exact Ev.ret
theorem vsame_ev (a b : List (List File)) (hg : goodL a) : Ev (fun k => version_Same k a b) (eqLL a b) := by
  unfold version_Same
  by_cases h : a.length = b.length
  · simp only [len_beq h, Bool.false_eq_true, if_false, Jn]
    exact vsame_l0 a b h hg a b [] [] (by simp) (by simp) rfl
  · simp only [len_bne h, if_true, eqLL_len h, Jn]
    exact Ev.ret
theorem sEq_refl (a : ByteArray) : sEq a a = true := sEq_iff.2 rfl
theorem spans_law (f : List File) (hf : f.length ≤ 2199023255552) (a b : List (List File)) (ha : goodL a) (hl : a.length ≤ 5864062014805) (hb : goodL b) : Ev (fun k => l16_VersionSpans k f a b) true := by
  unfold l16_VersionSpans
  refine Ev.bind0 (pushN_ok (show ([] : List File).length + f.length ≤ 3518437208730 by rw [List.length_nil]; omega)) ?_
  rw [List.nil_append]
  refine Ev.bind (span_ev f (by omega)) ?_
  refine Ev.bind (rspan_ev f (by omega)) ?_
  refine Ev.bind one_ev ?_
  simp only [Jn, sEq_refl, beq_self_eq_true, Bool.and_self, if_true]
  refine Ev.bind (lfiles_ev f f (by omega)) ?_
  simp only [eqlB_refl, if_true]
  refine Ev.bind (copied_ev a ha hl) ?_
  refine Ev.bind (vsame_ev a b ha) ?_
  refine Ev.bind (rsameL_ev a b ha) ?_
  simp only [beq_self_eq_true, if_true]
  refine Ev.bind (copied_ev a ha hl) ?_
  refine Ev.bind (vsame_ev a a ha) ?_
  rw [eqLL_refl]
  exact Ev.ret
end Go.Proofs.Ytbbepmmelpabbaa.Mo
