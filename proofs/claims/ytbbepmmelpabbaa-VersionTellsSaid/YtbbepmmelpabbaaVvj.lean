/- Tells: the law. -/
import Derived.Test.YtbbepmmelpabbaaVvh
set_option linter.unusedVariables false
set_option linter.unusedSectionVars false
set_option linter.unusedSimpArgs false
set_option maxRecDepth 100000
namespace Go.Proofs.Ytbbepmmelpabbaa.Mo
open Go Go.Proofs.Ytbbepmmelpabbaa.Sy

theorem ints_l0 (a : List Int) (hl : a.length ≤ 9223372036854775000) : ∀ (s p : List Int), a = p ++ s → Ev (fun k => l16_ints.l0 a a k p.length) true
  | [], p, hp => by
    have e1 : decide ((p.length : Int) < (a.length : Int)) = false := by rw [hp]; exact lt_end p
    refine Ev.succ ?_
    simp only [l16_ints.l0, e1, Bool.false_eq_true, if_false]
    exact Ev.ret
  | x :: s, p, hp => by
    have e1 : decide ((p.length : Int) < (a.length : Int)) = true := by rw [hp]; exact lt_at p s x
    have e2 : idx a (p.length : Int) = some x := by rw [hp]; exact idx_at p x s
    refine Ev.succ ?_
    simp only [l16_ints.l0, e1, e2, if_true, Option.bind_some, bne_self_eq_false, Bool.false_eq_true, if_false, step_at p s x (by rw [← hp, maxLen_val]; omega)]
    exact ints_l0 a hl s (p ++ [x]) (by simp [hp])
theorem ints_refl (a : List Int) (hl : a.length ≤ 9223372036854775000) : Ev (fun k => l16_ints k a a) true := by
  unfold l16_ints
  simp only [bne_self_eq_false, Bool.false_eq_true, if_false]
  exact ints_l0 a hl a [] rfl
theorem tells_l0 (l : List (List File)) (hg : goodL l) : ∀ (s p : List Int), (p ++ s).length ≤ 9223372036854775000 → Ev (fun k => l16_VersionTells.l0 l l k (p ++ s) p.length) true
  | [], p, hl => by
    refine Ev.succ ?_
    simp only [l16_VersionTells.l0, lt_end, Bool.false_eq_true, if_false]
    exact Ev.bind (rsameL_refl l hg) Ev.ret
  | x :: s, p, hl => by
    refine Ev.succ ?_
    simp only [l16_VersionTells.l0, lt_at, idx_at, if_true, Option.bind_some, upd_at, step_at p s x (by rw [maxLen_val]; omega)]
    have := tells_l0 l hg s (p ++ [-7]) (by simp at hl ⊢; omega)
    simpa using this
theorem belowS_len (l : List (List File)) (a : Int) : (belowS l a).length ≤ 2147483647 := by
  unfold belowS
  split
  · rename_i hv
    exact Nat.le_trans (belowG_len a 0 l) (valid_len hv)
  · simp
theorem tells_law (l : List (List File)) (hg : goodL l) (hl : l.length ≤ 5864062014805) (a n : Int) : Ev (fun k => l16_VersionTells k l a n) true := by
  unfold l16_VersionTells
  have h1 := belowS_len l a
  obtain ⟨r, r1, r2, r3⟩ := numbers_both l hg
  have hrl : r.length ≤ 2147483647 := by
    rw [r1]
    split
    · rename_i hv; exact valid_len hv
    · omega
  have hf := files_ev l hg
  have hrf : (if validB l = true then (l.flatten.length : Int) else 0) = (r.length : Int) := by
    rw [r1]; split <;> rfl
  rw [hrf] at hf
  refine Ev.bind (copied_ev l hg hl) ?_
  refine Ev.bind (find_ev l hg n) ?_
  refine Ev.bind (rfind_ev l hg n) ?_
  refine Ev.bind r3 ?_
  refine Ev.bind r2 ?_
  refine Ev.bind (below_ev l hg a) ?_
  refine Ev.bind0 (show l16_names = some true from rfl) ?_
  simp only [Bool.not_true, Bool.false_eq_true, if_false, Jn]
  refine Ev.bind one_ev ?_
  simp only [Bool.not_true, Bool.false_eq_true, if_false]
  refine Ev.bind (size_ev l hg a) ?_
  refine Ev.bind (rsize_ev l hg a) ?_
  simp only [bne_self_eq_false, Bool.false_eq_true, if_false]
  refine Ev.bind hf ?_
  simp only [bne_self_eq_false, Bool.false_eq_true, if_false]
  refine Ev.bind (ints_refl r (by omega)) ?_
  simp only [Bool.not_true, Bool.false_eq_true, if_false, bne_self_eq_false, Bool.or_false, eqb_refl, beq_self_eq_true]
  refine Ev.bind (rbelow_ev l hg a) ?_
  refine Ev.bind (lfiles_ev _ _ (by omega)) ?_
  simp only [eqlB_refl, Bool.not_true, Bool.false_eq_true, if_false]
  refine Ev.bind (wiped_ev _ (by omega)) ?_
  exact tells_l0 l hg r [] (by simp; omega)
end Go.Proofs.Ytbbepmmelpabbaa.Mo
