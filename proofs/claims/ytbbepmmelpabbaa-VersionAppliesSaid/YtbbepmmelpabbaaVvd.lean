/- One; Bears; Cuts: the laws in plain words. -/
import Derived.Test.YtbbepmmelpabbaaVvc
import Derived.Test.YtbbepmmelpabbaaPqID
import Derived.KernelRfl
set_option linter.unusedVariables false
set_option linter.unusedSectionVars false
set_option linter.unusedSimpArgs false
set_option maxRecDepth 100000
namespace Go.Proofs.Ytbbepmmelpabbaa.Mo
open Go Go.Proofs.Ytbbepmmelpabbaa.Sy

/-! ### Numbers -/
theorem less_int (x y : Int) : cmp_Less_int x y = some (decide (x < y)) := by
  simp [cmp_Less_int, cmp_isNaN_int, Jn]
theorem wo_int : Wo (fun x y : Int => x < y) := ⟨fun x y h k => by omega, fun x y z h k => by omega⟩
theorem vnum_l1 (fs : List File) (hf : fs.length ≤ 2199023255552) : ∀ (s p : List File) (acc : List Int), fs = p ++ s → acc.length + s.length ≤ 28147497670000 →
    ∀ (J : Nat → List Int → Option (List Int)) b, Ev (fun k => J k (acc ++ nums s)) b → Ev (fun k => version_Numbers.l1 (J k) fs k acc p.length) b
  | [], p, acc, hp, hb, J, b, hJ => by
    refine Ev.succ ?_
    subst hp
    simp only [version_Numbers.l1, lt_end, Bool.false_eq_true, if_false]
    simpa [nums] using hJ.shift
  | f :: s, p, acc, hp, hb, J, b, hJ => by
    refine Ev.succ ?_
    subst hp
    simp only [List.length_cons] at hb
    simp only [version_Numbers.l1, lt_at, idx_at, if_true, Option.bind_some, push_ok (show acc.length < 28147497670912 by omega), step_at p s f (by rw [maxLen_val]; omega)]
    refine vnum_l1 (p ++ f :: s) hf s (p ++ [f]) (acc ++ [f.Number]) (by simp) (by simp; omega) (fun k => J (k + 1)) b ?_
    simpa [nums] using hJ.shift
theorem vnum_l0 (l : List (List File)) (hg : goodL l) (h7 : l.length ≤ 7) (r : List Int) (hr : Ev (fun k => slices_Sort_int k (nums l.flatten)) r) : ∀ (s p : List (List File)) (acc : List Int), l = p ++ s → acc = nums p.flatten → acc.length + s.flatten.length ≤ 2147483647 →
    Ev (fun k => version_Numbers.l0 l k acc p.length) r
  | [], p, acc, hp, ha, hb => by
    refine Ev.succ ?_
    have e1 : decide ((p.length : Int) < (l.length : Int)) = false := by rw [hp]; exact lt_end p
    simp only [version_Numbers.l0, e1, Bool.false_eq_true, if_false]
    rw [List.append_nil] at hp
    rw [ha, ← hp]
    exact Ev.bind hr Ev.ret
  | fs :: s, p, acc, hp, ha, hb => by
    have hfs := (hg.1 fs (by rw [hp]; simp)).1
    rw [List.flatten_cons, List.length_append] at hb
    have e1 : decide ((p.length : Int) < (l.length : Int)) = true := by rw [hp]; exact lt_at p s fs
    refine Ev.succ ?_
    simp only [version_Numbers.l0, e1, if_true, Jn, idx_l hp, Option.bind_some, step_at p s fs (by rw [← hp, maxLen_val]; omega)]
    refine vnum_l1 fs hfs fs [] acc (by simp) (by omega) (fun k l_224 => version_Numbers.l0 l k l_224 ((p ++ [fs]).length : Int)) r ?_
    refine vnum_l0 l hg h7 r hr s (p ++ [fs]) (acc ++ nums fs) (by simp [hp]) (by simp [ha, nums]) ?_
    simp only [List.length_append, nums, List.length_map]
    omega
theorem sorted_uniq : ∀ {a b : List Int}, a.Perm b → Rises a → Rises b → a = b := fun h ha hb => h.eq_of_pairwise (fun x y _ _ h1 h2 => Int.le_antisymm h1 h2) ha hb
theorem numbers_both (l : List (List File)) (hg : goodL l) : ∃ r, (r.length = if validB l = true then l.flatten.length else 0) ∧ Ev (fun k => version_Numbers k l) r ∧ Ev (fun k => r16_Numbers k l) r := by
  cases hv : validB l with
  | false =>
    refine ⟨[], by simp, ?_, ?_⟩
    · unfold version_Numbers
      refine Ev.bind (valid_ev l hg) ?_
      simp only [hv, Bool.not_false, if_true]
      exact Ev.ret
    · unfold r16_Numbers
      refine Ev.bind (rvalid_ev l hg) ?_
      simp only [hv, Bool.not_false, if_true]
      exact Ev.ret
  | true =>
    have hlen := valid_len hv
    have h7 := (validB_iff.1 hv).2.1
    obtain ⟨r, s1, s2, s3⟩ := sort_int (lt := fun x y : Int => x < y) (0 : Int) (fun x y => less_int x y) wo_int (nums l.flatten) (by rw [nums, List.length_map]; omega)
    obtain ⟨r', t1, t2, t3⟩ := numbers_ev l hg h7
    have hr1 : Rises r := s1.imp fun h => by omega
    have e : r = r' := sorted_uniq (s2.symm.trans t1.symm) hr1 t2
    subst e
    refine ⟨r, ?_, ?_, ?_⟩
    · rw [t1.length_eq, nums, List.length_map]; simp
    · unfold version_Numbers
      refine Ev.bind (valid_ev l hg) ?_
      simp only [hv, Bool.not_true, Bool.false_eq_true, if_false]
      exact vnum_l0 l hg h7 r s3 l [] [] (by simp) (by simp [nums]) (by rw [List.length_nil]; omega)
    · unfold r16_Numbers
      refine Ev.bind (rvalid_ev l hg) ?_
      simp only [hv, Bool.not_true, Bool.false_eq_true, if_false]
      exact Ev.bind t3 Ev.ret
theorem files_ev (l : List (List File)) (hg : goodL l) : Ev (fun k => version_Files k l) (if validB l = true then (l.flatten.length : Int) else 0) := by
  unfold version_Files
  obtain ⟨r, h1, h2, _⟩ := numbers_both l hg
  refine Ev.bind h2 ?_
  rw [h1]
  by_cases h : validB l = true <;> simp only [h, if_true, if_false, Bool.false_eq_true] <;> exact Ev.ret

/-! ### One -/
def oneL : List (List File) := [[(⟨3, 9, (ByteArray.mk #[97]), (ByteArray.mk #[99]), 1, 1⟩ : File)]]
theorem oneL_good : goodL oneL := ⟨fun y hy => by
  simp only [oneL, List.mem_singleton] at hy
  subst hy
  refine ⟨by decide, fun f hf => ?_⟩
  simp only [List.mem_singleton] at hf
  subst hf
  rfl, by decide⟩
theorem one_valid : validB oneL = true := by kernel_rfl
theorem one_ev : Ev (fun k => l16_one k) true := by
  unfold l16_one
  refine Ev.bind (valid_ev oneL oneL_good) ?_
  simp only [one_valid, Jn, if_true]
  refine Ev.bind (files_ev oneL oneL_good) ?_
  simp only [one_valid, if_true]
  have e0 : (((oneL.flatten.length : Nat) : Int) == 1) = true := rfl
  simp only [e0, if_true]
  refine Ev.bind (over_ev oneL oneL_good 0 _ _) ?_
  have e1 : (((overS oneL 0 (ByteArray.mk #[98]) (ByteArray.mk #[])).length : Int) == 1) = true := by kernel_rfl
  simp only [e1, if_true]
  refine Ev.bind (asks_ev oneL oneL_good _) ?_
  have e2 : (((asksS oneL (ByteArray.mk #[98])).length : Int) == 1) = true := by kernel_rfl
  simp only [e2]
  exact Ev.ret
end Go.Proofs.Ytbbepmmelpabbaa.Mo
