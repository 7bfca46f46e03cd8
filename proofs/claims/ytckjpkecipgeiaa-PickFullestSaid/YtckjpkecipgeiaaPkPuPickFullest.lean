/- PickFullest, in plain words: a plan is of the fullest level, and there is one just if a level is full. -/
import Derived.Test.YtckjpkecipgeiaaPkInPickFullest
import Derived.Test.YtckjpkecipgeiaaVPw
set_option linter.unusedVariables false
set_option linter.unusedSimpArgs false
set_option maxRecDepth 100000
namespace Go.Proofs.Ytckjpkecipgeiaa.Mo.pickFullest
open Go Go.Proofs.Ytckjpkecipgeiaa.Sy Go.Proofs.Ytckjpkecipgeiaa.Mo

theorem goodL_of {a0 : List (List File)} (h : (∀ y ∈ a0, (∀ y1 ∈ y, File.good y1) ∧ y.length ≤ maxLen) ∧ a0.length ≤ maxLen) (h2 : a0.length * 24 ≤ 140737488355327 ∧ ∀ y ∈ a0, (y.length * 64 ≤ 140737488355327 ∧ ∀ y1 ∈ y, File.szs y1)) : goodL a0 := by
  refine ⟨fun y hy => ⟨?_, fun f hf => ?_⟩, by omega⟩
  · have := (h2.2 y hy).1
    omega
  · exact ((h.1 y hy).1 f hf).1

/-- Is one of the first n levels full? -/
def fullB (l : List (List File)) (c : Config) (n : Nat) : Bool := (List.range n).any fun i : Nat => decide (1000 ≤ scoreS l c (i : Int))
theorem fullB_succ (l : List (List File)) (c : Config) (n : Nat) : fullB l c (n + 1) = (fullB l c n || decide (1000 ≤ scoreS l c (n : Int))) := by
  simp [fullB, List.range_succ, List.any_append]

theorem l0_ev (l : List (List File)) (hg : goodL l) (c : Config) (r9 : pick_Plan × Bool) (h1 : r9.2 = fullB l c l.length)
    (h2 : r9.2 = true → ∀ i : Nat, i < l.length → scoreS l c (i : Int) ≤ scoreS l c r9.1.Level ∧ ((i : Int) < r9.1.Level → scoreS l c (i : Int) < scoreS l c r9.1.Level)) :
    ∀ (d j : Nat), j + d = l.length → Ev (fun k => l22_PickFullest.l0 l c r9 k (fullB l c j) j) true
  | 0, j, h => by
    have hj : j = l.length := by omega
    subst hj
    refine Ev.succ ?_
    have e : decide ((l.length : Int) < (l.length : Int)) = false := by simp
    simp only [l22_PickFullest.l0, e, Bool.false_eq_true, if_false, h1, beq_self_eq_true]
    exact Ev.ret
  | d + 1, j, h => by
    refine Ev.succ ?_
    have hlen := hg.2
    have e : decide ((j : Int) < (l.length : Int)) = true := by simp; omega
    simp only [l22_PickFullest.l0, e, if_true]
    refine Ev.bind (score_ev l hg c j) ?_
    have next := l0_ev l hg c r9 h1 h2 d (j + 1) (by omega)
    rw [fullB_succ] at next
    simp only [w64_succ (show j < 9223372036854775807 by omega), Jn]
    by_cases hok : r9.2 = true
    · simp only [hok, if_true]
      refine Ev.bind (score_ev l hg c r9.1.Level) ?_
      obtain ⟨h3, h4⟩ := h2 hok j (by omega)
      have e1 : decide (scoreS l c r9.1.Level < scoreS l c (j : Int)) = false := by simp; omega
      simp only [e1, Bool.false_eq_true, if_false]
      by_cases h5 : (j : Int) < r9.1.Level
      · simp only [h5, decide_true, if_true]
        refine Ev.bind (score_ev l hg c r9.1.Level) ?_
        have e2 : (scoreS l c (j : Int) == scoreS l c r9.1.Level) = false := by
          have := h4 h5
          simp; omega
        simp only [e2, Bool.false_eq_true, if_false]
        exact next
      · simp only [h5, decide_false, Bool.false_eq_true, if_false]
        exact next
    · have hok' := Bool.eq_false_iff.2 hok
      simp only [hok', Bool.false_eq_true, if_false]
      exact next

theorem next_full (l : List (List File)) (c : Config) (last : List ByteArray) : (nextS l c last).2 = fullB l c l.length ∧
    ((nextS l c last).2 = true → ∀ i : Nat, i < l.length → scoreS l c (i : Int) ≤ scoreS l c (nextS l c last).1.Level ∧ ((i : Int) < (nextS l c last).1.Level → scoreS l c (i : Int) < scoreS l c (nextS l c last).1.Level)) := by
  by_cases hm : mayS l c = true
  · have hv := (mayS_iff.1 hm).1
    have hl1 := (validB_iff.1 hv).1
    have hne : scoresS l c ≠ [] := by
      intro h
      have := scores_len l c
      rw [h] at this
      simp at this
      omega
    obtain ⟨hb1, hb2⟩ := bestN_spec hne
    rw [scores_len] at hb1 hb2
    have hbest : ∀ j, j < l.length → scoreS l c (j : Int) ≤ scoreS l c (bestN (scoresS l c) : Int) ∧ (j < bestN (scoresS l c) → scoreS l c (j : Int) < scoreS l c (bestN (scoresS l c) : Int)) := by
      intro j hj
      have := hb2 j hj
      rw [scores_get hj, scores_get hb1] at this
      exact this
    unfold nextS
    rw [if_pos hm, scores_get hb1]
    by_cases hlt : scoreS l c (bestN (scoresS l c) : Int) < 1000
    · rw [if_pos hlt]
      refine ⟨?_, fun h => by cases h⟩
      symm
      simp only [fullB, List.any_eq_false, List.mem_range, decide_eq_true_eq]
      intro j hj
      have := (hbest j hj).1
      omega
    · rw [if_neg hlt]
      refine ⟨?_, fun _ i hi => ?_⟩
      · symm
        simp only [fullB, List.any_eq_true, List.mem_range, decide_eq_true_eq]
        exact ⟨_, hb1, by omega⟩
      · have := hbest i hi
        refine ⟨this.1, fun h => this.2 ?_⟩
        have h' : (i : Int) < (bestN (scoresS l c) : Int) := h
        omega
  · have hm' := Bool.eq_false_iff.2 hm
    unfold nextS
    rw [if_neg hm]
    refine ⟨?_, fun h => by cases h⟩
    symm
    simp only [fullB, List.any_eq_false, List.mem_range, decide_eq_true_eq]
    intro j hj
    have : scoreS l c (j : Int) = 0 := by
      unfold scoreS
      rw [if_pos (by simp [hm'])]
    omega

theorem pure : ∀ (a0 : (List (List File))) (a1 : Config) (a2 : (List ByteArray)), ((∀ y ∈ a0, (∀ y1 ∈ y, File.good y1) ∧ y.length ≤ maxLen) ∧ a0.length ≤ maxLen) → ((a0.length * 24 ≤ 140737488355327 ∧ ∀ y ∈ a0, (y.length * 64 ≤ 140737488355327 ∧ ∀ y1 ∈ y, File.szs y1))) → (Config.good a1) → (Config.szs a1) → ((∀ y ∈ a2, y.size ≤ maxLen) ∧ a2.length ≤ maxLen) → ((a2.length * 16 ≤ 140737488355327 ∧ ∀ y ∈ a2, y.size ≤ 140737488355327)) → ∃ k, l22_PickFullest k a0 a1 a2 = some true := by
  intro l c last h1 h2 _ _ _ _
  have hg := goodL_of h1 h2
  refine Ev.ex ?_
  unfold l22_PickFullest
  refine Ev.bind works_ev ?_
  simp only [Bool.not_true, Bool.false_eq_true, if_false]
  refine Ev.bind (next_ev l hg c last) ?_
  obtain ⟨h3, h4⟩ := next_full l c last
  exact l0_ev l hg c _ h3 h4 l.length 0 (by omega)
end Go.Proofs.Ytckjpkecipgeiaa.Mo.pickFullest
