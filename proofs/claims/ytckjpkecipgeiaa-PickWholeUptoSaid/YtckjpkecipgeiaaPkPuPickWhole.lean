/- PickWhole, in plain words: nothing older stays above. -/
import Derived.Test.YtckjpkecipgeiaaPkInPickWhole
import Derived.Test.YtckjpkecipgeiaaVPx
set_option linter.unusedVariables false
set_option linter.unusedSimpArgs false
set_option maxRecDepth 100000
set_option linter.unusedSectionVars false
namespace Go.Proofs.Ytckjpkecipgeiaa.Mo.pickWhole
open Go Go.Proofs.Ytckjpkecipgeiaa.Sy Go.Proofs.Ytckjpkecipgeiaa.Mo

theorem sum_ge {α : Type} (g : α → Nat) : ∀ (l : List α) (x : α), x ∈ l → g x ≤ (l.map g).sum
  | y :: l, x, h => by
    rcases List.mem_cons.1 h with rfl | h
    · simp
    · have := sum_ge g l x h
      simp; omega
theorem len_le_sum {α : Type} (g : α → Nat) (hg : ∀ x, 1 ≤ g x) : ∀ (l : List α), l.length ≤ (l.map g).sum
  | [] => by simp
  | y :: l => by
    have := len_le_sum g hg l
    have := hg y
    simp; omega
theorem goodL_of {a0 : List (List File)} {n : Nat} (h : (∀ y ∈ a0, (∀ y1 ∈ y, File.good y1) ∧ y.length ≤ maxLen) ∧ a0.length ≤ maxLen) (h2 : ((a0.map fun y => ((y.map fun y1 => File.mz y1).sum + 1)).sum + 1) + n ≤ 1048576) : goodL a0 ∧ ∀ y ∈ a0, y.length ≤ 1048576 := by
  have hy : ∀ y ∈ a0, y.length ≤ 1048576 := fun y hy => by
    have h3 := sum_ge (fun y : List File => ((y.map fun y1 => File.mz y1).sum + 1)) a0 y hy
    have h4 := len_le_sum (fun y1 : File => File.mz y1) (fun x => by unfold File.mz; omega) y
    omega
  have hl := len_le_sum (fun y : List File => ((y.map fun y1 => File.mz y1).sum + 1)) (fun x => by omega) a0
  exact ⟨⟨fun y h' => ⟨by have := hy y h'; omega, fun f hf => ((h.1 y h').1 f hf).1⟩, by omega⟩, hy⟩

def inB (fs : List File) (f : File) : Bool := fs.any fun x => File.eqb x f
theorem inB_iff {fs : List File} {f : File} : inB fs f = true ↔ f ∈ fs := by
  simp only [inB, List.any_eq_true, eqb_iff]
  exact ⟨fun ⟨x, hx, e⟩ => e ▸ hx, fun h => ⟨f, h, rfl⟩⟩
theorem in_l0 (fs : List File) (f : File) (hl : fs.length ≤ 9223372036854775000) : ∀ (s p : List File), fs = p ++ s → Ev (fun k => l22_in.l0 fs f k p.length) (inB s f)
  | [], p, hp => by
    subst hp
    refine Ev.succ ?_
    simp only [l22_in.l0, lt_end, Bool.false_eq_true, if_false]
    exact Ev.ret
  | x :: s, p, hp => by
    refine Ev.succ ?_
    subst hp
    simp only [l22_in.l0, lt_at, idx_at, if_true, Option.bind_some, step_at p s x (by rw [maxLen_val]; omega)]
    by_cases h : File.eqb x f = true
    · simp only [h, if_true]
      refine Ev.ret.to ?_
      simp [inB, h]
    · simp only [h, Bool.false_eq_true, if_false]
      have := in_l0 (p ++ x :: s) f hl s (p ++ [x]) (by simp)
      refine this.to ?_
      simp [inB, h]
theorem in_ev (fs : List File) (f : File) (hl : fs.length ≤ 9223372036854775000) : Ev (fun k => l22_in k fs f) (inB fs f) := in_l0 fs f hl fs [] (by simp)

theorem meets_eq (f : File) (a b : ByteArray) : ∃ x, l22_meets f a b = some x ∧ (x = true ↔ meets f a b) := by
  refine ⟨_, rfl, ?_⟩
  rw [Bool.and_eq_true, sLt_iff]
  unfold meets
  have e1 : (!(sLt f.Limit a || sEq f.Limit a)) = true ↔ slt a f.Limit := by
    rw [sLe_dec, Bool.not_eq_true']
    exact ⟨fun h => Classical.not_not.1 (of_decide_eq_false h), fun h => decide_eq_false (fun k => k h)⟩
  rw [e1]
theorem meets_no {f : File} {a b : ByteArray} (h : ¬ meets f a b) : l22_meets f a b = some false := by
  obtain ⟨x, h1, h2⟩ := meets_eq f a b
  cases x with
  | true => exact absurd (h2.1 rfl) h
  | false => exact h1

section
variable {l : List (List File)} {r : Nat} (hr : r + 1 < l.length) (hn7 : r ≤ 1000) (hl : ∀ y ∈ l, y.length ≤ 1048576) (r9 : pick_Plan × Bool) (hlev : r9.1.Level = (r : Int))
  (hul : r9.1.Upper.length ≤ 1048576) (hll : r9.1.Lower.length ≤ 1048576)
include hr hn7 hl hlev hul hll
theorem idx_r : idx l r9.1.Level = some (l.getD r []) := by rw [hlev, getD_idx2 [] (by omega)]
theorem idx_n : idx l (w64 (r9.1.Level + 1)) = some (l.getD (r + 1) []) := by rw [hlev, w64_succ (by omega), getD_idx2 [] hr]
theorem len_r : (l.getD r []).length ≤ 1048576 := by
  rw [List.getD_eq_getElem?_getD, List.getElem?_eq_getElem (by omega)]
  exact hl _ (List.getElem_mem _)
theorem len_n : (l.getD (r + 1) []).length ≤ 1048576 := by
  rw [List.getD_eq_getElem?_getD, List.getElem?_eq_getElem hr]
  exact hl _ (List.getElem_mem _)

theorem l1_ev (f : File) (h : f ∈ r9.1.Upper ∨ ∀ g ∈ r9.1.Upper, ¬ meets f g.Least g.Limit) : ∀ (d j : Nat), j + d = r9.1.Upper.length → ∀ J : Nat → Option Bool, Ev J true → Ev (fun k => l22_PickWhole.l1 r9 (J k) f k j) true
  | 0, j, hj, J, hJ => by
    refine Ev.succ ?_
    have e : decide ((j : Int) < (r9.1.Upper.length : Int)) = false := decF (by omega)
    simp only [l22_PickWhole.l1, e, Jn, Bool.false_eq_true, if_false]
    exact hJ.shift
  | d + 1, j, hj, J, hJ => by
    refine Ev.succ ?_
    have e : decide ((j : Int) < (r9.1.Upper.length : Int)) = true := decT (by omega)
    simp only [l22_PickWhole.l1, e, Jn, if_true]
    refine Ev.bind (in_ev r9.1.Upper f (by omega)) ?_
    by_cases hin : inB r9.1.Upper f = true
    · simp only [hin, Bool.not_true, Bool.false_eq_true, if_false]
      exact hJ.shift
    · have hin' := Bool.eq_false_iff.2 hin
      have hmt : ∀ g ∈ r9.1.Upper, ¬ meets f g.Least g.Limit := by
        rcases h with h | h
        · exact absurd (inB_iff.2 h) hin
        · exact h
      have hjl : j < r9.1.Upper.length := by omega
      simp only [hin', Bool.not_false, if_true]
      refine Ev.bind0 (getD_idx hjl) ?_
      refine Ev.bind0 (getD_idx hjl) ?_
      refine Ev.bind0 (meets_no (hmt _ (List.getElem_mem _))) ?_
      simp only [Bool.false_eq_true, if_false, w64_succ (show j < 9223372036854775807 by omega)]
      exact l1_ev f h d (j + 1) (by omega) (fun k => J (k + 1)) hJ.shift

theorem l2_ev (h : ∀ g ∈ r9.1.Lower, g ∈ l.getD (r + 1) []) : ∀ (d j : Nat), j + d = r9.1.Lower.length → ∀ J : Nat → Option Bool, Ev J true → Ev (fun k => l22_PickWhole.l2 l r9 (J k) k j) true
  | 0, j, hj, J, hJ => by
    refine Ev.succ ?_
    have e : decide ((j : Int) < (r9.1.Lower.length : Int)) = false := decF (by omega)
    simp only [l22_PickWhole.l2, e, Bool.false_eq_true, if_false]
    exact hJ.shift
  | d + 1, j, hj, J, hJ => by
    refine Ev.succ ?_
    have e : decide ((j : Int) < (r9.1.Lower.length : Int)) = true := decT (by omega)
    have hjl : j < r9.1.Lower.length := by omega
    have hln := len_n hr hn7 hl r9 hlev hul hll
    simp only [l22_PickWhole.l2, e, if_true]
    refine Ev.bind0 (idx_n hr hn7 hl r9 hlev hul hll) ?_
    refine Ev.bind0 (getD_idx hjl) ?_
    refine Ev.bind (in_ev _ _ (by omega)) ?_
    simp only [inB_iff.2 (h _ (List.getElem_mem hjl)), Bool.not_true, Bool.false_eq_true, if_false, w64_succ (show j < 9223372036854775807 by omega)]
    exact l2_ev h d (j + 1) (by omega) (fun k => J (k + 1)) hJ.shift

theorem l3_ev (h : ∀ g ∈ r9.1.Upper, g ∈ l.getD r []) : ∀ (d j : Nat), j + d = r9.1.Upper.length → ∀ J : Nat → Option Bool, Ev J true → Ev (fun k => l22_PickWhole.l3 l r9 (J k) k j) true
  | 0, j, hj, J, hJ => by
    refine Ev.succ ?_
    have e : decide ((j : Int) < (r9.1.Upper.length : Int)) = false := decF (by omega)
    simp only [l22_PickWhole.l3, e, Bool.false_eq_true, if_false]
    exact hJ.shift
  | d + 1, j, hj, J, hJ => by
    refine Ev.succ ?_
    have e : decide ((j : Int) < (r9.1.Upper.length : Int)) = true := decT (by omega)
    have hjl : j < r9.1.Upper.length := by omega
    have hln := len_r hr hn7 hl r9 hlev hul hll
    simp only [l22_PickWhole.l3, e, if_true]
    refine Ev.bind0 (idx_r hr hn7 hl r9 hlev hul hll) ?_
    refine Ev.bind0 (getD_idx hjl) ?_
    refine Ev.bind (in_ev _ _ (by omega)) ?_
    simp only [inB_iff.2 (h _ (List.getElem_mem hjl)), Bool.not_true, Bool.false_eq_true, if_false, w64_succ (show j < 9223372036854775807 by omega)]
    exact l3_ev h d (j + 1) (by omega) (fun k => J (k + 1)) hJ.shift

theorem l4_ev (r48 : ByteArray × ByteArray × Bool) (h : ∀ f ∈ l.getD (r + 1) [], f ∉ r9.1.Lower → ¬ meets f r48.1 r48.2.1) : ∀ (d j : Nat), j + d = (l.getD (r + 1) []).length → ∀ J : Nat → Option Bool, Ev J true → Ev (fun k => l22_PickWhole.l4 l r9 r48 (J k) k j) true
  | 0, j, hj, J, hJ => by
    refine Ev.succ ?_
    have e : decide ((j : Int) < ((l.getD (r + 1) []).length : Int)) = false := decF (by omega)
    simp only [l22_PickWhole.l4]
    refine Ev.bind0 (idx_n hr hn7 hl r9 hlev hul hll) ?_
    simp only [e, Bool.false_eq_true, if_false]
    exact hJ.shift
  | d + 1, j, hj, J, hJ => by
    refine Ev.succ ?_
    have hjl : j < (l.getD (r + 1) []).length := by omega
    have e : decide ((j : Int) < ((l.getD (r + 1) []).length : Int)) = true := decT (by omega)
    have hln := len_n hr hn7 hl r9 hlev hul hll
    simp only [l22_PickWhole.l4]
    refine Ev.bind0 (idx_n hr hn7 hl r9 hlev hul hll) ?_
    simp only [e, if_true]
    refine Ev.bind0 (idx_n hr hn7 hl r9 hlev hul hll) ?_
    refine Ev.bind0 (getD_idx hjl) ?_
    refine Ev.bind (in_ev _ _ (by omega)) ?_
    simp only [Jn, w64_succ (show j < 9223372036854775807 by omega)]
    have next := l4_ev r48 h d (j + 1) (by omega) (fun k => J (k + 1)) hJ.shift
    by_cases hin : inB r9.1.Lower (l.getD (r + 1) [])[j] = true
    · simp only [hin, Bool.not_true, Bool.false_eq_true, if_false]
      exact next
    · have hin' := Bool.eq_false_iff.2 hin
      simp only [hin', Bool.not_false, if_true]
      refine Ev.bind0 (meets_no (h _ (List.getElem_mem hjl) (fun hm => hin (inB_iff.2 hm)))) ?_
      simp only [Bool.false_eq_true, if_false]
      exact next

theorem l0_ev (r48 : ByteArray × ByteArray × Bool) (hA : ∀ f ∈ l.getD r [], f ∈ r9.1.Upper ∨ ∀ g ∈ r9.1.Upper, ¬ meets f g.Least g.Limit) (hB : ∀ f ∈ l.getD (r + 1) [], f ∉ r9.1.Lower → ¬ meets f r48.1 r48.2.1)
    (hC : ∀ g ∈ r9.1.Upper, g ∈ l.getD r []) (hD : ∀ g ∈ r9.1.Lower, g ∈ l.getD (r + 1) []) : ∀ (d j : Nat), j + d = (l.getD r []).length → Ev (fun k => l22_PickWhole.l0 l r9 r48 k j) true
  | 0, j, hj => by
    refine Ev.succ ?_
    have e : decide ((j : Int) < ((l.getD r []).length : Int)) = false := decF (by omega)
    simp only [l22_PickWhole.l0]
    refine Ev.bind0 (idx_r hr hn7 hl r9 hlev hul hll) ?_
    simp only [e, Bool.false_eq_true, if_false, Jn]
    refine l4_ev hr hn7 hl r9 hlev hul hll r48 hB (l.getD (r + 1) []).length 0 (by omega) _ ?_
    refine l3_ev hr hn7 hl r9 hlev hul hll hC r9.1.Upper.length 0 (by omega) _ ?_
    exact l2_ev hr hn7 hl r9 hlev hul hll hD r9.1.Lower.length 0 (by omega) _ Ev.ret
  | d + 1, j, hj => by
    refine Ev.succ ?_
    have hjl : j < (l.getD r []).length := by omega
    have e : decide ((j : Int) < ((l.getD r []).length : Int)) = true := decT (by omega)
    have hln := len_r hr hn7 hl r9 hlev hul hll
    simp only [l22_PickWhole.l0]
    refine Ev.bind0 (idx_r hr hn7 hl r9 hlev hul hll) ?_
    simp only [e, if_true, Jn]
    refine Ev.bind0 (idx_r hr hn7 hl r9 hlev hul hll) ?_
    refine Ev.bind0 (getD_idx hjl) ?_
    simp only [w64_succ (show j < 9223372036854775807 by omega)]
    exact l1_ev hr hn7 hl r9 hlev hul hll _ (hA _ (List.getElem_mem hjl)) r9.1.Upper.length 0 (by omega) _ (l0_ev r48 hA hB hC hD d (j + 1) (by omega))
end

theorem pure : ∀ (a0 : (List (List File))) (a1 : Config) (a2 : (List ByteArray)), ((∀ y ∈ a0, (∀ y1 ∈ y, File.good y1) ∧ y.length ≤ maxLen) ∧ a0.length ≤ maxLen) → (Config.good a1) → ((∀ y ∈ a2, y.size ≤ maxLen) ∧ a2.length ≤ maxLen) → ((a0.map fun y => ((y.map fun y1 => File.mz y1).sum + 1)).sum + 1) + Config.mz a1 + ((a2.map fun y => (y.size + 1)).sum + 1) ≤ 1048576 → ∃ k, l22_PickWhole k a0 a1 a2 = some true := by
  intro l c last h1 _ _ h2
  obtain ⟨hg, hl⟩ := goodL_of (n := Config.mz c + ((last.map fun y => (y.size + 1)).sum + 1)) h1 (by omega)
  refine Ev.ex ?_
  unfold l22_PickWhole
  refine Ev.bind works_ev ?_
  simp only [Bool.not_true, Bool.false_eq_true, if_false]
  refine Ev.bind (next_ev l hg c last) ?_
  by_cases hok : (nextS l c last).2 = true
  · have hm : mayS l c = true := by
      unfold nextS at hok
      split at hok
      · assumption
      · cases hok
    have hv := (mayS_iff.1 hm).1
    have hv1 := (validB_iff.1 hv).1
    have hv7 := (validB_iff.1 hv).2.1
    have hne0 : scoresS l c ≠ [] := by
      intro h
      have := scores_len l c
      rw [h] at this
      simp at this
      omega
    have hb1 := (bestN_spec hne0).1
    rw [scores_len] at hb1
    have hlt : ¬ scoreS l c (bestN (scoresS l c) : Int) < 1000 := by
      unfold nextS at hok
      rw [if_pos hm, scores_get hb1] at hok
      intro h
      rw [if_pos h] at hok
      cases hok
    have hnx : nextS l c last = (planS l c (bestN (scoresS l c)) last, true) := by
      unfold nextS
      rw [if_pos hm, scores_get hb1, if_neg hlt]
    obtain ⟨_, hr, hne⟩ := full_ne _ hb1 hlt
    generalize bestN (scoresS l c) = r at hb1 hlt hnx hr hne
    rw [hnx]
    have t := plan_taken hg hr hv hne last c
    have hlev : (planS l c r last).Level = (r : Int) := rfl
    have hlr : (l.getD r []).length ≤ 1048576 := by
      rw [List.getD_eq_getElem?_getD, List.getElem?_eq_getElem hb1]; exact hl _ (List.getElem_mem _)
    have hln : (l.getD (r + 1) []).length ≤ 1048576 := by
      rw [List.getD_eq_getElem?_getD, List.getElem?_eq_getElem hr]; exact hl _ (List.getElem_mem _)
    have hll : (planS l c r last).Lower.length ≤ 1048576 := by
      rw [t.low]; exact Nat.le_trans (List.length_filter_le _ _) hln
    have hul : (planS l c r last).Upper.length ≤ 1048576 := by
      have hof := ofS_r hg hb1 hv hne
      unfold planS
      simp only
      split
      · unfold touchS
        split
        · exact Nat.le_trans (List.length_filter_le _ _) (by rw [hof]; exact hlr)
        · have : r = 0 := by omega
          subst this
          refine Nat.le_trans (touchF_len _ _ _ _) ?_
          have : ofS l 0 = l.getD 0 [] := hof
          rw [this]; exact hlr
      · unfold upperS
        split
        · rename_i h0
          subst h0
          unfold touchS
          rw [if_neg (by omega)]
          refine Nat.le_trans (touchF_len _ _ _ _) ?_
          have : ofS l 0 = l.getD 0 [] := hof
          rw [this]; exact hlr
        · simp
    have hsub : ∀ g ∈ (planS l c r last).Lower, g ∈ l.getD (r + 1) [] := fun g hgm => by
      rw [t.low] at hgm
      exact (List.mem_filter.1 hgm).1
    have e1 : (((decide ((planS l c r last).Level < 0)) || (decide ((l.length : Int) ≤ (w64 ((planS l c r last).Level + 1))))) || (((planS l c r last).Upper.length : Int) == 0)) = false := by
      rw [hlev, w64_succ (by omega)]
      have : (planS l c r last).Upper.length ≠ 0 := fun h => t.ne (List.eq_nil_of_length_eq_zero h)
      simp only [Bool.or_eq_false_iff, decide_eq_false_iff_not, beq_eq_false_iff_ne]
      omega
    simp only [Bool.not_true, Bool.false_eq_true, if_false, Jn, e1]
    refine Ev.bind (score_ev l hg c _) ?_
    have e2 : decide (scoreS l c (planS l c r last).Level < 1000) = false := by rw [hlev]; simpa using hlt
    simp only [e2, Bool.false_eq_true, if_false]
    refine Ev.bind0 (pushN_ok (by simp; omega)) ?_
    refine Ev.bind0 (pushN_ok (by simp; omega)) ?_
    rw [List.nil_append]
    refine Ev.bind (span_ev _ (by rw [List.length_append]; omega)) ?_
    refine l0_ev hr (by omega) hl _ hlev hul hll _ ?_ ?_ t.sub hsub (l.getD r []).length 0 (by omega)
    · intro f hf
      by_cases hfu : f ∈ (planS l c r last).Upper
      · exact .inl hfu
      · exact .inr (t.apart f hf hfu)
    · exact below_apart hg hr hv hne t
  · have hok' := Bool.eq_false_iff.2 hok
    have hz : (nextS l c last).1 = ⟨0, [], [], false⟩ := by
      unfold nextS at hok ⊢
      split
      · rename_i hm
        rw [if_pos hm] at hok
        split
        · rfl
        · rename_i hlt
          rw [if_neg hlt] at hok
          exact absurd rfl hok
      · rfl
    simp only [hok', Bool.not_false, if_true, hz]
    exact Ev.ret
end Go.Proofs.Ytckjpkecipgeiaa.Mo.pickWhole
