/- PickPlans, in plain words: the compaction that is due is the document's. -/
import Derived.Test.YtckjpkecipgeiaaPkInPickPlans
import Derived.Test.YtckjpkecipgeiaaVPs
set_option linter.unusedVariables false
set_option linter.unusedSimpArgs false
set_option maxRecDepth 100000
namespace Go.Proofs.Ytckjpkecipgeiaa.Mo.pickPlans
open Go Go.Proofs.Ytckjpkecipgeiaa.Sy Go.Proofs.Ytckjpkecipgeiaa.Mo

theorem goodL_of {a0 : List (List File)} (h : (∀ y ∈ a0, (∀ y1 ∈ y, File.good y1) ∧ y.length ≤ maxLen) ∧ a0.length ≤ maxLen) (h2 : a0.length * 24 ≤ 140737488355327 ∧ ∀ y ∈ a0, (y.length * 64 ≤ 140737488355327 ∧ ∀ y1 ∈ y, File.szs y1)) : goodL a0 := by
  refine ⟨fun y hy => ⟨?_, fun f hf => ?_⟩, by omega⟩
  · have := (h2.2 y hy).1
    omega
  · exact ((h.1 y hy).1 f hf).1

theorem copied_l0 (l : List (List File)) (hg : goodL l) (hl : l.length ≤ 5864062014805) : ∀ (s p : List (List File)), l = p ++ s → Ev (fun k => l22_copied.l0 l k p p.length) l
  | [], p, hp => by
    simp at hp
    subst hp
    refine Ev.succ ?_
    simp only [l22_copied.l0, decF (Nat.le_refl l.length), Bool.false_eq_true, if_false]
    exact Ev.ret
  | fs :: s, p, hp => by
    refine Ev.succ ?_
    have e1 : decide ((p.length : Int) < (l.length : Int)) = true := by rw [hp]; exact lt_at p s fs
    have e2 : idx l (p.length : Int) = some fs := by rw [hp]; exact idx_at p fs s
    have hfs := (hg.1 fs (by rw [hp]; simp)).1
    have hpl : p.length < l.length := by rw [hp]; simp
    simp only [l22_copied.l0, e1, if_true]
    refine Ev.bind0 e2 ?_
    refine Ev.bind0 (pushN_ok (by simp; omega)) ?_
    refine Ev.bind0 (push_ok (by omega)) ?_
    rw [List.nil_append, step_at p s fs (by rw [← hp, maxLen_val]; omega)]
    exact copied_l0 l hg hl s (p ++ [fs]) (by simp [hp])
theorem files_l0 (a b : List File) (hab : a.length = b.length) (hl : a.length ≤ 9223372036854775000) : ∀ (u v p q : List File), a = p ++ u → b = q ++ v → p.length = q.length → Ev (fun k => l22_files.l0 a b k p.length) (eqlB u v)
  | [], v, p, q, hp, hq, he => by
    have : v = [] := by
      rw [hp, hq] at hab
      simp at hab
      exact List.eq_nil_of_length_eq_zero (by omega)
    subst this
    subst hp
    refine Ev.succ ?_
    simp only [l22_files.l0, lt_end, Bool.false_eq_true, if_false]
    exact Ev.ret
  | x :: u, [], p, q, hp, hq, he => by
    rw [hp, hq] at hab
    simp at hab
    omega
  | x :: u, y :: v, p, q, hp, hq, he => by
    have e1 : decide ((p.length : Int) < (a.length : Int)) = true := by rw [hp]; exact lt_at p u x
    have e2 : idx a (p.length : Int) = some x := by rw [hp]; exact idx_at p x u
    have e3 : idx b (p.length : Int) = some y := by rw [hq, he]; exact idx_at q y v
    refine Ev.succ ?_
    simp only [l22_files.l0, e1, e2, e3, if_true, Option.bind_some, step_at p u x (by rw [← hp, maxLen_val]; omega), eqlB]
    by_cases h : File.eqb x y = true
    · simp only [h, Bool.not_true, Bool.false_eq_true, if_false, Bool.true_and]
      exact files_l0 a b hab hl u v (p ++ [x]) (q ++ [y]) (by simp [hp]) (by simp [hq]) (by simp [he])
    · have h' := Bool.eq_false_iff.2 h
      simp only [h', Bool.not_false, if_true, Bool.false_and]
      exact Ev.ret
theorem files_ev (a : List File) (hl : a.length ≤ 9223372036854775000) : Ev (fun k => l22_files k a a) true := by
  unfold l22_files
  have e : ((a.length : Int) != (a.length : Int)) = false := by simp
  simp only [e, Bool.false_eq_true, if_false]
  exact (files_l0 a a rfl hl a a [] [] (by simp) (by simp) rfl).to (eqlB_iff.2 rfl)
theorem same_l1 (l p0 s0 : List (List File)) (fs : List File) (hp0 : l = p0 ++ fs :: s0) (hf : fs.length ≤ 9223372036854775000) : ∀ (s p : List File), fs = p ++ s → ∀ (J : Nat → Option Bool) b, Ev J b → Ev (fun k => r16_Same.l1 l l p0.length (J k) k p.length) b
  | [], p, hp, J, b, hJ => by
    refine Ev.succ ?_
    subst hp
    simp only [r16_Same.l1]
    refine Ev.bind0 (idx_l hp0) ?_
    simp only [lt_end, Bool.false_eq_true, if_false]
    exact hJ.shift
  | f :: s, p, hp, J, b, hJ => by
    refine Ev.succ ?_
    have e1 : decide ((p.length : Int) < (fs.length : Int)) = true := by rw [hp]; exact lt_at p s f
    have e2 : idx fs (p.length : Int) = some f := by rw [hp]; exact idx_at p f s
    simp only [r16_Same.l1]
    refine Ev.bind0 (idx_l hp0) ?_
    simp only [e1, if_true]
    refine Ev.bind0 (idx_l hp0) ?_
    refine Ev.bind0 e2 ?_
    refine Ev.bind0 (idx_l hp0) ?_
    refine Ev.bind0 e2 ?_
    simp only [eqb_refl, Bool.not_true, Bool.false_eq_true, if_false, step_at p s f (by rw [← hp, maxLen_val]; omega)]
    exact same_l1 l p0 s0 fs hp0 hf s (p ++ [f]) (by simp [hp]) (fun k => J (k + 1)) b hJ.shift
theorem same_l0 (l : List (List File)) (hg : goodL l) : ∀ (s p : List (List File)), l = p ++ s → Ev (fun k => r16_Same.l0 l l k p.length) true
  | [], p, hp => by
    refine Ev.succ ?_
    have e1 : decide ((p.length : Int) < (l.length : Int)) = false := by rw [hp]; exact lt_end p
    simp only [r16_Same.l0, e1, Bool.false_eq_true, if_false]
    exact Ev.ret
  | fs :: s, p, hp => by
    refine Ev.succ ?_
    have hfs := (hg.1 fs (by rw [hp]; simp)).1
    have hlen := hg.2
    have e1 : decide ((p.length : Int) < (l.length : Int)) = true := by rw [hp]; exact lt_at p s fs
    have e : ((fs.length : Int) != (fs.length : Int)) = false := by simp
    simp only [r16_Same.l0, e1, if_true, Jn]
    refine Ev.bind0 (idx_l hp) ?_
    refine Ev.bind0 (idx_l hp) ?_
    simp only [e, Bool.false_eq_true, if_false, step_at p s fs (by rw [← hp, maxLen_val]; omega)]
    exact same_l1 l p s fs hp (by omega) fs [] (by simp) _ true (same_l0 l hg s (p ++ [fs]) (by simp [hp]))
theorem same_ev (l : List (List File)) (hg : goodL l) : Ev (fun k => r16_Same k l l) true := by
  unfold r16_Same
  have e : ((l.length : Int) != (l.length : Int)) = false := by simp
  simp only [e, Bool.false_eq_true, if_false]
  exact same_l0 l hg l [] (by simp)

theorem upd_ok {α : Type} {m : List α} {j : Nat} (y : α) (h : j < m.length) : upd m (j : Int) y = some (m.set j y) := by
  unfold upd
  rw [if_pos (by omega)]
  rfl
theorem l2_ev : ∀ (d j : Nat) (m : List File), j + d = m.length → m.length ≤ 9223372036854775000 → ∀ (J : Nat → Option Bool) b, Ev J b → Ev (fun k => l22_PickPlans.l2 (J k) k m j) b
  | 0, j, m, h, hl, J, b, hJ => by
    refine Ev.succ ?_
    simp only [l22_PickPlans.l2, decF (show m.length ≤ j by omega), Bool.false_eq_true, if_false]
    exact hJ.shift
  | d + 1, j, m, h, hl, J, b, hJ => by
    refine Ev.succ ?_
    simp only [l22_PickPlans.l2, decT (show j < m.length by omega), if_true]
    refine Ev.bind0 (getD_idx (show j < m.length by omega)) ?_
    refine Ev.bind0 (upd_ok _ (show j < m.length by omega)) ?_
    rw [w64_succ (by omega)]
    exact l2_ev d (j + 1) _ (by rw [List.length_set]; omega) (by rw [List.length_set]; omega) (fun k => J (k + 1)) b hJ.shift
theorem l1_ev (a : List ByteArray) (hl : a.length ≤ 9223372036854775000) : ∀ (d j : Nat), j + d = a.length → ∀ (J : Nat → Option Bool) b, Ev J b → Ev (fun k => l22_PickPlans.l1 a a (J k) k j) b
  | 0, j, h, J, b, hJ => by
    refine Ev.succ ?_
    simp only [l22_PickPlans.l1, decF (show a.length ≤ j by omega), Bool.false_eq_true, if_false]
    exact hJ.shift
  | d + 1, j, h, J, b, hJ => by
    refine Ev.succ ?_
    simp only [l22_PickPlans.l1, decT (show j < a.length by omega), if_true]
    refine Ev.bind0 (getD_idx (show j < a.length by omega)) ?_
    refine Ev.bind0 (getD_idx (show j < a.length by omega)) ?_
    simp only [sEq_refl, Bool.not_true, Bool.false_eq_true, if_false]
    rw [w64_succ (by omega)]
    exact l1_ev a hl d (j + 1) (by omega) (fun k => J (k + 1)) b hJ.shift
theorem l0_ev (l : List (List File)) (hg : goodL l) (a : List ByteArray) (ha : a.length ≤ 9223372036854775000) (r13 : pick_Plan × Bool) (hlow : r13.1.Lower.length ≤ 9223372036854775000) : ∀ (d j : Nat) (m : List File), j + d = m.length → m.length ≤ 9223372036854775000 → Ev (fun k => l22_PickPlans.l0 l a l a r13 k m j) true
  | 0, j, m, h, hl => by
    refine Ev.succ ?_
    simp only [l22_PickPlans.l0, decF (show m.length ≤ j by omega), Bool.false_eq_true, if_false, Jn]
    refine l2_ev r13.1.Lower.length 0 _ (by omega) hlow _ _ ?_
    refine l1_ev a ha a.length 0 (by omega) _ _ ?_
    exact Ev.bind (same_ev l hg) Ev.ret
  | d + 1, j, m, h, hl => by
    refine Ev.succ ?_
    simp only [l22_PickPlans.l0, decT (show j < m.length by omega), if_true]
    refine Ev.bind0 (getD_idx (show j < m.length by omega)) ?_
    refine Ev.bind0 (upd_ok _ (show j < m.length by omega)) ?_
    rw [w64_succ (by omega)]
    exact l0_ev l hg a ha r13 hlow d (j + 1) _ (by rw [List.length_set]; omega) (by rw [List.length_set]; omega)

theorem plan_len (l : List (List File)) (hg : goodL l) (c : Config) (last : List ByteArray) : (nextS l c last).1.Upper.length ≤ 9223372036854775000 ∧ (nextS l c last).1.Lower.length ≤ 9223372036854775000 := by
  unfold nextS
  split
  · split
    · simp
    · have hw : ∀ i files, (touchS l i files).length ≤ 2199023255552 := by
        intro i files
        unfold touchS
        split
        · exact Nat.le_trans (List.length_filter_le _ _) (ofS_len l hg _)
        · exact Nat.le_trans (touchF_len _ _ _ _) (ofS_len l hg _)
      have hu : ∀ i files, (underS l i files).length ≤ 2199023255552 := fun i files => Nat.le_trans (List.length_filter_le _ _) (ofS_len l hg _)
      unfold planS
      refine ⟨?_, Nat.le_trans (hu _ _) (by omega)⟩
      simp only
      split
      · exact Nat.le_trans (hw _ _) (by omega)
      · unfold upperS
        split
        · exact Nat.le_trans (hw _ _) (by omega)
        · simp
  · simp

theorem pure : ∀ (a0 : (List (List File))) (a1 : Config) (a2 : (List ByteArray)), ((∀ y ∈ a0, (∀ y1 ∈ y, File.good y1) ∧ y.length ≤ maxLen) ∧ a0.length ≤ maxLen) → ((a0.length * 24 ≤ 140737488355327 ∧ ∀ y ∈ a0, (y.length * 64 ≤ 140737488355327 ∧ ∀ y1 ∈ y, File.szs y1))) → (Config.good a1) → (Config.szs a1) → ((∀ y ∈ a2, y.size ≤ maxLen) ∧ a2.length ≤ maxLen) → ((a2.length * 16 ≤ 140737488355327 ∧ ∀ y ∈ a2, y.size ≤ 140737488355327)) → ∃ k, l22_PickPlans k a0 a1 a2 = some true := by
  intro l c last h1 h2 _ _ h3 h4
  have hg := goodL_of h1 h2
  have h5 := h2.1
  have h6 := h4.1
  refine Ev.ex ?_
  unfold l22_PickPlans
  have hc : Ev (fun k => l22_copied k l) l := copied_l0 l hg (by omega) l [] (by simp)
  refine Ev.bind hc ?_
  refine Ev.bind0 (pushN_ok (by simp; omega)) ?_
  rw [List.nil_append]
  refine Ev.bind (next_ev l hg c last) ?_
  refine Ev.bind (rnext_ev l hg c last) ?_
  refine Ev.bind works_ev ?_
  obtain ⟨k1, k2⟩ := plan_len l hg c last
  have e : ((((!true) || (!((nextS l c last).2 == (nextS l c last).2))) || ((nextS l c last).1.Level != (asR (nextS l c last).1).Level)) || (!((nextS l c last).1.Trivial == (asR (nextS l c last).1).Trivial))) = false := by
    simp [asR]
  simp only [Jn, e, Bool.false_eq_true, if_false]
  refine Ev.bind (files_ev _ k1) ?_
  simp only [Bool.not_true, Bool.false_eq_true, if_false]
  refine Ev.bind (files_ev _ k2) ?_
  simp only [Bool.not_true, Bool.false_eq_true, if_false]
  exact l0_ev l hg last (by omega) _ k2 (nextS l c last).1.Upper.length 0 _ (by omega) k1
end Go.Proofs.Ytckjpkecipgeiaa.Mo.pickPlans
