/- Applies: the law. -/
import Derived.Test.YtbbepmmelpabbaaVvs
set_option linter.unusedVariables false
set_option linter.unusedSectionVars false
set_option linter.unusedSimpArgs false
set_option maxRecDepth 100000
namespace Go.Proofs.Ytbbepmmelpabbaa.Mo
open Go Go.Proofs.Ytbbepmmelpabbaa.Sy

theorem plq_refl (x : Place) : Place.eqb x x = true := by cases x; simp [Place.eqb]
theorem adq_refl (x : Added) : Added.eqb x x = true := by cases x; simp [Added.eqb, eqb_refl]
theorem app_l2 (e : Edit) (hE : e.Gone.length ≤ 9223372036854775000) (r : Bool) : ∀ (s p : List Place) (J : Nat → Option Bool), e.Gone = p ++ s → Ev J r → Ev (fun k => l16_VersionApplies.l2 e e.Gone (J k) k p.length) r
  | [], p, J, hp, hJ => by
    have e1 : decide ((p.length : Int) < (e.Gone.length : Int)) = false := by rw [hp]; exact lt_end p
    refine Ev.succ ?_
    simp only [l16_VersionApplies.l2, e1, Bool.false_eq_true, if_false]
    exact hJ.shift
  | g :: s, p, J, hp, hJ => by
    have e1 : decide ((p.length : Int) < (e.Gone.length : Int)) = true := by rw [hp]; exact lt_at p s g
    have e2 : idx e.Gone (p.length : Int) = some g := by rw [hp]; exact idx_at p g s
    refine Ev.succ ?_
    simp only [l16_VersionApplies.l2, e1, e2, if_true, Option.bind_some, plq_refl, Bool.not_true, Bool.false_eq_true, if_false, step_at p s g (by rw [← hp, maxLen_val]; omega)]
    exact app_l2 e hE r s (p ++ [g]) (fun k => J (k + 1)) (by simp [hp]) hJ.shift
theorem app_l1 (e : Edit) (hE : e.Come.length ≤ 9223372036854775000) (r : Bool) : ∀ (s p : List Added) (J : Nat → Option Bool), e.Come = p ++ s → Ev J r → Ev (fun k => l16_VersionApplies.l1 e e.Come (J k) k p.length) r
  | [], p, J, hp, hJ => by
    have e1 : decide ((p.length : Int) < (e.Come.length : Int)) = false := by rw [hp]; exact lt_end p
    refine Ev.succ ?_
    simp only [l16_VersionApplies.l1, e1, Bool.false_eq_true, if_false]
    exact hJ.shift
  | g :: s, p, J, hp, hJ => by
    have e1 : decide ((p.length : Int) < (e.Come.length : Int)) = true := by rw [hp]; exact lt_at p s g
    have e2 : idx e.Come (p.length : Int) = some g := by rw [hp]; exact idx_at p g s
    refine Ev.succ ?_
    simp only [l16_VersionApplies.l1, e1, e2, if_true, Option.bind_some, adq_refl, Bool.not_true, Bool.false_eq_true, if_false, step_at p s g (by rw [← hp, maxLen_val]; omega)]
    exact app_l1 e hE r s (p ++ [g]) (fun k => J (k + 1)) (by simp [hp]) hJ.shift
theorem app_l0 (l : List (List File)) (hg : goodL l) (e : Edit) (he : goodE e) (a : List (List File)) (ha : goodL a) : ∀ (s p q : List (List File)), a = p ++ s → q.length = p.length → Ev (fun k => l16_VersionApplies.l0 l e l e.Gone e.Come k (q ++ s) p.length) true
  | [], p, q, hp, hq => by
    have e1 : decide ((p.length : Int) < ((q ++ []).length : Int)) = false := by rw [← hq]; exact lt_end q
    refine Ev.succ ?_
    simp only [l16_VersionApplies.l0, e1, Bool.false_eq_true, if_false, Jn]
    refine app_l2 e (by have := he.1; omega) true e.Gone [] (fun k => l16_VersionApplies.l1 e e.Come ((r16_Same k l l).bind fun r472 => some r472) k 0) rfl ?_
    refine app_l1 e (by have := he.2.1; omega) true e.Come [] (fun k => (r16_Same k l l).bind fun r472 => some r472) rfl ?_
    exact Ev.bind (rsameL_refl l hg) Ev.ret
  | x :: s, p, q, hp, hq => by
    have e1 : decide ((p.length : Int) < ((q ++ x :: s).length : Int)) = true := by rw [← hq]; exact lt_at q s x
    have e2 : idx (q ++ x :: s) (p.length : Int) = some x := by rw [← hq]; exact idx_at q x s
    have hx := (ha.1 x (by rw [hp]; simp)).1
    have hal := ha.2
    refine Ev.succ ?_
    simp only [l16_VersionApplies.l0, e1, e2, if_true, Option.bind_some, step_at p s x (by rw [← hp, maxLen_val]; omega)]
    refine Ev.bind (wiped_ev x (by omega)) ?_
    have hset : ∀ z : List File, List.set (q ++ x :: s) (Int.toNat (p.length : Int)) z = q ++ [z] ++ s := fun z => by
      rw [Int.toNat_natCast, ← hq, List.set_append_right _ _ (Nat.le_refl _)]
      simp
    simp only [hset]
    have := app_l0 l hg e he a ha s (p ++ [x]) (q ++ [x.map fun _ => (⟨(-7), 0, (ByteArray.mk #[]), (ByteArray.mk #[]), 0, 0⟩ : File)]) (by simp [hp]) (by simp [hq])
    exact this
theorem applied_good {l : List (List File)} {e : Edit} {r : List (List File) × Int} (h : Applied l e r) : goodL r.1 := by
  have h0 : goodL [] := ⟨fun y hy => by simp at hy, by simp⟩
  rcases h with ⟨_, rfl⟩ | ⟨_, ⟨_, rfl⟩ | ⟨o, _, ⟨_, rfl⟩ | ⟨o1, o2, _, _, hg, rfl⟩⟩⟩
  · exact h0
  · exact h0
  · exact h0
  · split
    · exact hg
    · exact h0
theorem applies_law (l : List (List File)) (hg : goodL l) (hl : l.length ≤ 5864062014805) (e : Edit) (he : goodE e) : Ev (fun k => l16_VersionApplies k l e) true := by
  unfold l16_VersionApplies
  refine Ev.bind0 (show l16_names = some true from rfl) ?_
  simp only [Bool.not_true, Bool.false_eq_true, if_false, Jn]
  refine Ev.bind (copied_ev l hg hl) ?_
  refine Ev.bind0 (pushN_ok (show ([] : List Place).length + e.Gone.length ≤ 14073748835379 by have := he.1; rw [List.length_nil]; omega)) ?_
  refine Ev.bind0 (pushN_ok (show ([] : List Added).length + e.Come.length ≤ 3127499741075 by have := he.2.1; rw [List.length_nil]; omega)) ?_
  refine Ev.bind (valid_ev l hg) ?_
  refine Ev.bind (rvalid_ev l hg) ?_
  simp only [List.nil_append, beq_self_eq_true, Bool.not_true, Bool.false_eq_true, if_false]
  obtain ⟨r, h1, h2, h3⟩ := apply_ev l hg e he
  have hgr := applied_good h1
  refine Ev.bind h2 ?_
  refine Ev.bind h3 ?_
  refine Ev.bind (rsameL_refl r.1 hgr) ?_
  simp only [Bool.not_true, bne_self_eq_false, Bool.or_self, Bool.false_eq_true, if_false]
  exact app_l0 l hg e he r.1 hgr r.1 [] [] rfl rfl
end Go.Proofs.Ytbbepmmelpabbaa.Mo
