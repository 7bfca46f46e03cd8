/- Asks: the law. -/
import Derived.Test.YtbbepmmelpabbaaVvh
set_option linter.unusedVariables false
set_option linter.unusedSectionVars false
set_option linter.unusedSimpArgs false
set_option maxRecDepth 100000
namespace Go.Proofs.Ytbbepmmelpabbaa.Mo
open Go Go.Proofs.Ytbbepmmelpabbaa.Sy

theorem peqb_refl (x : Place) : Place.eqb x x = true := by cases x; simp [Place.eqb]
theorem askR_len (l : List (List File)) (key : ByteArray) : ∀ n j, (askR l key j n).length ≤ n * 2147483647
  | 0, _ => by simp [askR]
  | n + 1, j => by
    have := askR_len l key n (j + 1)
    have h1 := askI_len (j : Int) key (ofS l (j : Int))
    have h2 := ofS_le l (j : Int)
    simp only [askR, List.length_append, Nat.add_mul]
    omega
theorem askR_bad' {l : List (List File)} (h : validB l = false) (key : ByteArray) : ∀ n j, askR l key j n = []
  | 0, _ => rfl
  | n + 1, j => by rw [askR, ofS_bad h, askR_bad' h key n]; rfl
theorem asks_len (l : List (List File)) (key : ByteArray) : (asksS l key).length ≤ 8 * 2147483647 := by
  cases hv : validB l with
  | false =>
    rw [asksS, ofS_bad hv, askR_bad' hv]
    simp [askI]
  | true =>
    have h7 := (validB_iff.1 hv).2.1
    have h1 := askR_len l key (l.length - 1) 1
    have h2 := askI_len 0 key (ofS l 0).reverse
    have h3 := ofS_le l 0
    rw [List.length_reverse] at h2
    have h4 : (l.length - 1) * 2147483647 ≤ 6 * 2147483647 := Nat.mul_le_mul_right _ (by omega)
    rw [asksS, List.length_append]
    omega
theorem asks_l0 (l : List (List File)) (hg : goodL l) (x : List File) (hx : x.length ≤ 2147483647) (r : List Place) (hr : r.length ≤ 9223372036854775000) : ∀ (s p : List Place), r = p ++ s → Ev (fun k => l16_VersionAsks.l0 l l x r r k p.length) true
  | [], p, hp => by
    have e1 : decide ((p.length : Int) < (r.length : Int)) = false := by rw [hp]; exact lt_end p
    refine Ev.succ ?_
    simp only [l16_VersionAsks.l0, e1, Bool.false_eq_true, if_false]
    refine Ev.bind (wiped_ev x (by omega)) ?_
    exact Ev.bind (rsameL_refl l hg) Ev.ret
  | q :: s, p, hp => by
    have e1 : decide ((p.length : Int) < (r.length : Int)) = true := by rw [hp]; exact lt_at p s q
    have e2 : idx r (p.length : Int) = some q := by rw [hp]; exact idx_at p q s
    refine Ev.succ ?_
    simp only [l16_VersionAsks.l0, e1, e2, if_true, Option.bind_some, peqb_refl, Bool.not_true, Bool.false_eq_true, if_false, step_at p s q (by rw [← hp, maxLen_val]; omega)]
    exact asks_l0 l hg x hx r hr s (p ++ [q]) (by simp [hp])
theorem asks_law (l : List (List File)) (hg : goodL l) (hl : l.length ≤ 5864062014805) (a : L16_Ask) : Ev (fun k => l16_VersionAsks k l a) true := by
  unfold l16_VersionAsks
  have h1 := asks_len l a.Key
  have h2 : (overS l a.Level a.Least a.Limit).length ≤ 2147483647 := Nat.le_trans (List.length_filter_le _ _) (ofS_le l a.Level)
  refine Ev.bind (copied_ev l hg hl) ?_
  refine Ev.bind (over_ev l hg _ _ _) ?_
  refine Ev.bind (asks_ev l hg _) ?_
  refine Ev.bind (rasks_ev l hg _) ?_
  refine Ev.bind one_ev ?_
  simp only [Bool.not_true, Bool.false_eq_true, if_false, Jn, bne_self_eq_false, Bool.or_false]
  refine Ev.bind (rover_ev l hg _ _ _) ?_
  refine Ev.bind (lfiles_ev _ _ (by omega)) ?_
  simp only [eqlB_refl, Bool.not_true, Bool.false_eq_true, if_false]
  exact asks_l0 l hg _ h2 _ (by omega) _ [] rfl
end Go.Proofs.Ytbbepmmelpabbaa.Mo
