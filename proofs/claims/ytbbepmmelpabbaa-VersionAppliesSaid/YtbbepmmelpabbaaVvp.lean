/- Apply: both ways come to the same levels. Part one: the pieces. -/
import Derived.Test.YtbbepmmelpabbaaVvh
import Derived.Test.YtbbepmmelpabbaaVvSt
import Derived.Test.YtbbepmmelpabbaaSyUq
set_option linter.unusedVariables false
set_option linter.unusedSectionVars false
set_option linter.unusedSimpArgs false
set_option maxRecDepth 100000
namespace Go.Proofs.Ytbbepmmelpabbaa.Mo
open Go Go.Proofs.Ytbbepmmelpabbaa.Sy

/-! ### The order of a level -/
def cK (i : Int) (a b : File) : Int :=
  if i = 0 then (if a.Number < b.Number then -1 else if b.Number < a.Number then 1 else 0) else (if slt a.Least b.Least then -1 else if slt b.Least a.Least then 1 else 0)
abbrev ltK (i : Int) : File → File → Prop := ltcFile (cK i)
theorem ltK_iff {i : Int} {a b : File} : ltK i a b ↔ if i = 0 then a.Number < b.Number else slt a.Least b.Least := by
  show cK i a b < 0 ↔ _
  unfold cK
  by_cases h : i = 0
  · simp only [h, if_true]
    split
    · simp [*]
    · split <;> simp [*]
  · simp only [h, if_false]
    split
    · simp [*]
    · split <;> simp [*]
theorem wo_key (i : Int) : Wo (ltK i) := by
  refine ⟨fun x y h k => ?_, fun x y z h k => ?_⟩
  · rw [ltK_iff] at h k
    by_cases e : i = 0
    · simp only [e, if_true] at h k; omega
    · simp only [e, if_false] at h k; exact slt_asymm h k
  · rw [ltK_iff] at h k ⊢
    by_cases e : i = 0
    · simp only [e, if_true] at h k ⊢; omega
    · simp only [e, if_false] at h k ⊢; exact sle_trans (a := z.Least) (b := y.Least) (c := x.Least) k h
theorem key_eq (i : Int) (a b : File) : version_sorted_1 a b i = some (cK i a b) := by
  unfold version_sorted_1 cK
  by_cases h : i = 0
  · subst h
    simp only [beq_self_eq_true, if_true, cmp_Compare_int, cmp_isNaN_int, bne_self_eq_false, Option.bind_some, Bool.false_eq_true, if_false, decide_eq_true_eq]
    split
    · rfl
    · split <;> rfl
  · have e : (i == 0) = false := by simp [h]
    simp only [e, Bool.false_eq_true, if_false, h, cmp_Compare_string, cmp_isNaN_string, sEq_refl, Bool.not_true, Option.bind_some, sLt_iff, sLe_dec]
    by_cases h1 : slt a.Least b.Least
    · simp only [h1, if_true, Option.bind_some]
    · simp only [h1, if_false]
      by_cases h2 : slt b.Least a.Least
      · have h3 : ¬ sle a.Least b.Least := fun h => h h2
        simp only [h2, h3, decide_false, Bool.not_false, if_true, Option.bind_some]
      · have h3 : sle a.Least b.Least := h2
        simp only [h2, h3, decide_true, Bool.not_true, Bool.false_eq_true, if_false, Option.bind_some]
theorem sorted_key (i : Int) (x : List File) (hx : x.length ≤ 1152921504606846976) : ∃ y, Srt (ltK i) y ∧ Sst (ltK i) x y ∧ Ev (fun k => version_sorted k i x) y := by
  obtain ⟨y, h1, h2, h3⟩ := stable_File (cmp := fun x0 x1 => version_sorted_1 x0 x1 i) (c := cK i) (fun a b => key_eq i a b) (wo_key i) x hx
  exact ⟨y, h1, h2, h3.bind Ev.ret⟩

/-! ### The document's insertion -/
theorem put_l0 (i : Int) (hi : 0 ≤ i) (f : File) : ∀ (n : Nat) (q s : List File), q.length = n → (q ++ f :: s).length ≤ 9223372036854775000 → Srt (ltK i) q → (∀ y ∈ s, ltK i f y) →
    ∃ q1 q2, q = q1 ++ q2 ∧ (∀ y ∈ q1, ¬ ltK i f y) ∧ (∀ y ∈ q2, ltK i f y) ∧ Ev (fun k => r16_put.l0 i f k (q ++ f :: s) q.length) (q1 ++ f :: (q2 ++ s)) := by
  intro n
  induction n with
  | zero =>
    intro q s hn hl hs hgt
    have : q = [] := List.eq_nil_of_length_eq_zero hn
    subst this
    refine ⟨[], [], rfl, by simp, by simp, Ev.succ ?_⟩
    have h0 : decide ((0 : Int) < ((([] : List File).length : Nat) : Int)) = false := by decide
    simp only [r16_put.l0, h0, Bool.false_eq_true, if_false, Jn]
    exact Ev.ret
  | succ n ih =>
    intro q s hn hl hs hgt
    rcases nil_or_snoc q with rfl | ⟨q, y, rfl⟩
    · simp at hn
    · have h0 : decide ((0 : Int) < (((q ++ [y]).length : Nat) : Int)) = true := pos_snoc q y
      have hbk : w64 (((q ++ [y]).length : Int) - 1) = (q.length : Int) := back_at q s y f (by rw [maxLen_val]; omega)
      have e1 : idx (q ++ [y] ++ f :: s) (q.length : Int) = some y := by rw [List.append_assoc]; exact idx_at q y _
      have e2 : idx (q ++ [y] ++ f :: s) ((q ++ [y]).length : Int) = some f := idx_at (q ++ [y]) f s
      have e3 : upd (q ++ [y] ++ f :: s) ((q ++ [y]).length : Int) y = some (q ++ [y] ++ y :: s) := upd_at (q ++ [y]) s f y
      have e4 : idx (q ++ [y] ++ y :: s) (q.length : Int) = some y := by rw [List.append_assoc]; exact idx_at q y _
      have e5 : upd (q ++ [y] ++ y :: s) (q.length : Int) f = some (q ++ f :: (y :: s)) := by rw [List.append_assoc]; exact upd_at q (y :: s) y f
      have hs' := Srt.app.1 hs
      by_cases hc : ltK i f y
      · obtain ⟨q1, q2, g1, g2, g3, g4⟩ := ih q (y :: s) (by simp at hn; omega) (by simp at hl ⊢; omega) hs'.1 (fun z hz => by
          rcases List.mem_cons.1 hz with rfl | hz
          · exact hc
          · exact hgt z hz)
        refine ⟨q1, q2 ++ [y], by rw [g1, List.append_assoc], g2, fun z hz => ?_, Ev.succ ?_⟩
        · rcases List.mem_append.1 hz with hz | hz
          · exact g3 z hz
          · simp at hz; subst hz; exact hc
        · have goal : Ev (fun k => (idx (q ++ [y] ++ f :: s) (w64 (((q ++ [y]).length : Int) - 1))).bind fun x350 => (idx (q ++ [y] ++ f :: s) ((q ++ [y]).length : Int)).bind fun x351 => (upd (q ++ [y] ++ f :: s) ((q ++ [y]).length : Int) x350).bind fun l352 => (idx l352 (w64 (((q ++ [y]).length : Int) - 1))).bind fun x354 => (upd l352 (w64 (((q ++ [y]).length : Int) - 1)) f).bind fun l355 => r16_put.l0 i f k l355 (w64 (((q ++ [y]).length : Int) - 1))) (q1 ++ f :: (q2 ++ [y] ++ s)) := by
            simp only [hbk, e1, e2, e3, e4, e5, Option.bind_some]
            rw [List.append_assoc]
            exact g4
          rw [ltK_iff] at hc
          by_cases hz : i = 0
          · subst hz
            simp only [if_true] at hc
            have c1 : decide (f.Number < y.Number) = true := decide_eq_true hc
            simp only [r16_put.l0, h0, if_true, Jn, beq_self_eq_true]
            simp only [hbk, e1, Option.bind_some, c1, if_true]
            simp only [hbk, e1, Option.bind_some] at goal
            exact goal
          · simp only [hz, if_false] at hc
            have c0 : (i == 0) = false := by simp [hz]
            have c1 : decide (0 < i) = true := decide_eq_true (by omega)
            have c2 : (!(sLt y.Least f.Least || sEq y.Least f.Least)) = true := by
              rw [sLe_dec, Bool.not_eq_true']; exact decide_eq_false (fun h => h hc)
            simp only [r16_put.l0, h0, if_true, Jn, c0, c1, Bool.false_eq_true, if_false]
            simp only [hbk, e1, Option.bind_some, c2, if_true]
            simp only [hbk, e1, Option.bind_some] at goal
            exact goal
      · refine ⟨q ++ [y], [], by simp, fun z hz => ?_, by simp, Ev.succ ?_⟩
        · rcases List.mem_append.1 hz with hz | hz
          · have := hs'.2.2 z hz y (by simp)
            exact fun h => hc ((wo_key i).lt_le h this)
          · simp at hz; subst hz; exact hc
        · rw [ltK_iff] at hc
          rw [List.nil_append]
          by_cases hz : i = 0
          · subst hz
            simp only [if_true] at hc
            have c1 : decide (f.Number < y.Number) = false := decide_eq_false hc
            have c2 : decide ((0 : Int) < 0) = false := by decide
            simp only [r16_put.l0, h0, if_true, Jn, beq_self_eq_true, hbk, e1, Option.bind_some, c1, c2, Bool.false_eq_true, if_false]
            exact Ev.ret
          · simp only [hz, if_false] at hc
            have c0 : (i == 0) = false := by simp [hz]
            have c1 : decide (0 < i) = true := decide_eq_true (by omega)
            have c2 : (!(sLt y.Least f.Least || sEq y.Least f.Least)) = false := by
              rw [sLe_dec, Bool.not_eq_false']; exact decide_eq_true hc
            simp only [r16_put.l0, h0, if_true, Jn, c0, c1, Bool.false_eq_true, if_false, hbk, e1, Option.bind_some, c2]
            exact Ev.ret
theorem put_ev (i : Int) (hi : 0 ≤ i) (f : File) (x : List File) (hx : x.length ≤ 3518437208000) (hs : Srt (ltK i) x) : ∃ y, Srt (ltK i) y ∧ Sst (ltK i) (x ++ [f]) y ∧ Ev (fun k => r16_put k x i f) y := by
  obtain ⟨q1, q2, g1, g2, g3, g4⟩ := put_l0 i hi f x.length x [] rfl (by simp; omega) hs (by simp)
  refine ⟨q1 ++ f :: q2, ins_srt (wo_key i) (by rw [← g1]; exact hs) g2 g3, by rw [g1]; exact ins_sst (wo_key i) g3, ?_⟩
  unfold r16_put
  simp only [Jn]
  refine Ev.bind0 (pushN_ok (by rw [List.length_nil]; omega)) ?_
  rw [List.nil_append]
  refine Ev.bind0 (push_ok (by omega)) ?_
  have hw : w64 (((x ++ [f]).length : Int) - 1) = (x.length : Int) := by
    rw [List.length_append, List.length_singleton, w64_of (by omega) (by omega)]; omega
  rw [hw]
  simpa using g4
end Go.Proofs.Ytbbepmmelpabbaa.Mo
