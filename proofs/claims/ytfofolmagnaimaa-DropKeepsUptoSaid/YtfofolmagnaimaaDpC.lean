import Derived.Test.YtfofolmagnaimaaDpB
set_option linter.unusedVariables false
set_option linter.unusedSectionVars false
set_option linter.unusedSimpArgs false
set_option maxRecDepth 100000
namespace Go.Proofs.Ytfofolmagnaimaa.Mo
open Go Go.Proofs.Ytfofolmagnaimaa.Sy
def okTm (t : Tomb) : Bool := (tomb_Valid t).getD false
theorem tvalid_eq (t : Tomb) : tomb_Valid t = some (okTm t) := rfl
theorem rvalidT_eq (t : Tomb) : r09_Valid t = some (okTm t) := by
  simp only [r09_Valid, okTm, tomb_Valid, Option.getD_some]
  congr 5
  have h0 : t.Begin = ByteArray.mk #[] ↔ t.Begin.size = 0 := by
    constructor
    · intro h; rw [h]; rfl
    · intro h
      cases hb : t.Begin with
      | mk d =>
        rw [hb] at h
        have : d = #[] := Array.eq_empty_of_size_eq_zero h
        rw [this]
  rw [Bool.eq_iff_iff, decide_eq_true_eq, Bool.not_eq_true', Bool.eq_false_iff, ne_eq, sEq_iff, h0]
  omega
section
variable (S : List Int) (B : List File) (T : List Tomb)
def bearsAny (key : ByteArray) : Bool := B.any (bearsOn key)
def sameB (e j : Entry) : Bool := sEq j.Key e.Key && decide (strN S j.Seq = strN S e.Seq)
def hitB (e : Entry) (t : Tomb) : Bool := decide (e.Seq < t.Seq) && ((sLt t.Begin e.Key || sEq t.Begin e.Key) && (sLt e.Key t.End && decide (strN S t.Seq = strN S e.Seq)))
def outB (p : List Entry) (e : Entry) : Bool := ((e.Kind == 0) && decide (strN S e.Seq = 0) && !bearsAny B e.Key) || p.any (sameB S e) || T.any (hitB S e)
def keepB (p : List Entry) (e : Entry) : Bool := decide (strN S e.Seq = (uqI S).length) || !outB S B T p e
def keepG : List Entry → List Entry → List Entry
  | _, [] => []
  | p, e :: s => (if keepB S B T p e = true then [e] else []) ++ keepG (p ++ [e]) s
theorem keepG_len : ∀ (s p : List Entry), (keepG S B T p s).length ≤ s.length
  | [], _ => by simp [keepG]
  | e :: s, p => by
    have := keepG_len s (p ++ [e])
    rw [keepG, List.length_append, List.length_cons]
    split <;> simp <;> omega
def touchB (t : Tomb) : Bool := B.any fun f => sLt f.Least t.End && !(sLt f.Limit t.Begin || sEq f.Limit t.Begin)
def deadB (t : Tomb) : Bool := decide (strN S t.Seq = (uqI S).length) || decide (strN S t.Seq ≠ 0) || touchB B t
end
theorem nat_beq (a b : Nat) : (((a : Int) == (b : Int))) = decide (a = b) := by
  rw [Bool.eq_iff_iff, beq_iff_eq, decide_eq_true_eq, Int.natCast_inj]
theorem rb_ev (B : List File) (hB : B.length ≤ 1048576) (key : ByteArray) : Ev (fun k => r21_Bears k B key) (bearsAny B key) := by
  refine ⟨B.length + 1, fun k hk => ?_⟩
  exact ref_bears_l0 B key (by rw [maxLen_val]; omega) B [] k rfl (by omega)
theorem r_l2 (a2 : R21_Rule) (hS : a2.Snaps.length ≤ 1048576) (m : List Entry) (hm : m.length ≤ 9223372036854775000) (i : Nat) (e : Entry) : ∀ (s p : List Entry) (r : List Entry) (b : Bool), m = p ++ s ++ r → (p ++ s).length = i → ∀ (J : Nat → Bool → Option (List Entry × List Tomb)) R, Ev (fun k => J k (b || s.any (sameB a2.Snaps e))) R → Ev (fun k => r21_Entries.l2 a2 m i e (strN a2.Snaps e.Seq) (J k) k b p.length) R
  | [], p, r, b, hp, hi, J, R, hJ => by
    have e1 : decide ((p.length : Int) < (i : Int)) = false := by rw [← hi]; simp
    refine Ev.succ ?_
    simp only [r21_Entries.l2, e1, Bool.false_eq_true, if_false]
    simpa using hJ.shift
  | x :: s, p, r, b, hp, hi, J, R, hJ => by
    have e1 : decide ((p.length : Int) < (i : Int)) = true := by rw [← hi]; simp; omega
    have e2 : idx m (p.length : Int) = some x := by rw [hp, List.append_assoc]; exact idx_at p x _
    have hml : p.length + 1 ≤ m.length := by rw [hp]; simp
    have hw : w64 ((p.length : Int) + 1) = ((p ++ [x]).length : Int) := by
      rw [List.length_append, List.length_singleton, w64_of (by omega) (by omega)]; omega
    refine Ev.succ ?_
    simp only [r21_Entries.l2, e1, if_true, Jn, hw]
    have next : ∀ b', (b' || s.any (sameB a2.Snaps e)) = (b || (x :: s).any (sameB a2.Snaps e)) → Ev (fun k => r21_Entries.l2 a2 m i e (strN a2.Snaps e.Seq) (J (k + 1)) k b' ((p ++ [x]).length : Int)) R := fun b' hb => by
      refine r_l2 a2 hS m hm i e s (p ++ [x]) r b' (by rw [hp]; simp) (by rw [← hi]; simp) (fun k => J (k + 1)) R ?_
      rw [hb]
      exact hJ.shift
    cases b with
    | true =>
      simp only [if_true]
      exact next true (by simp)
    | false =>
      simp only [Bool.false_eq_true, if_false, e2, Option.bind_some]
      by_cases hk : sEq x.Key e.Key = true
      · simp only [hk, if_true]
        refine Ev.bind (rstripe_ev a2.Snaps x.Seq (by rw [maxLen_val]; omega)) ?_
        refine next _ ?_
        rw [nat_beq, List.any_cons]
        simp only [sameB, hk, Bool.true_and, Bool.false_or]
      · simp only [hk, if_false, Bool.false_eq_true]
        refine next false ?_
        rw [List.any_cons]
        simp only [sameB, hk, Bool.false_and, Bool.false_or]
theorem r_l1 (a2 : R21_Rule) (hS : a2.Snaps.length ≤ 1048576) (T : List Tomb) (hT : T.length ≤ 9223372036854775000) (e : Entry) : ∀ (s p : List Tomb) (b : Bool), T = p ++ s → ∀ (J : Nat → Bool → Option (List Entry × List Tomb)) R, Ev (fun k => J k (b || s.any (hitB a2.Snaps e))) R → Ev (fun k => r21_Entries.l1 a2 T e (strN a2.Snaps e.Seq) (J k) k b p.length) R
  | [], p, b, hp, J, R, hJ => by
    have e1 : decide ((p.length : Int) < (T.length : Int)) = false := by rw [hp]; exact lt_end p
    refine Ev.succ ?_
    simp only [r21_Entries.l1, e1, Bool.false_eq_true, if_false]
    simpa using hJ.shift
  | x :: s, p, b, hp, J, R, hJ => by
    have e1 : decide ((p.length : Int) < (T.length : Int)) = true := by rw [hp]; exact lt_at p s x
    have e2 : idx T (p.length : Int) = some x := by rw [hp]; exact idx_at p x _
    have hw := step_at p s x (by rw [← hp, maxLen_val]; omega)
    refine Ev.succ ?_
    simp only [r21_Entries.l1, e1, if_true, Jn, hw]
    have next : ∀ b', (b' || s.any (hitB a2.Snaps e)) = (b || (x :: s).any (hitB a2.Snaps e)) → Ev (fun k => r21_Entries.l1 a2 T e (strN a2.Snaps e.Seq) (J (k + 1)) k b' ((p ++ [x]).length : Int)) R := fun b' hb => by
      refine r_l1 a2 hS T hT e s (p ++ [x]) b' (by rw [hp]; simp) (fun k => J (k + 1)) R ?_
      rw [hb]
      exact hJ.shift
    cases b with
    | true =>
      simp only [if_true]
      exact next true (by simp)
    | false =>
      simp only [Bool.false_eq_true, if_false, e2, Option.bind_some]
      by_cases h1 : e.Seq < x.Seq
      · simp only [h1, decide_true, if_true]
        by_cases h2 : (sLt x.Begin e.Key || sEq x.Begin e.Key) = true
        · simp only [h2, if_true]
          by_cases h3 : sLt e.Key x.End = true
          · simp only [h3, if_true]
            refine Ev.bind (rstripe_ev a2.Snaps x.Seq (by rw [maxLen_val]; omega)) ?_
            refine next _ ?_
            rw [nat_beq, List.any_cons]
            simp only [hitB, h1, h2, h3, decide_true, Bool.true_and, Bool.false_or]
          · simp only [h3, if_false, Bool.false_eq_true]
            refine next false ?_
            rw [List.any_cons]
            simp only [hitB, h3, Bool.false_and, Bool.and_false, Bool.false_or]
        · simp only [h2, if_false, Bool.false_eq_true]
          refine next false ?_
          rw [List.any_cons]
          simp only [hitB, h2, Bool.false_and, Bool.and_false, Bool.false_or]
      · simp only [h1, decide_false, if_false, Bool.false_eq_true]
        refine next false ?_
        rw [List.any_cons]
        simp only [hitB, h1, decide_false, Bool.false_and, Bool.false_or]
theorem rall_l0 (t : List Tomb) (ht : t.length ≤ 1048576) : ∀ (s p acc : List Tomb), t = p ++ s → acc.length ≤ p.length → Ev (fun k => r09_All.l0 t k acc p.length) (acc ++ s.filter okTm)
  | [], p, acc, hp, ha => by
    have e1 : decide ((p.length : Int) < (t.length : Int)) = false := by rw [hp]; exact lt_end p
    refine Ev.succ ?_
    simp only [r09_All.l0, e1, Bool.false_eq_true, if_false]
    simpa using Ev.ret
  | x :: s, p, acc, hp, ha => by
    have e1 : decide ((p.length : Int) < (t.length : Int)) = true := by rw [hp]; exact lt_at p s x
    have e2 : idx t (p.length : Int) = some x := by rw [hp]; exact idx_at p x s
    have hpl : p.length + 1 ≤ t.length := by rw [hp]; simp
    refine Ev.succ ?_
    simp only [r09_All.l0, e1, e2, if_true, Option.bind_some, rvalidT_eq, Jn, step_at p s x (by rw [← hp, maxLen_val]; omega)]
    by_cases h : okTm x = true
    · simp only [h, if_true, push_ok (show acc.length < 5629499534059 by omega), Option.bind_some]
      have := rall_l0 t ht s (p ++ [x]) (acc ++ [x]) (by simp [hp]) (by simp; omega)
      simpa [h] using this
    · simp only [h, if_false, Bool.false_eq_true]
      have := rall_l0 t ht s (p ++ [x]) acc (by simp [hp]) (by simp; omega)
      simpa [h] using this
theorem rtouch_l0 (B : List File) (hB : B.length ≤ 1048576) (t : Tomb) : ∀ (s p : List File), B = p ++ s → Ev (fun k => r21_touches.l0 B t k p.length) (touchB s t)
  | [], p, hp => by
    have e1 : decide ((p.length : Int) < (B.length : Int)) = false := by rw [hp]; exact lt_end p
    refine Ev.succ ?_
    simp only [r21_touches.l0, e1, Bool.false_eq_true, if_false]
    exact Ev.ret
  | x :: s, p, hp => by
    have e1 : decide ((p.length : Int) < (B.length : Int)) = true := by rw [hp]; exact lt_at p s x
    have e2 : idx B (p.length : Int) = some x := by rw [hp]; exact idx_at p x s
    have ih := rtouch_l0 B hB t s (p ++ [x]) (by simp [hp])
    refine Ev.succ ?_
    simp only [r21_touches.l0, e1, e2, if_true, Option.bind_some, Jn, step_at p s x (by rw [← hp, maxLen_val]; omega), touchB, List.any_cons]
    by_cases h1 : sLt x.Least t.End = true
    · simp only [h1, if_true, Bool.true_and]
      cases h2 : (!(sLt x.Limit t.Begin || sEq x.Limit t.Begin)) with
      | true => simp only [if_true, Bool.true_or]; exact Ev.ret
      | false => simp only [Bool.false_eq_true, if_false, Bool.false_or]; exact ih
    · simp only [h1, if_false, Bool.false_eq_true, Bool.false_and, Bool.false_or]
      exact ih
theorem r_l3 (a2 : R21_Rule) (hS : a2.Snaps.length ≤ 1048576) (hB : a2.Below.length ≤ 1048576) (T : List Tomb) (hT : T.length ≤ 1048576) (J : Nat → List Tomb → Option (List Entry × List Tomb)) (R : List Entry × List Tomb) : ∀ (s p acc : List Tomb) (J : Nat → List Tomb → Option (List Entry × List Tomb)), T = p ++ s → acc.length ≤ p.length → Ev (fun k => J k (acc ++ s.filter (deadB a2.Snaps a2.Below))) R → Ev (fun k => r21_Entries.l3 a2 T (J k) k acc p.length) R
  | [], p, acc, J, hp, ha, hJ => by
    have e1 : decide ((p.length : Int) < (T.length : Int)) = false := by rw [hp]; exact lt_end p
    refine Ev.succ ?_
    simp only [r21_Entries.l3, e1, Bool.false_eq_true, if_false]
    simpa using hJ.shift
  | x :: s, p, acc, J, hp, ha, hJ => by
    have e1 : decide ((p.length : Int) < (T.length : Int)) = true := by rw [hp]; exact lt_at p s x
    have e2 : idx T (p.length : Int) = some x := by rw [hp]; exact idx_at p x s
    have hpl : p.length + 1 ≤ T.length := by rw [hp]; simp
    have hw := step_at p s x (by rw [← hp, maxLen_val]; omega)
    have yes : deadB a2.Snaps a2.Below x = true → Ev (fun k => (push 5629499534059 acc x).bind fun l7959 => r21_Entries.l3 a2 T (J (k + 1)) k l7959 (w64 ((p.length : Int) + 1))) R := fun h => by
      simp only [push_ok (show acc.length < 5629499534059 by omega), Option.bind_some, hw]
      refine r_l3 a2 hS hB T hT (fun _ _ => none) R s (p ++ [x]) (acc ++ [x]) (fun k => J (k + 1)) (by simp [hp]) (by simp; omega) ?_
      have := hJ.shift
      simpa [h] using this
    have no : deadB a2.Snaps a2.Below x = false → Ev (fun k => r21_Entries.l3 a2 T (J (k + 1)) k acc (w64 ((p.length : Int) + 1))) R := fun h => by
      rw [hw]
      refine r_l3 a2 hS hB T hT (fun _ _ => none) R s (p ++ [x]) acc (fun k => J (k + 1)) (by simp [hp]) (by simp; omega) ?_
      have := hJ.shift
      simpa [h] using this
    refine Ev.succ ?_
    simp only [r21_Entries.l3, e1, e2, if_true, Option.bind_some, Jn]
    refine Ev.bind (rlast_ev a2.Snaps x.Seq (by omega)) ?_
    by_cases h1 : strN a2.Snaps x.Seq = (uqI a2.Snaps).length
    · simp only [h1, decide_true, if_true]
      exact yes (by simp [deadB, h1])
    · simp only [h1, decide_false, Bool.false_eq_true, if_false]
      refine Ev.bind (rstripe_ev a2.Snaps x.Seq (by rw [maxLen_val]; omega)) ?_
      by_cases h2 : strN a2.Snaps x.Seq = 0
      · have c : ((strN a2.Snaps x.Seq : Int) != 0) = false := by rw [h2]; rfl
        simp only [c, Bool.false_eq_true, if_false]
        refine Ev.bind (rtouch_l0 a2.Below hB x a2.Below [] rfl) ?_
        cases h3 : touchB a2.Below x with
        | true => simp only [if_true]; exact yes (by simp [deadB, h3])
        | false => simp only [Bool.false_eq_true, if_false]; exact no (by unfold deadB; rw [h3, decide_eq_false h1]; simp [h2])
      · have c : ((strN a2.Snaps x.Seq : Int) != 0) = true := by rw [bne_iff_ne]; omega
        simp only [c, if_true]
        exact yes (by simp [deadB, h2])
theorem r_l0 (a2 : R21_Rule) (hS : a2.Snaps.length ≤ 1048576) (hB : a2.Below.length ≤ 1048576) (T : List Tomb) (hT : T.length ≤ 1048576) (m : List Entry) (hm : m.length ≤ 1048576) : ∀ (s p acc : List Entry), m = p ++ s → acc.length ≤ p.length → Ev (fun k => r21_Entries.l0 a2 m T k acc p.length) (acc ++ keepG a2.Snaps a2.Below T p s, T.filter (deadB a2.Snaps a2.Below))
  | [], p, acc, hp, ha => by
    have e1 : decide ((p.length : Int) < (m.length : Int)) = false := by rw [hp]; exact lt_end p
    refine Ev.succ ?_
    simp only [r21_Entries.l0, e1, Bool.false_eq_true, if_false, Jn]
    refine r_l3 a2 hS hB T hT (fun _ _ => none) _ T [] [] (fun k l_6813 => some (acc, l_6813)) rfl (Nat.le_refl _) ?_
    rw [keepG, List.append_nil, List.nil_append]
    exact Ev.ret
  | e :: s, p, acc, hp, ha => by
    have e1 : decide ((p.length : Int) < (m.length : Int)) = true := by rw [hp]; exact lt_at p s e
    have e2 : idx m (p.length : Int) = some e := by rw [hp]; exact idx_at p e s
    have hpl : p.length + 1 ≤ m.length := by rw [hp]; simp
    have hw := step_at p s e (by rw [← hp, maxLen_val]; omega)
    have yes : keepB a2.Snaps a2.Below T p e = true → Ev (fun k => (push 4691249611691 acc e).bind fun l7032 => r21_Entries.l0 a2 m T k l7032 (w64 ((p.length : Int) + 1))) (acc ++ keepG a2.Snaps a2.Below T p (e :: s), T.filter (deadB a2.Snaps a2.Below)) := fun h => by
      simp only [push_ok (show acc.length < 4691249611691 by omega), Option.bind_some, hw]
      have := r_l0 a2 hS hB T hT m hm s (p ++ [e]) (acc ++ [e]) (by simp [hp]) (by simp; omega)
      simpa [keepG, h] using this
    have no : keepB a2.Snaps a2.Below T p e = false → Ev (fun k => r21_Entries.l0 a2 m T k acc (w64 ((p.length : Int) + 1))) (acc ++ keepG a2.Snaps a2.Below T p (e :: s), T.filter (deadB a2.Snaps a2.Below)) := fun h => by
      rw [hw]
      have := r_l0 a2 hS hB T hT m hm s (p ++ [e]) acc (by simp [hp]) (by simp; omega)
      simpa [keepG, h] using this
    refine Ev.succ ?_
    simp only [r21_Entries.l0, e1, e2, if_true, Option.bind_some, Jn]
    refine Ev.bind (rlast_ev a2.Snaps e.Seq (by omega)) ?_
    by_cases h1 : strN a2.Snaps e.Seq = (uqI a2.Snaps).length
    · simp only [h1, decide_true, if_true]
      exact yes (by simp [keepB, h1])
    · simp only [h1, decide_false, Bool.false_eq_true, if_false]
      refine Ev.bind (rstripe_ev a2.Snaps e.Seq (by rw [maxLen_val]; omega)) ?_
      have fin : ∀ b0, b0 = ((e.Kind == 0) && decide (strN a2.Snaps e.Seq = 0) && !bearsAny a2.Below e.Key) → Ev (fun k => r21_Entries.l2 a2 m (p.length : Int) e (strN a2.Snaps e.Seq) (fun b_6274 => r21_Entries.l1 a2 T e (strN a2.Snaps e.Seq) (fun b_6468 => if (!b_6468) = true then ((push 4691249611691 acc e).bind fun l7344 => r21_Entries.l0 a2 m T k l7344 (w64 ((p.length : Int) + 1))) else (r21_Entries.l0 a2 m T k acc (w64 ((p.length : Int) + 1)))) k b_6274 0) k b0 0) (acc ++ keepG a2.Snaps a2.Below T p (e :: s), T.filter (deadB a2.Snaps a2.Below)) := by
        intro b0 hb0
        refine r_l2 a2 hS m (by omega) p.length e p [] (e :: s) b0 (by simp [hp]) (by simp) (fun k b_6274 => r21_Entries.l1 a2 T e (strN a2.Snaps e.Seq) (fun b_6468 => if (!b_6468) = true then ((push 4691249611691 acc e).bind fun l7344 => r21_Entries.l0 a2 m T k l7344 (w64 ((p.length : Int) + 1))) else (r21_Entries.l0 a2 m T k acc (w64 ((p.length : Int) + 1)))) k b_6274 0) _ ?_
        refine r_l1 a2 hS T (by omega) e T [] _ rfl (fun k b_6468 => if (!b_6468) = true then ((push 4691249611691 acc e).bind fun l7344 => r21_Entries.l0 a2 m T k l7344 (w64 ((p.length : Int) + 1))) else (r21_Entries.l0 a2 m T k acc (w64 ((p.length : Int) + 1)))) _ ?_
        have ho : (b0 || p.any (sameB a2.Snaps e) || T.any (hitB a2.Snaps e)) = outB a2.Snaps a2.Below T p e := by rw [hb0]; rfl
        rw [ho]
        cases h : outB a2.Snaps a2.Below T p e with
        | true => simp only [Bool.not_true, Bool.false_eq_true, if_false]; exact no (by simp [keepB, h1, h])
        | false => simp only [Bool.not_false, if_true]; exact yes (by simp [keepB, h])
      by_cases hk : ((e.Kind == 0) && ((strN a2.Snaps e.Seq : Int) == 0)) = true
      · simp only [hk, if_true]
        refine Ev.bind (rb_ev a2.Below hB e.Key) ?_
        refine fin _ ?_
        have h0 : (((strN a2.Snaps e.Seq : Nat) : Int) == 0) = decide (strN a2.Snaps e.Seq = 0) := nat_beq _ 0
        rw [h0] at hk
        rw [hk, Bool.true_and]
      · simp only [hk, if_false, Bool.false_eq_true]
        refine fin _ ?_
        have h0 : (((strN a2.Snaps e.Seq : Nat) : Int) == 0) = decide (strN a2.Snaps e.Seq = 0) := nat_beq _ 0
        rw [h0] at hk
        rw [Bool.eq_false_iff.2 hk, Bool.false_and]
theorem rent_ev (a2 : R21_Rule) (hS : a2.Snaps.length ≤ 1048576) (hB : a2.Below.length ≤ 1048576) (l : List Entry) (hl : l.length ≤ 1048576) (t : List Tomb) (ht : t.length ≤ 1048576) (m : List Entry) (hm : Ev (fun k => r03_Sorted k l) m) (hml : m.length = l.length) :
    Ev (fun k => r21_Entries k l t a2) (keepG a2.Snaps a2.Below (t.filter okTm) [] m, (t.filter okTm).filter (deadB a2.Snaps a2.Below)) := by
  unfold r21_Entries
  refine Ev.bind hm ?_
  have h1 := rall_l0 t ht t [] [] rfl (Nat.le_refl _)
  rw [List.nil_append] at h1
  refine Ev.bind (show Ev (fun k => r09_All k t) _ from h1) ?_
  have := r_l0 a2 hS hB (t.filter okTm) (Nat.le_trans (List.length_filter_le _ _) ht) m (by omega) m [] [] rfl (Nat.le_refl _)
  rwa [List.nil_append] at this
end Go.Proofs.Ytfofolmagnaimaa.Mo
