import Derived.Test.YtfofolmagnaimaaDpC
set_option linter.unusedVariables false
set_option linter.unusedSectionVars false
set_option linter.unusedSimpArgs false
set_option maxRecDepth 100000
namespace Go.Proofs.Ytfofolmagnaimaa.Mo
open Go Go.Proofs.Ytfofolmagnaimaa.Sy
def covB (e : Entry) (M : Int) (t : Tomb) : Bool := ((okTm t && decide (t.Seq ≤ M)) && (sLt t.Begin e.Key || sEq t.Begin e.Key)) && sLt e.Key t.End
theorem cover_l0 (L : List Tomb) (hL : L.length ≤ 1048576) (e : Entry) (he : 0 ≤ e.Seq) (M : Int) : ∀ (s p : List Tomb) (i : Int) (b : Bool), L = p ++ s → (b = false → i = 0) →
    ∃ r : Int × Bool, Ev (fun k => tomb_Cover.l0 L e.Key M k i b p.length) r ∧ (r.2 && decide (e.Seq < r.1)) = ((b && decide (e.Seq < i)) || s.any fun t => covB e M t && decide (e.Seq < t.Seq))
  | [], p, i, b, hp, hb => by
    have e1 : decide ((p.length : Int) < (L.length : Int)) = false := by rw [hp]; exact lt_end p
    refine ⟨(i, b), Ev.succ ?_, by simp⟩
    simp only [tomb_Cover.l0, e1, Bool.false_eq_true, if_false]
    exact Ev.ret
  | x :: s, p, i, b, hp, hb => by
    have e1 : decide ((p.length : Int) < (L.length : Int)) = true := by rw [hp]; exact lt_at p s x
    have e2 : idx L (p.length : Int) = some x := by rw [hp]; exact idx_at p x s
    have hw := step_at p s x (by rw [← hp, maxLen_val]; omega)
    by_cases h : covB e M x = true
    · obtain ⟨r, r1, r2⟩ := cover_l0 L hL e he M s (p ++ [x]) (maxI i x.Seq) true (by simp [hp]) (fun h => by cases h)
      refine ⟨r, Ev.succ ?_, ?_⟩
      · simp only [tomb_Cover.l0, e1, e2, if_true, Option.bind_some, tvalid_eq, Jn, hw]
        exact Ev.pos (show (((okTm x && decide (x.Seq ≤ M)) && (sLt x.Begin e.Key || sEq x.Begin e.Key)) && sLt e.Key x.End) = true from h) r1
      · rw [r2, List.any_cons, h, Bool.true_and, Bool.true_and, ← Bool.or_assoc]
        congr 1
        have hm : decide (e.Seq < maxI i x.Seq) = (decide (e.Seq < i) || decide (e.Seq < x.Seq)) := by
          rw [Bool.eq_iff_iff, Bool.or_eq_true, decide_eq_true_eq, decide_eq_true_eq, decide_eq_true_eq]
          unfold maxI
          split <;> omega
        rw [hm]
        cases b with
        | true => rfl
        | false =>
          rw [hb rfl]
          have : decide (e.Seq < 0) = false := decide_eq_false (by omega)
          rw [this]
          rfl
    · obtain ⟨r, r1, r2⟩ := cover_l0 L hL e he M s (p ++ [x]) i b (by simp [hp]) hb
      have hf := Bool.eq_false_iff.2 h
      refine ⟨r, Ev.succ ?_, ?_⟩
      · simp only [tomb_Cover.l0, e1, e2, if_true, Option.bind_some, tvalid_eq, Jn, hw]
        exact Ev.neg (show ¬ (((okTm x && decide (x.Seq ≤ M)) && (sLt x.Begin e.Key || sEq x.Begin e.Key)) && sLt e.Key x.End) = true from h) r1
      · rw [r2, List.any_cons, hf, Bool.false_and, Bool.false_or]
theorem ok_seq {t : Tomb} (h : okTm t = true) : t.Seq ≤ 72057594037927935 := by
  simp only [okTm, tomb_Valid, Option.getD_some, Bool.and_eq_true, decide_eq_true_eq] at h
  exact h.2
theorem cover_ev (S : List Int) (V : List Tomb) (hV : ∀ t ∈ V, okTm t = true) (hl : V.length ≤ 1048576) (e : Entry) (he : 0 ≤ e.Seq) :
    ∃ r : Int × Bool, Ev (fun k => tomb_Cover k (V.filter fun t => decide (strN S t.Seq = strN S e.Seq)) e.Key 72057594037927935) r ∧ (r.2 && decide (e.Seq < r.1)) = V.any (hitB S e) := by
  obtain ⟨r, r1, r2⟩ := cover_l0 (V.filter fun t => decide (strN S t.Seq = strN S e.Seq)) (Nat.le_trans (List.length_filter_le _ _) hl) e he 72057594037927935 _ [] 0 false rfl (fun _ => rfl)
  refine ⟨r, r1, ?_⟩
  rw [r2, Bool.false_and, Bool.false_or, List.any_filter]
  rw [Bool.eq_iff_iff, List.any_eq_true, List.any_eq_true]
  constructor
  · rintro ⟨t, ht, h⟩
    refine ⟨t, ht, ?_⟩
    simp only [covB, hitB, Bool.and_eq_true] at h ⊢
    exact ⟨h.2.2, h.2.1.1.2, h.2.1.2, h.1⟩
  · rintro ⟨t, ht, h⟩
    refine ⟨t, ht, ?_⟩
    simp only [covB, hitB, Bool.and_eq_true] at h ⊢
    exact ⟨h.2.2.2, ⟨⟨⟨hV t ht, decide_eq_true (ok_seq (hV t ht))⟩, h.2.1⟩, h.2.2.1⟩, h.1⟩
theorem strN_mono (S : List Int) {a b : Int} (h : a ≤ b) : strN S a ≤ strN S b := by
  unfold strN
  rw [← List.countP_eq_length_filter, ← List.countP_eq_length_filter]
  refine List.countP_mono_left fun x _ hx => ?_
  rw [decide_eq_true_eq] at hx ⊢
  omega
theorem ahead (S : List Int) {p : List Entry} {x e : Entry} (h : Srt ltE (p ++ [x] ++ [e])) : (p ++ [x]).any (sameB S e) = sameB S e x := by
  rw [Bool.eq_iff_iff, List.any_eq_true]
  constructor
  · rintro ⟨j, hj, hs⟩
    rcases List.mem_append.1 hj with hj | hj
    · simp only [sameB, Bool.and_eq_true, sEq_iff, decide_eq_true_eq] at hs ⊢
      rw [List.append_assoc] at h
      obtain ⟨_, h2, h3⟩ := Srt.app.1 h
      have h4 : ¬ ltE x j := h3 j hj x (by simp)
      have h5 : ¬ ltE e x := (List.pairwise_cons.1 h2).1 e (by simp)
      rw [ltE_iff] at h4 h5
      have k1 : x.Key = e.Key := by
        rcases slt_tri x.Key j.Key with g | g | g
        · exact absurd (.inl g) h4
        · rw [g]; exact hs.1
        · rw [hs.1] at g
          exact absurd (.inl g) h5
      have k2 : x.Seq ≤ j.Seq := by
        refine Int.not_lt.1 fun g => h4 (.inr ⟨k1.trans hs.1.symm, .inl g⟩)
      have k3 : e.Seq ≤ x.Seq := by
        refine Int.not_lt.1 fun g => h5 (.inr ⟨k1.symm, .inl g⟩)
      refine ⟨k1, ?_⟩
      have := strN_mono S k2
      have := strN_mono S k3
      omega
    · simp only [List.mem_singleton] at hj
      subst hj
      exact hs
  · intro hs
    exact ⟨x, by simp, hs⟩
def bucket (S : List Int) (V : List Tomb) : List (List Tomb) := (List.range ((uqI S).length + 1)).map fun i => V.filter fun x => decide (strN S x.Seq = i)
theorem bucket_nil (S : List Int) : bucket S [] = List.replicate ((uqI S).length + 1) [] := by
  unfold bucket
  rw [List.eq_replicate_iff]
  refine ⟨by simp, fun b hb => ?_⟩
  obtain ⟨i, _, rfl⟩ := List.mem_map.1 hb
  rfl
theorem bucket_at (S : List Int) (V : List Tomb) (n : Int) : (bucket S V)[strN S n]? = some (V.filter fun x => decide (strN S x.Seq = strN S n)) := by
  have := strN_le S n
  unfold bucket
  rw [List.getElem?_map, List.getElem?_range (by omega)]
  rfl
theorem bucket_idx (S : List Int) (V : List Tomb) (n : Int) : idx (bucket S V) (strN S n : Int) = some (V.filter fun x => decide (strN S x.Seq = strN S n)) := by
  rw [idx_nat, bucket_at]
theorem bucket_put (S : List Int) (V : List Tomb) (x : Tomb) : upd (bucket S V) (strN S x.Seq : Int) (V.filter (fun y => decide (strN S y.Seq = strN S x.Seq)) ++ [x]) = some (bucket S (V ++ [x])) := by
  have hn := strN_le S x.Seq
  have hlen : (bucket S V).length = (uqI S).length + 1 := by simp [bucket]
  unfold upd
  rw [if_pos ⟨by omega, by rw [hlen]; omega⟩, Int.toNat_natCast]
  congr 1
  refine List.ext_getElem? fun j => ?_
  rw [List.getElem?_set]
  by_cases hj : strN S x.Seq = j
  · subst hj
    rw [if_pos rfl, if_pos (by rw [hlen]; omega), bucket_at, List.filter_append]
    simp
  · rw [if_neg hj]
    unfold bucket
    rw [List.getElem?_map, List.getElem?_map]
    cases hr : (List.range ((uqI S).length + 1))[j]? with
    | none => rfl
    | some i =>
      have hij : i = j := by
        have h1 := (List.getElem?_eq_some_iff.1 hr)
        obtain ⟨h1, h2⟩ := h1
        rw [List.getElem_range] at h2
        exact h2.symm
      subst hij
      have hx : ¬ decide (strN S x.Seq = i) = true := by simpa using hj
      simp only [Option.map_some, List.filter_append, List.filter_cons, if_neg hx, List.filter_nil, List.append_nil]
end Go.Proofs.Ytfofolmagnaimaa.Mo
