/- TombPieces in plain words. -/
import Derived.Test.YtmbhgfigffahbaaTmInTombPieces
import Derived.Test.YtmbhgfigffahbaaVTb
set_option linter.unusedVariables false
set_option linter.unusedSimpArgs false
set_option maxRecDepth 100000
namespace Go.Proofs.Ytmbhgfigffahbaa.Mo.tombPieces
open Go Go.Proofs.Ytmbhgfigffahbaa.Sy Go.ChangeShapes Go.WideShapes Go.RowKit
open Go.Proofs Go.Proofs.Ytmbhgfigffahbaa

def has (key : ByteArray) (f : Fragment) : Bool := (sLt f.Begin key || sEq f.Begin key) && sLt key f.End
def hereOf (key : ByteArray) : List Fragment → List Int → List Int
  | [], h => h
  | f :: s, h => hereOf key s (if has key f = true then f.Seqs else h)

theorem l1_ev (r1 : List Fragment) (i : Nat) (f : Fragment) (hi : r1[i]? = some f) (hf : f.Seqs.Pairwise (fun x y => y < x)) (hl : f.Seqs.length < 4611686018427387904) : ∀ (d j : Nat), 1 ≤ j → j + d = f.Seqs.length → ∀ J : Nat → Option Bool, Ev J true → Ev (fun k => l09_TombPieces.l1 r1 (i : Int) (J k) k (j : Int)) true := by
  have hx : idx r1 (i : Int) = some f := by rw [idx_nat, hi]
  intro d
  induction d with
  | zero =>
    intro j hj hjd J hJ
    have hd : decide ((j : Int) < (f.Seqs.length : Int)) = false := decide_eq_false (by omega)
    refine Ev.succ ?_
    obtain ⟨n, hn⟩ := hJ
    refine ⟨n, fun k hk => ?_⟩
    simp only [l09_TombPieces.l1, hx, Option.bind_some, hd, Bool.false_eq_true, if_false]
    exact hn (k + 1) (by omega)
  | succ d ih =>
    intro j hj hjd J hJ
    have hd : decide ((j : Int) < (f.Seqs.length : Int)) = true := decide_eq_true (by omega)
    have e1 : idx f.Seqs (j : Int) = some (A 0 f.Seqs j) := idx_A (by omega)
    have e2 : idx f.Seqs ((j - 1 : Nat) : Int) = some (A 0 f.Seqs (j - 1)) := idx_A (by omega)
    have hlt : A 0 f.Seqs j < A 0 f.Seqs (j - 1) := by
      rw [A_get (show j < f.Seqs.length by omega), A_get (show j - 1 < f.Seqs.length by omega)]
      exact (List.pairwise_iff_getElem.1 hf) (j - 1) j (by omega) (by omega) (by omega)
    have hle : decide (A 0 f.Seqs (j - 1) ≤ A 0 f.Seqs j) = false := decide_eq_false (by omega)
    obtain ⟨n, hn⟩ := ih (j + 1) (by omega) (by omega) (fun k => J (k + 1)) hJ.shift
    refine Ev.succ ⟨n, fun k hk => ?_⟩
    simp only [l09_TombPieces.l1, hx, Option.bind_some, hd, if_true, e1, wP (n := j) (by omega) (by omega), e2, hle, Bool.false_eq_true, if_false, wS (n := j) (by omega)]
    exact hn k hk

theorem l0_ev (a0 : List Tomb) (a1 : ByteArray) (r1 : List Fragment) (hl : r1.length < 4611686018427387904) (hok : ∀ f ∈ r1, slt f.Begin f.End ∧ f.Seqs ≠ [] ∧ f.Seqs.Pairwise (fun x y => y < x) ∧ f.Seqs.length < 4611686018427387904) (hpw : r1.Pairwise (fun f g => sle f.End g.Begin))
    (fin : List Int) (hend : Ev (fun k => l09_TombPieces.l0 a0 a1 r1 k fin (r1.length : Int)) true) : ∀ s p here, r1 = p ++ s → hereOf a1 s here = fin → Ev (fun k => l09_TombPieces.l0 a0 a1 r1 k here (p.length : Int)) true := by
  intro s
  induction s with
  | nil =>
    intro p here hr hh
    simp only [hereOf] at hh
    subst hh
    have : r1.length = p.length := by rw [hr]; simp
    rw [← this]
    exact hend
  | cons f s ih =>
    intro p here hr hh
    have hlen : r1.length = p.length + 1 + s.length := by rw [hr]; simp; omega
    obtain ⟨h1, h2, h3, h4⟩ := hok f (by rw [hr]; simp)
    have hx : idx r1 (p.length : Int) = some f := by rw [hr]; exact idx_at _ _ _
    have hx? : r1[p.length]? = some f := by rw [← hx, idx_nat]
    have hd : decide ((p.length : Int) < (r1.length : Int)) = true := decide_eq_true (by omega)
    have hw : w64 ((p.length : Int) + 1) = ((p ++ [f]).length : Int) := by rw [wS (by omega)]; simp
    have hne : ((f.Seqs.length : Int) == 0) = false := by simp; exact h2
    obtain ⟨n, hn⟩ := ih (p ++ [f]) (if has a1 f = true then f.Seqs else here) (by simp [hr]) hh
    dsimp only at hn
    -- behind the numbers
    have hJ : Ev (fun k => if has a1 f = true then l09_TombPieces.l0 a0 a1 r1 k f.Seqs ((p ++ [f]).length : Int) else l09_TombPieces.l0 a0 a1 r1 k here ((p ++ [f]).length : Int)) true := by
      refine ⟨n, fun k hk => ?_⟩
      have := hn k hk
      by_cases c : has a1 f = true
      · simpa [c] using this
      · simpa [c] using this
    have hlen1 : 1 ≤ f.Seqs.length := by cases hs : f.Seqs with
      | nil => exact absurd hs h2
      | cons a b => simp
    obtain ⟨n2, hn2⟩ := l1_ev r1 p.length f hx? h3 h4 (f.Seqs.length - 1) 1 (Nat.le_refl _) (by omega) _ hJ
    dsimp only at hn2
    refine Ev.succ ⟨n2, fun k hk => ?_⟩
    have hl1 := hn2 k hk
    have hprev : (if (decide ((0 : Int) < (p.length : Int))) = true then ((idx r1 (w64 ((p.length : Int) - 1))).bind fun x5533 => (idx r1 (p.length : Int)).bind fun x5538 => some (!(sLt x5533.End x5538.Begin || sEq x5533.End x5538.Begin))) else some false) = some false := by
      rcases nil_or_snoc p with rfl | ⟨q, g, rfl⟩
      · simp
      · have h0 : decide ((0 : Int) < ((q ++ [g]).length : Int)) = true := pos_snoc q g
        have hg : idx r1 (w64 (((q ++ [g]).length : Int) - 1)) = some g := by
          have e : w64 (((q ++ [g]).length : Int) - 1) = (q.length : Int) := by
            simp only [List.length_append, List.length_singleton] at hlen ⊢
            rw [wP (by omega) (by omega)]; rfl
          rw [e, hr, List.append_assoc]
          exact idx_at q g _
        have hle : sle g.End f.Begin := by
          rw [hr, List.append_assoc] at hpw
          exact (List.pairwise_cons.1 (List.pairwise_append.1 hpw).2.1).1 f (by simp)
        simp only [h0, if_true, hg, hx, Option.bind_some, sLe_dec, decide_eq_true hle, Bool.not_true]
    have key : ∀ (K : Bool → Option Bool), (if (decide ((0 : Int) < (p.length : Int))) = true then ((idx r1 (w64 ((p.length : Int) - 1))).bind fun x5533 => (idx r1 (p.length : Int)).bind fun x5538 => K (!(sLt x5533.End x5538.Begin || sEq x5533.End x5538.Begin))) else K false) = K false := fun K => by
      have e := congrArg (fun o : Option Bool => o.bind K) hprev
      simp only [Option.bind_some] at e
      rw [← e]
      split
      · cases idx r1 (w64 ((p.length : Int) - 1)) with
        | none => rfl
        | some u => cases idx r1 (p.length : Int) <;> rfl
      · rfl
    show l09_TombPieces.l0 a0 a1 r1 (k + 1) here (p.length : Int) = some true
    simp only [l09_TombPieces.l0, Jn, hd, if_true, hx, Option.bind_some, sLt_iff.2 h1, Bool.not_true, Bool.false_eq_true, if_false]
    rw [hx] at key
    simp only [Option.bind_some] at key
    have key2 : ∀ Z : Option Bool, (if (decide ((0 : Int) < (p.length : Int))) = true then ((idx r1 (w64 ((p.length : Int) - 1))).bind fun x5533 => if (!(sLt x5533.End f.Begin || sEq x5533.End f.Begin)) = true then some false else Z) else Z) = Z := fun Z => by
      have := key (fun b => if b = true then some false else Z)
      simpa using this
    rw [key2]
    simp only [Bool.false_eq_true, if_false, hne, hw]
    rw [← hl1]
    simp only [has]
    by_cases c1 : (sLt f.Begin a1 || sEq f.Begin a1) = true <;> by_cases c2 : sLt a1 f.End = true <;> simp [c1, c2]

/-! ### behind the fragments -/
theorem lc_eq (x : Tomb) (key : ByteArray) : l09_covers x key = some (okT x && onKey key x) := by
  have e : okT x = (((((!sEq x.Begin (ByteArray.mk #[])) && (decide ((x.Begin.size : Int) ≤ 1024))) && (decide ((x.End.size : Int) ≤ 1025))) && (sLt x.Begin x.End)) && (decide (x.Seq ≤ 72057594037927935))) := rfl
  have e0 : (!sEq x.Begin (ByteArray.mk #[])) = decide (1 ≤ (x.Begin.size : Int)) := by
    rw [sEq_dec]
    have : x.Begin = ByteArray.mk #[] ↔ x.Begin.size = 0 := by
      obtain ⟨d⟩ := x.Begin
      simp [ByteArray.size]
    by_cases h : x.Begin.size = 0
    · simp [this.2 h, show (ByteArray.mk #[]).size = 0 from rfl]
    · have h2 : x.Begin ≠ ByteArray.mk #[] := fun e => h (this.1 e)
      simp [h2]; omega
  simp only [l09_covers]
  congr 1
  rw [e, e0, sLe_dec, sLt_dec, sLt_dec]
  unfold onKey
  by_cases h1 : sle x.Begin key <;> by_cases h2 : slt key x.End
  · have h3 : slt x.Begin x.End := slt_of_le_lt h1 h2
    simp [h1, h2, h3]
  all_goals simp [h1, h2]

theorem l5_ev (a0 : List Tomb) (here : List Int) (i : Nat) (t : Tomb) (hi : a0[i]? = some t) (hl : here.length < 4611686018427387904) : ∀ s p b, here = p ++ s → ∀ J : Nat → Bool → Option Bool, Ev (fun k => J k (b || s.any (fun n => n == t.Seq))) true → Ev (fun k => l09_TombPieces.l5 a0 here (i : Int) (J k) k b (p.length : Int)) true := by
  have hx : idx a0 (i : Int) = some t := by rw [idx_nat, hi]
  intro s
  induction s with
  | nil =>
    intro p b hh J hJ
    subst hh
    refine Ev.succ ?_
    simp only [l09_TombPieces.l5, lt_end, Bool.false_eq_true, if_false]
    exact (show Ev (fun k => J k b) true by simpa using hJ).shift
  | cons n s ih =>
    intro p b hh J hJ
    have hm : (p ++ n :: s).length ≤ maxLen := by rw [maxLen_val, ← hh]; omega
    have hlen : p.length < 4611686018427387904 := by rw [hh] at hl; simp at hl; omega
    refine Ev.succ ?_
    subst hh
    cases b with
    | true =>
      simp only [l09_TombPieces.l5, lt_at, if_true, Jn, step_at p s n hm]
      exact ih (p ++ [n]) true (by simp) (fun k => J (k + 1)) (show Ev (fun k => J (k + 1) (true || s.any (fun n => n == t.Seq))) true by simpa using (show Ev (fun k => J k true) true by simpa using hJ).shift)
    | false =>
      simp only [l09_TombPieces.l5, lt_at, if_true, Jn, step_at p s n hm, Bool.false_eq_true, if_false, idx_at, hx, Option.bind_some]
      exact ih (p ++ [n]) (n == t.Seq) (by simp) (fun k => J (k + 1)) (Ev.shift (f := fun k => J k ((n == t.Seq) || s.any (fun n => n == t.Seq))) (by simpa using hJ))

theorem l4_ev (a0 : List Tomb) (key : ByteArray) (here : List Int) (hl : here.length < 4611686018427387904) (h0 : a0.length < 4611686018427387904) (hin : ∀ t ∈ a0, (okT t && onKey key t) = true → t.Seq ∈ here) : ∀ s p, a0 = p ++ s → ∀ J : Nat → Option Bool, Ev J true → Ev (fun k => l09_TombPieces.l4 a0 key here (J k) k (p.length : Int)) true := by
  intro s
  induction s with
  | nil =>
    intro p hh J hJ
    subst hh
    refine Ev.succ ?_
    simp only [l09_TombPieces.l4, lt_end, Bool.false_eq_true, if_false]
    exact hJ.shift
  | cons t s ih =>
    intro p hh J hJ
    have hm : (p ++ t :: s).length ≤ maxLen := by rw [maxLen_val, ← hh]; omega
    have hi : a0[p.length]? = some t := by rw [hh]; simp
    have hx : idx a0 (p.length : Int) = some t := by rw [idx_nat, hi]
    have hd : decide ((p.length : Int) < (a0.length : Int)) = true := by rw [hh]; exact lt_at _ _ _
    have hb : ((okT t && onKey key t) && (!(false || here.any (fun n => n == t.Seq)))) = false := by
      by_cases c : (okT t && onKey key t) = true
      · have := hin t (by rw [hh]; simp) c
        have h2 : here.any (fun n => n == t.Seq) = true := by rw [List.any_eq_true]; exact ⟨_, this, by simp⟩
        simp [h2]
      · simp [c]
    refine Ev.succ ?_
    simp only [l09_TombPieces.l4, hd, if_true, Jn, hx, Option.bind_some, lc_eq, step_at p s t hm]
    refine l5_ev a0 here p.length t hi hl here [] false rfl _ ?_
    simp only [hb, Bool.false_eq_true, if_false]
    exact ih (p ++ [t]) (by simp [hh]) (fun k => J (k + 1)) hJ.shift

theorem l3_ev (a0 : List Tomb) (key : ByteArray) (here : List Int) (i : Nat) (m : Int) (hi : here[i]? = some m) (h0 : a0.length < 4611686018427387904) : ∀ s p b, a0 = p ++ s → ∀ J : Nat → Bool → Option Bool, Ev (fun k => J k (b || s.any (fun t => (okT t && onKey key t) && t.Seq == m))) true → Ev (fun k => l09_TombPieces.l3 a0 key here (i : Int) (J k) k b (p.length : Int)) true := by
  have hx : idx here (i : Int) = some m := by rw [idx_nat, hi]
  intro s
  induction s with
  | nil =>
    intro p b hh J hJ
    subst hh
    refine Ev.succ ?_
    simp only [l09_TombPieces.l3, lt_end, Bool.false_eq_true, if_false]
    exact (show Ev (fun k => J k b) true by simpa using hJ).shift
  | cons t s ih =>
    intro p b hh J hJ
    have hm : (p ++ t :: s).length ≤ maxLen := by rw [maxLen_val, ← hh]; omega
    refine Ev.succ ?_
    subst hh
    cases b with
    | true =>
      simp only [l09_TombPieces.l3, lt_at, if_true, Jn, step_at p s t hm]
      exact ih (p ++ [t]) true (by simp) (fun k => J (k + 1)) (show Ev (fun k => J (k + 1) (true || _)) true by simpa using (show Ev (fun k => J k true) true by simpa using hJ).shift)
    | false =>
      simp only [l09_TombPieces.l3, lt_at, if_true, Jn, step_at p s t hm, Bool.false_eq_true, if_false, idx_at, hx, Option.bind_some, lc_eq]
      by_cases c : (okT t && onKey key t) = true
      · simp only [c, if_true]
        exact ih (p ++ [t]) (t.Seq == m) (by simp) (fun k => J (k + 1)) (Ev.shift (f := fun k => J k ((t.Seq == m) || s.any (fun t => (okT t && onKey key t) && t.Seq == m))) (by simpa [c] using hJ))
      · simp only [c, Bool.false_eq_true, if_false]
        exact ih (p ++ [t]) false (by simp) (fun k => J (k + 1)) (Ev.shift (f := fun k => J k (false || s.any (fun t => (okT t && onKey key t) && t.Seq == m))) (by simpa [c] using hJ))

theorem l2_ev (a0 : List Tomb) (key : ByteArray) (here : List Int) (hl : here.length < 4611686018427387904) (h0 : a0.length < 4611686018427387904) (hin : ∀ n ∈ here, ∃ t ∈ a0, (okT t && onKey key t) = true ∧ t.Seq = n) : ∀ s p, here = p ++ s → ∀ J : Nat → Option Bool, Ev J true → Ev (fun k => l09_TombPieces.l2 a0 key here (J k) k (p.length : Int)) true := by
  intro s
  induction s with
  | nil =>
    intro p hh J hJ
    subst hh
    refine Ev.succ ?_
    simp only [l09_TombPieces.l2, lt_end, Bool.false_eq_true, if_false]
    exact hJ.shift
  | cons n s ih =>
    intro p hh J hJ
    have hm : (p ++ n :: s).length ≤ maxLen := by rw [maxLen_val, ← hh]; omega
    have hi : here[p.length]? = some n := by rw [hh]; simp
    have hd : decide ((p.length : Int) < (here.length : Int)) = true := by rw [hh]; exact lt_at _ _ _
    have hb : (!(false || a0.any (fun t => (okT t && onKey key t) && t.Seq == n))) = false := by
      obtain ⟨t, ht, h1, h2⟩ := hin n (by rw [hh]; simp)
      have : a0.any (fun t => (okT t && onKey key t) && t.Seq == n) = true := by rw [List.any_eq_true]; exact ⟨t, ht, by rw [h1]; simp [h2]⟩
      simp [this]
    refine Ev.succ ?_
    simp only [l09_TombPieces.l2, hd, if_true, Jn, step_at p s n hm]
    refine l3_ev a0 key here p.length n hi h0 a0 [] false rfl _ ?_
    simp only [hb, Bool.false_eq_true, if_false]
    exact ih (p ++ [n]) (by simp [hh]) (fun k => J (k + 1)) hJ.shift

theorem len_le_sum {α : Type} (g : α → Nat) (hg : ∀ x, 1 ≤ g x) : ∀ (l : List α), l.length ≤ (l.map g).sum
  | [] => by simp
  | x :: l => by have := len_le_sum g hg l; have := hg x; simp; omega

theorem here_cov {l : List Tomb} {key : ByteArray} : ∀ (s : List Fragment) (h : List Int), (∀ f ∈ s, ∀ k, sle f.Begin k → slt k f.End → f.Seqs = covS l k) → hereOf key s h = if s.any (has key) = true then covS l key else h
  | [], h, _ => by simp [hereOf]
  | f :: s, h, hf => by
    rw [hereOf, here_cov s _ fun g hg => hf g (by simp [hg])]
    by_cases c : has key f = true
    · have hk : f.Seqs = covS l key := by
        have c' := c
        simp only [has, sLe_dec, Bool.and_eq_true, decide_eq_true_eq, sLt_iff] at c'
        exact hf f (by simp) key c'.1 c'.2
      simp [c, hk]
    · simp [c]

theorem build_len (l : List Tomb) : ∀ (s : List ByteArray) (b : ByteArray) (out : List Fragment), (build l b s out).length ≤ out.length + s.length
  | [], _, out => by simp [build]
  | e :: s, b, out => by
    have h1 := build_len l s e (addF out b e (seqsOf l b e))
    have h2 := addF_len out b e (seqsOf l b e)
    simp only [build, List.length_cons]
    omega
theorem frags_len (l : List Tomb) : (frags l).length ≤ 2 * l.length := by
  unfold frags
  have h1 : (uq slt (endsOf l)).length ≤ 2 * l.length := by
    refine Nat.le_trans (uq_len _) ?_
    unfold endsOf
    induction l with
    | nil => simp
    | cons x s ih => rw [List.flatMap_cons, List.length_append]; simp at ih ⊢; omega
  cases hu : uq slt (endsOf l) with
  | nil => simp [fragsU]
  | cons b r =>
    rw [hu] at h1
    have := build_len l r b []
    simp only [fragsU]
    simp at h1 this
    omega

theorem pure : ∀ (a0 : (List Tomb)) (a1 : ByteArray), ((∀ y ∈ a0, Tomb.good y) ∧ a0.length ≤ maxLen) → (a1.size ≤ maxLen) → ((a0.map fun y => Tomb.mz y).sum + 1) + (a1.size + 1) ≤ 1048576 → ∃ k, l09_TombPieces k a0 a1 = some true := by
  intro a0 a1 hg _ hb
  have hlen : a0.length ≤ 1048576 := by
    have := len_le_sum (fun y => Tomb.mz y) (fun x => by unfold Tomb.mz; omega) a0
    omega
  have hseq : ∀ t ∈ a0, 0 ≤ t.Seq := fun t ht => by
    have := (hg.1 t ht).2.2
    simp only [Lit.wf, Bool.and_eq_true, decide_eq_true_eq] at this
    have h0 : IntKind.min .u64 = 0 := by decide
    omega
  have hmax : ∀ t ∈ a0, okT t = true → 0 ≤ t.Seq ∧ t.Seq ≤ 72057594037927935 := fun t ht ho => ⟨hseq t ht, by
    simp only [okT, tomb_Valid, Option.getD_some, Bool.and_eq_true, decide_eq_true_eq] at ho
    exact ho.2⟩
  obtain ⟨l, hl⟩ : ∃ l, l = a0.filter okT := ⟨_, rfl⟩
  have hll : l.length ≤ 1048576 := by rw [hl]; exact Nat.le_trans (List.length_filter_le _ _) hlen
  obtain ⟨s1, s2, s3⟩ := frags_spec l
  have hcl : ∀ key, (covS l key).length ≤ 1048576 := fun key => by
    unfold covS
    rw [List.length_reverse]
    refine Nat.le_trans (uq_len _) ?_
    rw [List.length_map]
    exact Nat.le_trans (List.length_filter_le _ _) hll
  have hfin : hereOf a1 (frags l) [] = covS l a1 := by
    rw [here_cov (l := l) (frags l) [] fun f hf => (s1 f hf).2.2]
    split
    · rfl
    · rename_i h
      by_cases c : covS l a1 = []
      · exact c.symm
      · exfalso
        obtain ⟨f, hf, q1, q2⟩ := s3 a1 c
        refine h (List.any_eq_true.2 ⟨f, hf, ?_⟩)
        simp only [has, sLe_dec, Bool.and_eq_true, decide_eq_true_eq, sLt_iff]
        exact ⟨q1, q2⟩
  have hfl := frags_len l
  refine Ev.ex ?_
  simp only [l09_TombPieces]
  refine Ev.bind (frags_ev a0 (by omega)) ?_
  rw [← hl]
  have := l0_ev a0 a1 (frags l) (by omega) (fun f hf => ?_) s2 (covS l a1) ?_ (frags l) [] [] rfl hfin
  · simpa using this
  · obtain ⟨q1, q2, q3⟩ := s1 f hf
    have e := q3 f.Begin (sle_refl _) q1
    exact ⟨q1, q2, by rw [e]; exact covS_pw _ _, by rw [e]; exact Nat.lt_of_le_of_lt (hcl _) (by omega)⟩
  · refine Ev.succ ?_
    have hd : decide (((frags l).length : Int) < ((frags l).length : Int)) = false := decide_eq_false (by omega)
    simp only [l09_TombPieces.l0, hd, Bool.false_eq_true, if_false, Jn]
    have hmem : ∀ n, n ∈ covS l a1 ↔ ∃ t ∈ a0, (okT t && onKey a1 t) = true ∧ t.Seq = n := fun n => by
      rw [mem_covS, hl]
      constructor
      · rintro ⟨t, ht, h1, h2⟩
        rw [List.mem_filter] at ht
        exact ⟨t, ht.1, by simp [ht.2, h1], h2⟩
      · rintro ⟨t, ht, h1, h2⟩
        rw [Bool.and_eq_true] at h1
        exact ⟨t, List.mem_filter.2 ⟨ht, h1.1⟩, h1.2, h2⟩
    refine l4_ev a0 a1 (covS l a1) (Nat.lt_of_le_of_lt (hcl _) (by omega)) (by omega) (fun t ht h => (hmem _).2 ⟨t, ht, h, rfl⟩) a0 [] rfl _ ?_
    refine l2_ev a0 a1 (covS l a1) (Nat.lt_of_le_of_lt (hcl _) (by omega)) (by omega) (fun n hn => (hmem n).1 hn) (covS l a1) [] rfl _ ?_
    refine Ev.bind (cover_ev a1 72057594037927935 a0 (by omega)) ?_
    obtain ⟨c1, c2⟩ := covers_covS (l := a0) (key := a1) (n := 72057594037927935) hmax
    rw [← hl] at c1 c2
    have h0 : decide ((0 : Int) < ((covS l a1).length : Int)) = decide (0 < (covS l a1).length) := decide_eq_decide.2 (by omega)
    rw [c1, h0]
    by_cases hne : covS l a1 = []
    · simp only [hne, List.length_nil, Nat.lt_irrefl, decide_false, beq_self_eq_true, if_true, Bool.not_false]
      exact Ev.ret
    · have hp : decide (0 < (covS l a1).length) = true := decide_eq_true (List.length_pos_iff.2 hne)
      have hi : idx (covS l a1) 0 = some (covers a1 72057594037927935 a0 (0, false)).1 := by
        have := idx_nat (covS l a1) 0
        rw [show ((0 : Nat) : Int) = 0 from rfl] at this
        rw [this, c2 hne]
      simp only [hp, beq_self_eq_true, if_true, Bool.not_true, Bool.false_eq_true, if_false, hi, Option.bind_some]
      exact Ev.ret
end Go.Proofs.Ytmbhgfigffahbaa.Mo.tombPieces
