import Derived.Test.YtckjpkecipgeiaaPkTw
import Derived.Test.YtckjpkecipgeiaaSyEv
set_option linter.unusedVariables false
set_option linter.unusedSimpArgs false
set_option maxRecDepth 100000
namespace Go.Proofs.Ytckjpkecipgeiaa.Mo
open Go Go.Proofs.Ytckjpkecipgeiaa.Sy
theorem eqb_iff {x y : File} : File.eqb x y = true ↔ x = y := by
  cases x; cases y
  simp [File.eqb, sEq_iff]
theorem eqb_refl (x : File) : File.eqb x x = true := eqb_iff.2 rfl
def mayB (f : File) : Bool := (version_may f).getD false
theorem may_eq (f : File) : version_may f = some (mayB f) := rfl
def ovB (f : File) (a b : ByteArray) : Bool := (version_overlaps f a b).getD false
theorem ov_eq (f : File) (a b : ByteArray) : version_overlaps f a b = some (ovB f a b) := rfl
def bad (i : Nat) (q f : File) : Bool := if i = 0 then decide (f.Number ≤ q.Number) else !(sLt q.Limit f.Least || sEq q.Limit f.Least)
def badO (i : Nat) (pv : Option File) (f : File) : Bool := match pv with
  | none => false
  | some q => bad i q f
def goF (i : Nat) : Option File → List Int → List File → Option (List Int)
  | _, seen, [] => some seen
  | pv, seen, f :: r => if !mayB f || decide (f.Number ∈ seen) then none else if badO i pv f = true then none else goF i (some f) (f.Number :: seen) r
def goL : Nat → List Int → List (List File) → Bool
  | _, _, [] => true
  | i, seen, fs :: r => match goF i none seen fs with
    | none => false
    | some s => goL (i + 1) s r
def validB (l : List (List File)) : Bool := decide (1 ≤ l.length) && decide (l.length ≤ 7) && goL 0 [] l
def goodF (f : File) : Prop := wfi .i64 f.Number = true
def goodL (l : List (List File)) : Prop := (∀ y ∈ l, y.length ≤ 2199023255552 ∧ ∀ f ∈ y, goodF f) ∧ l.length ≤ 9223372036854775806
def inv (lm : List (Int × Int)) (seen : List Int) : Prop := (∀ y, mget lm y = if y ∈ seen then 1 else 0) ∧ lm.length = seen.length
theorem goF_len {i : Nat} : ∀ {s : List File} {pv : Option File} {seen r : List Int}, goF i pv seen s = some r → r.length = seen.length + s.length
  | [], _, _, _, h => by simp [goF] at h; subst h; simp
  | f :: s, pv, seen, r, h => by
    simp only [goF] at h
    split at h
    · cases h
    · split at h
      · cases h
      · have := goF_len h
        simp at this ⊢
        omega
theorem last_snoc {α : Type} (p : List α) (x : α) : (p ++ [x]).getLast? = some x := by simp
theorem valid_l1 (i : Nat) (x : List File) (hx : x.length ≤ 2199023255552) (hg : ∀ f ∈ x, goodF f) : ∀ (s p : List File) (seen : List Int) (lm : List (Int × Int)), x = p ++ s → inv lm seen → seen.length + s.length ≤ 20000000000000 →
    (goF i p.getLast? seen s = none → ∀ J : Nat → List (Int × Int) → Option Bool, Ev (fun k => version_Valid.l1 i (J k) x k lm p.length) false) ∧
    (∀ seen', goF i p.getLast? seen s = some seen' → ∀ (J : Nat → List (Int × Int) → Option Bool) r, (∀ lm', inv lm' seen' → Ev (fun k => J k lm') r) → Ev (fun k => version_Valid.l1 i (J k) x k lm p.length) r) := by
  intro s
  induction s with
  | nil =>
    intro p seen lm hp hi hb
    subst hp
    refine ⟨fun h => by simp [goF] at h, fun seen' h J r hJ => Ev.succ ?_⟩
    simp only [goF, Option.some.injEq] at h
    subst h
    simp only [version_Valid.l1, lt_end, Bool.false_eq_true, if_false]
    exact (hJ lm hi).shift
  | cons f s ih =>
    intro p seen lm hp hi hb
    have hml : (p ++ f :: s).length ≤ maxLen := by rw [← hp, maxLen_val]; omega
    have hbl : (x.length : Int) ≤ 2199023255552 := by omega
    have hwf : wfi .i64 f.Number = true := hg f (by rw [hp]; simp)
    have hmem := hi.1 f.Number
    have hput : ∀ v : Int, v = 1 ∨ v = 2 → mput .i64 lm f.Number v = some ((f.Number, v) :: lm) := by
      intro v hv
      have h1 : wfi .i64 v = true := by rcases hv with rfl | rfl <;> decide
      simp only [mput, h1, true_and]
      rw [if_pos]
      rw [hi.2, maxLen_val]
      simp at hb
      omega
    have hv : w64 (mget lm f.Number + 1) = if f.Number ∈ seen then 2 else 1 := by
      rw [hmem]; split <;> decide
    have e1 : (decide ((p.length : Int) < (x.length : Int))) = true := by rw [hp]; exact lt_at p s f
    have e2 : idx x (p.length : Int) = some f := by rw [hp]; exact idx_at p f s
    by_cases hbad : (!mayB f || decide (f.Number ∈ seen)) = true
    · refine ⟨fun _ J => Ev.succ ?_, fun seen' h => by simp only [goF, hbad, if_true] at h; cases h⟩
      simp only [version_Valid.l1, e1, e2, if_true, Option.bind_some, hwf, Jn]
      rw [hput _ (by rw [hv]; split <;> simp), hv]
      simp only [Option.bind_some, may_eq, mget, if_true]
      have : (!mayB f || decide ((1 : Int) < if f.Number ∈ seen then 2 else 1)) = true := by
        rcases (Bool.or_eq_true _ _).mp hbad with h | h
        · simp [h]
        · simp at h; simp [h]
      simp only [this, if_true]
      exact Ev.ret
    · have hns : f.Number ∉ seen := fun h => hbad (by simp [h])
      have hm : mayB f = true := by
        cases h : mayB f with
        | true => rfl
        | false => exact absurd (by simp [h]) hbad
      have hi' : inv ((f.Number, 1) :: lm) (f.Number :: seen) := by
        refine ⟨fun y => ?_, by simp [hi.2]⟩
        simp only [mget]
        by_cases hy : f.Number = y
        · simp [hy]
        · have hy' : y ≠ f.Number := fun e => hy e.symm
          simp [hy, hy', hi.1 y]
      have head : ∀ (J : Nat → List (Int × Int) → Option Bool) r, Ev (fun k => if ((p.length : Int) == 0) = true then version_Valid.l1 i (J (k + 1)) x k ((f.Number, 1) :: lm) (w64 ((p.length : Int) + 1)) else
          if ((i : Int) == 0) = true then (idx x (w64 ((p.length : Int) - 1))).bind fun q => if (decide (f.Number ≤ q.Number)) = true then some false else version_Valid.l1 i (J (k + 1)) x k ((f.Number, 1) :: lm) (w64 ((p.length : Int) + 1))
          else (idx x (w64 ((p.length : Int) - 1))).bind fun q => if (!(sLt q.Limit f.Least || sEq q.Limit f.Least)) = true then some false else version_Valid.l1 i (J (k + 1)) x k ((f.Number, 1) :: lm) (w64 ((p.length : Int) + 1))) r → Ev (fun k => version_Valid.l1 i (J k) x k lm (p.length : Int)) r := by
        intro J r h
        refine Ev.succ (Ev.congr (fun k => ?_) h)
        simp only [version_Valid.l1, e1, e2, if_true, Option.bind_some, hwf, Jn]
        rw [hput _ (by rw [hv]; split <;> simp), hv]
        simp only [Option.bind_some, may_eq, mget, if_true, hns, if_false, hm]
        simp
      have ihs := ih (p ++ [f]) (f.Number :: seen) ((f.Number, 1) :: lm) (by simp [hp]) hi' (by simp at hb ⊢; omega)
      rw [last_snoc] at ihs
      have hstep := step_at p s f hml
      rcases nil_or_snoc p with rfl | ⟨p0, q, rfl⟩
      · have e : goF i ([] : List File).getLast? seen (f :: s) = goF i (some f) (f.Number :: seen) s := by
          simp only [goF, List.getLast?_nil]
          rw [if_neg hbad]
          simp [badO]
        rw [e]
        simp only [hstep, List.length_nil, Int.natCast_zero, beq_self_eq_true, if_true] at head
        refine ⟨fun h J => head J _ (ihs.1 h fun k => J (k + 1)), fun seen' h J r hJ => head J _ (ihs.2 seen' h (fun k => J (k + 1)) r fun lm' h' => (hJ lm' h').shift)⟩
      · have e : goF i (p0 ++ [q]).getLast? seen (f :: s) = if bad i q f = true then none else goF i (some f) (f.Number :: seen) s := by
          rw [last_snoc]
          simp only [goF, badO]
          rw [if_neg hbad]
          rfl
        rw [e]
        have hz : (((p0 ++ [q]).length : Int) == 0) = false := by simp; omega
        have hbk : w64 (((p0 ++ [q]).length : Int) - 1) = (p0.length : Int) := back_at p0 s q f hml
        have hq : idx x (p0.length : Int) = some q := by
          have := idx_at p0 q (f :: s)
          rw [hp]
          simpa using this
        simp only [hz, hbk, hq, hstep, Option.bind_some, Bool.false_eq_true, if_false] at head
        have hsel : ∀ (A B : Option Bool), (if ((i : Int) == 0) = true then if decide (f.Number ≤ q.Number) = true then A else B else if (!(sLt q.Limit f.Least || sEq q.Limit f.Least)) = true then A else B) = if bad i q f = true then A else B := by
          intro A B
          unfold bad
          by_cases h0 : i = 0
          · subst h0; simp
          · have : ((i : Int) == 0) = false := by simp; omega
            rw [this]; simp [h0]
        simp only [hsel] at head
        refine ⟨fun h J => head J _ ?_, fun seen' h J r hJ => head J _ ?_⟩
        · by_cases hb9 : bad i q f = true
          · exact Ev.pos hb9 Ev.ret
          · rw [if_neg hb9] at h
            exact Ev.neg hb9 (ihs.1 h fun k => J (k + 1))
        · by_cases hb9 : bad i q f = true
          · rw [if_pos hb9] at h; cases h
          · rw [if_neg hb9] at h
            exact Ev.neg hb9 (ihs.2 seen' h (fun k => J (k + 1)) r fun lm' h' => (hJ lm' h').shift)
theorem valid_l0 (l : List (List File)) (hg : goodL l) (h7 : l.length ≤ 7) : ∀ (s p : List (List File)) (seen : List Int) (lm : List (Int × Int)), l = p ++ s → inv lm seen → seen.length + s.length * 2199023255552 ≤ 16000000000000 →
    Ev (fun k => version_Valid.l0 l k lm p.length) (goL p.length seen s) := by
  intro s
  induction s with
  | nil =>
    intro p seen lm hp hi hb
    subst hp
    refine Ev.succ ?_
    simp only [version_Valid.l0, lt_end, Bool.false_eq_true, if_false]
    exact Ev.ret
  | cons fs s ih =>
    intro p seen lm hp hi hb
    have hml : (p ++ fs :: s).length ≤ maxLen := by rw [← hp, maxLen_val]; omega
    have e1 : (decide ((p.length : Int) < (l.length : Int))) = true := by rw [hp]; exact lt_at p s fs
    have e2 : idx l (p.length : Int) = some fs := by rw [hp]; exact idx_at p fs s
    have hfs := hg.1 fs (by rw [hp]; simp)
    refine Ev.succ ?_
    simp only [version_Valid.l0, e1, e2, if_true, Option.bind_some, Jn, step_at p s fs hml]
    have hbn : seen.length + fs.length ≤ 20000000000000 := by
      simp at hb; omega
    obtain ⟨h1, h2⟩ := valid_l1 p.length fs hfs.1 hfs.2 fs [] seen lm (by simp) hi hbn
    simp only [List.getLast?_nil, List.length_nil, Int.natCast_zero] at h1 h2
    simp only [goL]
    cases hgo : goF p.length none seen fs with
    | none =>
      exact h1 hgo (fun k l_258 => version_Valid.l0 l k l_258 ((p ++ [fs]).length : Int))
    | some seen' =>
      refine h2 seen' hgo (fun k l_258 => version_Valid.l0 l k l_258 ((p ++ [fs]).length : Int)) _ fun lm' hi' => ?_
      have := ih (p ++ [fs]) seen' lm' (by simp [hp]) hi' (by
        have := goF_len hgo
        simp at hb ⊢
        have h3 := hfs.1
        omega)
      simpa using this
theorem valid_ev (l : List (List File)) (hg : goodL l) : Ev (fun k => version_Valid k l) (validB l) := by
  unfold validB version_Valid
  by_cases h1 : 1 ≤ l.length
  · by_cases h7 : l.length ≤ 7
    · have e : ((decide ((l.length : Int) < 1)) || (decide (7 < (l.length : Int)))) = false := by
        simp; omega
      simp only [e, Bool.false_eq_true, if_false, h1, h7, decide_true, Bool.true_and]
      have := valid_l0 l hg h7 l [] [] [] (by simp) ⟨fun y => by simp [mget], rfl⟩ (by simp; omega)
      simpa using this
    · have e : ((decide ((l.length : Int) < 1)) || (decide (7 < (l.length : Int)))) = true := by
        simp; omega
      simp only [e, if_true, h7, decide_false, Bool.and_false, Bool.false_and]
      exact Ev.ret
  · have e : ((decide ((l.length : Int) < 1)) || (decide (7 < (l.length : Int)))) = true := by
      simp; omega
    simp only [e, if_true, h1, decide_false, Bool.false_and]
    exact Ev.ret
end Go.Proofs.Ytckjpkecipgeiaa.Mo
