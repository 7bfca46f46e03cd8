import Derived.Test.YtbbepmmelpabbaaVerTw
import Derived.Test.YtbbepmmelpabbaaSyEv
import Derived.Test.YtbbepmmelpabbaaSySt
import Derived.Test.YtbbepmmelpabbaaPqID
import Derived.KernelRfl
import Derived.Test.YtbbepmmelpabbaaVvSt
import Derived.Test.YtbbepmmelpabbaaSyUq
set_option linter.unusedVariables false
set_option linter.unusedSectionVars false
set_option linter.unusedSimpArgs false
/- The functions of versions and files, in plain words. -/
set_option maxRecDepth 100000
namespace Go.Proofs.Ytbbepmmelpabbaa.Mo
open Go Go.Proofs.Ytbbepmmelpabbaa.Sy

theorem eqb_iff {x y : File} : File.eqb x y = true ↔ x = y := by
  cases x; cases y
  simp [File.eqb, sEq_iff]
theorem eqb_refl (x : File) : File.eqb x x = true := eqb_iff.2 rfl
theorem eqb_dec (x y : File) [Decidable (x = y)] : File.eqb x y = decide (x = y) := by
  by_cases h : x = y
  · simp [h, eqb_refl]
  · simp only [h, decide_false]
    cases e : File.eqb x y with
    | true => exact absurd (eqb_iff.1 e) h
    | false => rfl

def mayB (f : File) : Bool := (version_may f).getD false
theorem may_eq (f : File) : version_may f = some (mayB f) := rfl
theorem may_eq' (f : File) : r16_May f = some (mayB f) := by
  simp only [r16_May, mayB, version_may, Option.getD_some]
  congr 1
  ac_rfl
def ovB (f : File) (a b : ByteArray) : Bool := (version_overlaps f a b).getD false
theorem ov_eq (f : File) (a b : ByteArray) : version_overlaps f a b = some (ovB f a b) := rfl
theorem ov_eq' (f : File) (a b : ByteArray) : r16_Overlaps f a b = some (ovB f a b) := rfl

/-! ### Valid -/
def bad (i : Nat) (q f : File) : Bool := if i = 0 then decide (f.Number ≤ q.Number) else !(sLt q.Limit f.Least || sEq q.Limit f.Least)
def badO (i : Nat) (pv : Option File) (f : File) : Bool := match pv with
  | none => false
  | some q => bad i q f
def goF (i : Nat) : Option File → List Int → List File → Option (List Int)
  | _, seen, [] => some seen
  | pv, seen, f :: r => if !mayB f || decide (f.Number ∈ seen) then none else if badO i pv f = true then none else goF i (some f) (f.Number :: seen) r
def goL : Nat → List Int → List (List File) → Bool
  | _, _, [] => true
  | i, seen, fs :: r => match goF i none seen fs with
    | none => false
    | some s => goL (i + 1) s r
def validB (l : List (List File)) : Bool := decide (1 ≤ l.length) && decide (l.length ≤ 7) && goL 0 [] l

def goodF (f : File) : Prop := wfi .i64 f.Number = true
def goodL (l : List (List File)) : Prop := (∀ y ∈ l, y.length ≤ 2199023255552 ∧ ∀ f ∈ y, goodF f) ∧ l.length ≤ 9223372036854775806
def inv (lm : List (Int × Int)) (seen : List Int) : Prop := (∀ y, mget lm y = if y ∈ seen then 1 else 0) ∧ lm.length = seen.length

theorem goF_len {i : Nat} : ∀ {s : List File} {pv : Option File} {seen r : List Int}, goF i pv seen s = some r → r.length = seen.length + s.length
  | [], _, _, _, h => by simp [goF] at h; subst h; simp
  | f :: s, pv, seen, r, h => by
    simp only [goF] at h
    split at h
    · cases h
    · split at h
      · cases h
      · have := goF_len h
        simp at this ⊢
        omega

theorem last_snoc {α : Type} (p : List α) (x : α) : (p ++ [x]).getLast? = some x := by simp

theorem valid_l1 (i : Nat) (x : List File) (hx : x.length ≤ 2199023255552) (hg : ∀ f ∈ x, goodF f) : ∀ (s p : List File) (seen : List Int) (lm : List (Int × Int)), x = p ++ s → inv lm seen → seen.length + s.length ≤ 20000000000000 →
    (goF i p.getLast? seen s = none → ∀ J : Nat → List (Int × Int) → Option Bool, Ev (fun k => version_Valid.l1 i (J k) x k lm p.length) false) ∧
    (∀ seen', goF i p.getLast? seen s = some seen' → ∀ (J : Nat → List (Int × Int) → Option Bool) r, (∀ lm', inv lm' seen' → Ev (fun k => J k lm') r) → Ev (fun k => version_Valid.l1 i (J k) x k lm p.length) r) := by
  intro s
  induction s with
  | nil =>
    intro p seen lm hp hi hb
    subst hp
    refine ⟨fun h => by simp [goF] at h, fun seen' h J r hJ => Ev.succ ?_⟩
    simp only [goF, Option.some.injEq] at h
    subst h
    simp only [version_Valid.l1, lt_end, Bool.false_eq_true, if_false]
    exact (hJ lm hi).shift
  | cons f s ih =>
    intro p seen lm hp hi hb
    have hml : (p ++ f :: s).length ≤ maxLen := by rw [← hp, maxLen_val]; omega
    have hbl : (x.length : Int) ≤ 2199023255552 := by omega
    have hwf : wfi .i64 f.Number = true := hg f (by rw [hp]; simp)
    have hmem := hi.1 f.Number
    have hput : ∀ v : Int, v = 1 ∨ v = 2 → mput .i64 lm f.Number v = some ((f.Number, v) :: lm) := by
      intro v hv
      have h1 : wfi .i64 v = true := by rcases hv with rfl | rfl <;> decide
      simp only [mput, h1, true_and]
      rw [if_pos]
      rw [hi.2, maxLen_val]
      simp at hb
      omega
    have hv : w64 (mget lm f.Number + 1) = if f.Number ∈ seen then 2 else 1 := by
      rw [hmem]; split <;> decide
    have e1 : (decide ((p.length : Int) < (x.length : Int))) = true := by rw [hp]; exact lt_at p s f
    have e2 : idx x (p.length : Int) = some f := by rw [hp]; exact idx_at p f s
    by_cases hbad : (!mayB f || decide (f.Number ∈ seen)) = true
    · refine ⟨fun _ J => Ev.succ ?_, fun seen' h => by simp only [goF, hbad, if_true] at h; cases h⟩
      simp only [version_Valid.l1, e1, e2, if_true, Option.bind_some, hwf, Jn]
      rw [hput _ (by rw [hv]; split <;> simp), hv]
      simp only [Option.bind_some, may_eq, mget, if_true]
      have : (!mayB f || decide ((1 : Int) < if f.Number ∈ seen then 2 else 1)) = true := by
        rcases (Bool.or_eq_true _ _).mp hbad with h | h
        · simp [h]
        · simp at h; simp [h]
      simp only [this, if_true]
      exact Ev.ret
    · have hns : f.Number ∉ seen := fun h => hbad (by simp [h])
      have hm : mayB f = true := by
        cases h : mayB f with
        | true => rfl
        | false => exact absurd (by simp [h]) hbad
      have hi' : inv ((f.Number, 1) :: lm) (f.Number :: seen) := by
        refine ⟨fun y => ?_, by simp [hi.2]⟩
        simp only [mget]
        by_cases hy : f.Number = y
        · simp [hy]
        · have hy' : y ≠ f.Number := fun e => hy e.symm
          simp [hy, hy', hi.1 y]
      have head : ∀ (J : Nat → List (Int × Int) → Option Bool) r, Ev (fun k => if ((p.length : Int) == 0) = true then version_Valid.l1 i (J (k + 1)) x k ((f.Number, 1) :: lm) (w64 ((p.length : Int) + 1)) else
          if ((i : Int) == 0) = true then (idx x (w64 ((p.length : Int) - 1))).bind fun q => if (decide (f.Number ≤ q.Number)) = true then some false else version_Valid.l1 i (J (k + 1)) x k ((f.Number, 1) :: lm) (w64 ((p.length : Int) + 1))
          else (idx x (w64 ((p.length : Int) - 1))).bind fun q => if (!(sLt q.Limit f.Least || sEq q.Limit f.Least)) = true then some false else version_Valid.l1 i (J (k + 1)) x k ((f.Number, 1) :: lm) (w64 ((p.length : Int) + 1))) r → Ev (fun k => version_Valid.l1 i (J k) x k lm (p.length : Int)) r := by
        intro J r h
        refine Ev.succ (Ev.congr (fun k => ?_) h)
        simp only [version_Valid.l1, e1, e2, if_true, Option.bind_some, hwf, Jn]
        rw [hput _ (by rw [hv]; split <;> simp), hv]
        simp only [Option.bind_some, may_eq, mget, if_true, hns, if_false, hm]
        simp
      have ihs := ih (p ++ [f]) (f.Number :: seen) ((f.Number, 1) :: lm) (by simp [hp]) hi' (by simp at hb ⊢; omega)
      rw [last_snoc] at ihs
      have hstep := step_at p s f hml
      rcases nil_or_snoc p with rfl | ⟨p0, q, rfl⟩
      · have e : goF i ([] : List File).getLast? seen (f :: s) = goF i (some f) (f.Number :: seen) s := by
          simp only [goF, List.getLast?_nil]
          rw [if_neg hbad]
          simp [badO]
        rw [e]
        simp only [hstep, List.length_nil, Int.natCast_zero, beq_self_eq_true, if_true] at head
        refine ⟨fun h J => head J _ (ihs.1 h fun k => J (k + 1)), fun seen' h J r hJ => head J _ (ihs.2 seen' h (fun k => J (k + 1)) r fun lm' h' => (hJ lm' h').shift)⟩
      · have e : goF i (p0 ++ [q]).getLast? seen (f :: s) = if bad i q f = true then none else goF i (some f) (f.Number :: seen) s := by
          rw [last_snoc]
          simp only [goF, badO]
          rw [if_neg hbad]
          rfl
        rw [e]
        have hz : (((p0 ++ [q]).length : Int) == 0) = false := by simp; omega
        have hbk : w64 (((p0 ++ [q]).length : Int) - 1) = (p0.length : Int) := back_at p0 s q f hml
        have hq : idx x (p0.length : Int) = some q := by
          have := idx_at p0 q (f :: s)
          rw [hp]
          simpa using this
        simp only [hz, hbk, hq, hstep, Option.bind_some, Bool.false_eq_true, if_false] at head
        have hsel : ∀ (A B : Option Bool), (if ((i : Int) == 0) = true then if decide (f.Number ≤ q.Number) = true then A else B else if (!(sLt q.Limit f.Least || sEq q.Limit f.Least)) = true then A else B) = if bad i q f = true then A else B := by
          intro A B
          unfold bad
          by_cases h0 : i = 0
          · subst h0; simp
          · have : ((i : Int) == 0) = false := by simp; omega
            rw [this]; simp [h0]
        simp only [hsel] at head
        refine ⟨fun h J => head J _ ?_, fun seen' h J r hJ => head J _ ?_⟩
        · by_cases hb9 : bad i q f = true
          · exact Ev.pos hb9 Ev.ret
          · rw [if_neg hb9] at h
            exact Ev.neg hb9 (ihs.1 h fun k => J (k + 1))
        · by_cases hb9 : bad i q f = true
          · rw [if_pos hb9] at h; cases h
          · rw [if_neg hb9] at h
            exact Ev.neg hb9 (ihs.2 seen' h (fun k => J (k + 1)) r fun lm' h' => (hJ lm' h').shift)

theorem valid_l0 (l : List (List File)) (hg : goodL l) (h7 : l.length ≤ 7) : ∀ (s p : List (List File)) (seen : List Int) (lm : List (Int × Int)), l = p ++ s → inv lm seen → seen.length + s.length * 2199023255552 ≤ 16000000000000 →
    Ev (fun k => version_Valid.l0 l k lm p.length) (goL p.length seen s) := by
  intro s
  induction s with
  | nil =>
    intro p seen lm hp hi hb
    subst hp
    refine Ev.succ ?_
    simp only [version_Valid.l0, lt_end, Bool.false_eq_true, if_false]
    exact Ev.ret
  | cons fs s ih =>
    intro p seen lm hp hi hb
    have hml : (p ++ fs :: s).length ≤ maxLen := by rw [← hp, maxLen_val]; omega
    have e1 : (decide ((p.length : Int) < (l.length : Int))) = true := by rw [hp]; exact lt_at p s fs
    have e2 : idx l (p.length : Int) = some fs := by rw [hp]; exact idx_at p fs s
    have hfs := hg.1 fs (by rw [hp]; simp)
    refine Ev.succ ?_
    simp only [version_Valid.l0, e1, e2, if_true, Option.bind_some, Jn, step_at p s fs hml]
    have hbn : seen.length + fs.length ≤ 20000000000000 := by
      simp at hb; omega
    obtain ⟨h1, h2⟩ := valid_l1 p.length fs hfs.1 hfs.2 fs [] seen lm (by simp) hi hbn
    simp only [List.getLast?_nil, List.length_nil, Int.natCast_zero] at h1 h2
    simp only [goL]
    cases hgo : goF p.length none seen fs with
    | none =>
      exact h1 hgo (fun k l_258 => version_Valid.l0 l k l_258 ((p ++ [fs]).length : Int))
    | some seen' =>
      refine h2 seen' hgo (fun k l_258 => version_Valid.l0 l k l_258 ((p ++ [fs]).length : Int)) _ fun lm' hi' => ?_
      have := ih (p ++ [fs]) seen' lm' (by simp [hp]) hi' (by
        have := goF_len hgo
        simp at hb ⊢
        have h3 := hfs.1
        omega)
      simpa using this

theorem valid_ev (l : List (List File)) (hg : goodL l) : Ev (fun k => version_Valid k l) (validB l) := by
  unfold validB version_Valid
  by_cases h1 : 1 ≤ l.length
  · by_cases h7 : l.length ≤ 7
    · have e : ((decide ((l.length : Int) < 1)) || (decide (7 < (l.length : Int)))) = false := by
        simp; omega
      simp only [e, Bool.false_eq_true, if_false, h1, h7, decide_true, Bool.true_and]
      have := valid_l0 l hg h7 l [] [] [] (by simp) ⟨fun y => by simp [mget], rfl⟩ (by simp; omega)
      simpa using this
    · have e : ((decide ((l.length : Int) < 1)) || (decide (7 < (l.length : Int)))) = true := by
        simp; omega
      simp only [e, if_true, h7, decide_false, Bool.and_false, Bool.false_and]
      exact Ev.ret
  · have e : ((decide ((l.length : Int) < 1)) || (decide (7 < (l.length : Int)))) = true := by
      simp; omega
    simp only [e, if_true, h1, decide_false, Bool.false_and]
    exact Ev.ret
end Go.Proofs.Ytbbepmmelpabbaa.Mo

/- What valid levels are; the other functions of versions, in plain words. -/
set_option maxRecDepth 100000
namespace Go.Proofs.Ytbbepmmelpabbaa.Mo
open Go Go.Proofs.Ytbbepmmelpabbaa.Sy

def okF (i : Nat) : Option File → List File → Bool
  | _, [] => true
  | pv, f :: r => mayB f && (!badO i pv f && okF i (some f) r)
def okL : Nat → List (List File) → Bool
  | _, [] => true
  | i, fs :: r => okF i none fs && okL (i + 1) r
def nums (fs : List File) : List Int := fs.map (·.Number)

theorem goF_eq (i : Nat) : ∀ (s : List File) (pv : Option File) (seen : List Int), goF i pv seen s = if okF i pv s = true ∧ (nums s).Nodup ∧ (∀ x ∈ nums s, x ∉ seen) then some ((nums s).reverse ++ seen) else none
  | [], pv, seen => by simp [goF, okF, nums]
  | f :: s, pv, seen => by
    simp only [goF]
    rw [goF_eq i s (some f) (f.Number :: seen)]
    by_cases h1 : mayB f = true
    · by_cases h2 : f.Number ∈ seen
      · rw [if_pos (by simp [h2])]
        rw [if_neg]
        rintro ⟨_, _, h⟩
        exact h f.Number (by simp [nums]) h2
      · rw [if_neg (by simp [h1, h2])]
        by_cases h3 : badO i pv f = true
        · rw [if_pos h3, if_neg]
          rintro ⟨h, _⟩
          simp [okF, h3] at h
        · rw [if_neg h3]
          have e : (okF i (some f) s = true ∧ (nums s).Nodup ∧ (∀ x ∈ nums s, x ∉ f.Number :: seen)) ↔ (okF i pv (f :: s) = true ∧ (nums (f :: s)).Nodup ∧ (∀ x ∈ nums (f :: s), x ∉ seen)) := by
            have h3' : badO i pv f = false := by simpa using h3
            have ho : okF i pv (f :: s) = okF i (some f) s := by simp [okF, h1, h3']
            rw [ho]
            constructor
            · rintro ⟨a, b, c⟩
              refine ⟨a, List.nodup_cons.2 ⟨fun hm => (c _ hm) (List.mem_cons_self ..), b⟩, ?_⟩
              intro x hx
              rcases List.mem_cons.1 hx with rfl | hx
              · exact h2
              · exact fun hs => c x hx (List.mem_cons_of_mem _ hs)
            · rintro ⟨a, bc, d⟩
              obtain ⟨b, c⟩ := List.nodup_cons.1 bc
              refine ⟨a, c, fun x hx hs => ?_⟩
              rcases List.mem_cons.1 hs with rfl | hs
              · exact b hx
              · exact d x (List.mem_cons_of_mem _ hx) hs
          by_cases h4 : okF i (some f) s = true ∧ (nums s).Nodup ∧ (∀ x ∈ nums s, x ∉ f.Number :: seen)
          · rw [if_pos h4, if_pos (e.1 h4)]
            simp [nums]
          · rw [if_neg h4, if_neg (fun h => h4 (e.2 h))]
    · rw [if_pos (by simp [h1]), if_neg]
      rintro ⟨h, _⟩
      simp [okF, h1] at h

theorem goL_eq : ∀ (l : List (List File)) (i : Nat) (seen : List Int), goL i seen l = decide (okL i l = true ∧ (nums l.flatten).Nodup ∧ ∀ x ∈ nums l.flatten, x ∉ seen)
  | [], i, seen => by simp [goL, okL, nums]
  | fs :: r, i, seen => by
    simp only [goL]
    rw [goF_eq]
    by_cases h : okF i none fs = true ∧ (nums fs).Nodup ∧ (∀ x ∈ nums fs, x ∉ seen)
    · rw [if_pos h]
      show goL (i + 1) _ r = _
      rw [goL_eq r (i + 1)]
      apply decide_eq_decide.2
      simp only [okL, h.1, Bool.true_and, List.flatten_cons, nums, List.map_append, List.nodup_append, List.mem_append, List.mem_reverse]
      constructor
      · rintro ⟨a, b, c⟩
        refine ⟨a, ⟨h.2.1, b, fun x hx y hy e => c y hy (.inl (e ▸ hx))⟩, ?_⟩
        rintro x (hx | hx)
        · exact h.2.2 x hx
        · exact fun k => c x hx (.inr k)
      · rintro ⟨a, ⟨_, b, c⟩, d⟩
        refine ⟨a, b, fun x hx => ?_⟩
        rintro (k | k)
        · exact c x k x hx rfl
        · exact d x (.inr hx) k
    · rw [if_neg h]
      symm
      apply decide_eq_false
      rintro ⟨a, b, c⟩
      simp only [okL, Bool.and_eq_true] at a
      simp only [List.flatten_cons, nums, List.map_append, List.nodup_append, List.mem_append] at b c
      exact h ⟨a.1, b.1, fun x hx => c x (.inl hx)⟩

theorem validB_iff {l : List (List File)} : validB l = true ↔ 1 ≤ l.length ∧ l.length ≤ 7 ∧ okL 0 l = true ∧ (nums l.flatten).Nodup := by
  unfold validB
  rw [goL_eq]
  simp [and_assoc]

theorem okF_may {i : Nat} : ∀ {s : List File} {pv : Option File}, okF i pv s = true → ∀ f ∈ s, mayB f = true
  | [], _, _, f, hf => by simp at hf
  | x :: s, pv, h, f, hf => by
    simp only [okF, Bool.and_eq_true] at h
    rcases List.mem_cons.1 hf with rfl | hf
    · exact h.1
    · exact okF_may h.2.2 f hf
theorem okF_chain {i : Nat} : ∀ {s : List File} {pv : Option File}, okF i pv s = true → ∀ p a b r, s = p ++ a :: b :: r → bad i a b = false
  | [], _, _, p, a, b, r, h => by simp at h
  | x :: s, pv, h, [], a, b, r, e => by
    simp only [List.nil_append, List.cons.injEq] at e
    obtain ⟨rfl, rfl⟩ := e
    simp only [okF, badO, Bool.and_eq_true, Bool.not_eq_true'] at h
    exact h.2.2.2.1
  | x :: s, pv, h, y :: p, a, b, r, e => by
    simp only [List.cons_append, List.cons.injEq] at e
    simp only [okF, Bool.and_eq_true] at h
    exact okF_chain h.2.2 p a b r e.2
theorem okL_get : ∀ {l : List (List File)} {i j : Nat} {fs : List File}, okL i l = true → l[j]? = some fs → okF (i + j) none fs = true
  | [], i, j, fs, _, h => by simp at h
  | y :: l, i, 0, fs, h, hj => by
    simp at hj; subst hj
    simp only [okL, Bool.and_eq_true] at h
    exact h.1
  | y :: l, i, j + 1, fs, h, hj => by
    simp only [okL, Bool.and_eq_true] at h
    have := okL_get h.2 (by simpa using hj)
    rwa [show i + 1 + j = i + (j + 1) by omega] at this

theorem may_iff {f : File} : mayB f = true ↔ (1 ≤ f.Number ∧ f.Number ≤ 2147483647) ∧ (1 ≤ f.Size ∧ f.Size ≤ 268435456) ∧ (1 ≤ f.Least.size ∧ f.Least.size ≤ 1024) ∧ slt f.Least f.Limit ∧ f.Limit.size ≤ 1025 ∧ 1 ≤ f.Low ∧ f.Low ≤ f.High ∧ f.High ≤ 72057594037927935 := by
  simp only [mayB, version_may, Option.getD_some, Bool.and_eq_true, decide_eq_true_eq, sLt_iff]
  constructor
  · rintro ⟨⟨⟨⟨⟨⟨⟨⟨⟨⟨h1, h2⟩, h3⟩, h4⟩, h5⟩, h6⟩, h7⟩, h8⟩, h9⟩, h10⟩, h11⟩
    exact ⟨⟨h1, h2⟩, ⟨h3, h4⟩, ⟨by omega, by omega⟩, h7, by omega, h9, h10, h11⟩
  · rintro ⟨⟨h1, h2⟩, ⟨h3, h4⟩, ⟨h5, h6⟩, h7, h8, h9, h10, h11⟩
    exact ⟨⟨⟨⟨⟨⟨⟨⟨⟨⟨h1, h2⟩, h3⟩, h4⟩, by omega⟩, by omega⟩, h7⟩, by omega⟩, h9⟩, h10⟩, h11⟩

/-- Level 0: rising numbers: no more than there are numbers. -/
theorem okF_zero_len : ∀ {s : List File} {pv : Option File}, okF 0 pv s = true → ∀ q, pv = some q → 1 ≤ q.Number → q.Number + s.length ≤ 2147483647 ∨ s = []
  | [], _, _, _, _, _ => .inr rfl
  | x :: s, pv, h, q, hq, h1 => by
    subst hq
    simp only [okF, badO, bad, Bool.and_eq_true, Bool.not_eq_true', if_true, decide_eq_false_iff_not] at h
    have hm := may_iff.1 h.1
    rcases okF_zero_len h.2.2 x rfl hm.1.1 with h3 | rfl
    · left; simp; omega
    · left; simp; omega
theorem level0_len {s : List File} (h : okF 0 none s = true) : s.length ≤ 2147483647 := by
  cases s with
  | nil => simp
  | cons x s =>
    simp only [okF, Bool.and_eq_true] at h
    have hm := may_iff.1 h.1
    rcases okF_zero_len h.2.2 x rfl hm.1.1 with h3 | rfl
    · simp; omega
    · simp

/-! ### Levels and their files -/
def ofS (l : List (List File)) (i : Int) : List File := if ((!validB l || decide (i < 0)) || decide ((l.length : Int) ≤ i)) = true then [] else l.getD i.toNat []
theorem of_ev (l : List (List File)) (hg : goodL l) (i : Int) : Ev (fun k => version_of k l i) (ofS l i) := by
  unfold version_of ofS
  refine Ev.bind (valid_ev l hg) ?_
  by_cases h : ((!validB l || decide (i < 0)) || decide ((l.length : Int) ≤ i)) = true
  · simp only [if_pos h]; exact Ev.ret
  · simp only [if_neg h]
    simp only [Bool.or_eq_true, not_or, decide_eq_true_eq] at h
    obtain ⟨n, rfl⟩ : ∃ n : Nat, i = n := ⟨i.toNat, by omega⟩
    have hn : n < l.length := by omega
    refine Ev.bind0 (getD_idx hn) ?_
    simp [List.getD_eq_getElem?_getD, hn]
    exact Ev.ret
theorem ofS_len (l : List (List File)) (hg : goodL l) (i : Int) : (ofS l i).length ≤ 2199023255552 := by
  unfold ofS
  split
  · simp
  · rw [List.getD_eq_getElem?_getD]
    cases h : l[i.toNat]? with
    | none => simp
    | some y => exact (hg.1 y (List.mem_of_getElem? h)).1
theorem ofS_valid {l : List (List File)} {i : Nat} {fs : List File} (hv : validB l = true) (h : l[i]? = some fs) : ofS l i = fs := by
  unfold ofS
  have hi := (List.getElem?_eq_some_iff.1 h).1
  rw [if_neg (by simp [hv]; omega), List.getD_eq_getElem?_getD, Int.toNat_natCast, h]
  rfl

def sizeS (fs : List File) : Int := fs.foldl (fun n f => w64 (n + f.Size)) 0
theorem size_l0 (fs : List File) (hl : fs.length ≤ 2199023255552) : ∀ (s p : List File) (n : Int), fs = p ++ s → Ev (fun k => version_Size.l0 fs k n p.length) (s.foldl (fun n f => w64 (n + f.Size)) n) := by
  intro s
  induction s with
  | nil =>
    intro p n hp
    subst hp
    refine Ev.succ ?_
    simp only [version_Size.l0, lt_end, Bool.false_eq_true, if_false]
    exact Ev.ret
  | cons f s ih =>
    intro p n hp
    refine Ev.succ ?_
    subst hp
    simp only [version_Size.l0, lt_at, idx_at, if_true, Option.bind_some, step_at p s f (by rw [maxLen_val]; omega)]
    have := ih (p ++ [f]) (w64 (n + f.Size)) (by simp)
    simpa using this
theorem size_ev (l : List (List File)) (hg : goodL l) (i : Int) : Ev (fun k => version_Size k l i) (sizeS (ofS l i)) := by
  unfold version_Size
  refine Ev.bind (of_ev l hg i) ?_
  exact size_l0 (ofS l i) (ofS_len l hg i) (ofS l i) [] 0 (by simp)

def leastG (m : ByteArray) (r : List File) : ByteArray := r.foldl (fun m f => minS m f.Least) m
def limitG (m : ByteArray) (r : List File) : ByteArray := r.foldl (fun m f => maxS m f.Limit) m
def spanS : List File → ByteArray × ByteArray × Bool
  | [] => (ByteArray.mk #[], ByteArray.mk #[], false)
  | f :: r => (leastG f.Least r, limitG f.Limit r, true)
theorem minS_alt (a b : ByteArray) : (if sLt b a = true then b else a) = minS a b := by
  rcases minS_cases a b with ⟨h, e⟩ | ⟨h, e⟩ <;> rw [e]
  · rw [if_neg (by rw [sLt_iff]; exact h)]
  · rw [if_pos (sLt_iff.2 h)]
theorem maxS_alt (a b : ByteArray) : (if (!(sLt b a || sEq b a)) = true then b else a) = maxS a b := by
  rw [sLe_dec]
  rcases maxS_cases a b with ⟨h, e⟩ | ⟨h, e⟩ <;> rw [e]
  · rw [if_pos (by simp [sle, h])]
  · rw [if_neg (by simp [h])]
theorem span_l0 (fs : List File) (hl : fs.length ≤ 9223372036854775000) : ∀ (s p : List File) (a b : ByteArray), fs = p ++ s → p ≠ [] → Ev (fun k => version_Span.l0 fs k a b p.length) (leastG a s, limitG b s, true) := by
  intro s
  induction s with
  | nil =>
    intro p a b hp hne
    have : decide ((0 : Int) < (fs.length : Int)) = true := by
      rw [hp]
      cases p with
      | nil => exact absurd rfl hne
      | cons => simp
    subst hp
    refine Ev.succ ?_
    simp only [version_Span.l0, lt_end, Bool.false_eq_true, if_false, this]
    exact Ev.ret
  | cons f s ih =>
    intro p a b hp hne
    refine Ev.succ ?_
    subst hp
    have hz : ((p.length : Int) == 0) = false := by
      cases p with
      | nil => exact absurd rfl hne
      | cons => simp; omega
    simp only [version_Span.l0, lt_at, idx_at, if_true, Option.bind_some, step_at p s f (by rw [maxLen_val]; omega), hz, Bool.false_or, Jn]
    have key := ih (p ++ [f]) (minS a f.Least) (maxS b f.Limit) (by simp) (by simp)
    refine Ev.congr (fun k => ?_) key
    rw [← minS_alt, ← maxS_alt]
    split <;> split <;> rfl
theorem span_ev (fs : List File) (hl : fs.length ≤ 9223372036854775000) : Ev (fun k => version_Span k fs) (spanS fs) := by
  unfold version_Span
  cases fs with
  | nil =>
    refine Ev.succ ?_
    simp [version_Span.l0, spanS]
    exact Ev.ret
  | cons f s =>
    refine Ev.succ ?_
    have key := span_l0 (f :: s) hl s [f] f.Least f.Limit (by simp) (by simp)
    refine Ev.congr (fun k => ?_) key
    have e2 : idx (f :: s) 0 = some f := by simp [idx]
    have e3 : w64 (0 + 1) = 1 := by decide
    have e4 : w64 1 = 1 := by decide
    simp [version_Span.l0, e2, e4, Jn]

def overS (l : List (List File)) (i : Int) (a b : ByteArray) : List File := (ofS l i).filter fun f => ovB f a b
theorem over_l0 (a b : ByteArray) (fs : List File) (hl : fs.length ≤ 2199023255552) : ∀ (s p acc : List File), fs = p ++ s → acc.length ≤ p.length → Ev (fun k => version_Over.l0 a b fs k acc p.length) (acc ++ s.filter fun f => ovB f a b) := by
  intro s
  induction s with
  | nil =>
    intro p acc hp ha
    subst hp
    refine Ev.succ ?_
    simp only [version_Over.l0, lt_end, Bool.false_eq_true, if_false]
    simpa using Ev.ret
  | cons f s ih =>
    intro p acc hp ha
    refine Ev.succ ?_
    subst hp
    simp only [version_Over.l0, lt_at, idx_at, if_true, Option.bind_some, step_at p s f (by rw [maxLen_val]; omega), Jn, ov_eq]
    have hpl : acc.length < 3518437208730 := by simp at hl; omega
    by_cases h : ovB f a b = true
    · simp only [h, if_true, push_ok hpl, Option.bind_some]
      have := ih (p ++ [f]) (acc ++ [f]) (by simp) (by simp; omega)
      simpa [h] using this
    · simp only [h, if_false]
      have := ih (p ++ [f]) acc (by simp) (by simp; omega)
      simpa [h] using this
theorem over_ev (l : List (List File)) (hg : goodL l) (i : Int) (a b : ByteArray) : Ev (fun k => version_Over k l i a b) (overS l i a b) := by
  unfold version_Over
  refine Ev.bind (of_ev l hg i) ?_
  have := over_l0 a b (ofS l i) (ofS_len l hg i) (ofS l i) [] [] (by simp) (by simp)
  rw [List.nil_append] at this
  exact this
end Go.Proofs.Ytbbepmmelpabbaa.Mo

/- The document's answers for versions, in plain words: they are the program's. -/
set_option maxRecDepth 100000
namespace Go.Proofs.Ytbbepmmelpabbaa.Mo
open Go Go.Proofs.Ytbbepmmelpabbaa.Sy

theorem upd_at {α : Type} (p r : List α) (y z : α) : upd (p ++ y :: r) (p.length : Int) z = some (p ++ z :: r) := by
  unfold upd
  rw [if_pos (by simp; omega)]
  simp

/-! ### Numbers, sorted -/
def Rises : List Int → Prop := List.Pairwise (· ≤ ·)

theorem sorted_l1 : ∀ (n : Nat) (p q : List Int) (x : Int), p.length = n → Rises p → Rises q → (∀ y ∈ q, x < y) → (∀ a ∈ p, ∀ b ∈ q, a ≤ b) → (p ++ x :: q).length ≤ 9223372036854775000 →
    ∃ r, r.Perm (p ++ x :: q) ∧ Rises r ∧ ∀ (J : Nat → List Int → Option (List Int)) b, Ev (fun k => J k r) b → Ev (fun k => r16_sorted.l1 (J k) k (p ++ x :: q) p.length) b
  | 0, p, q, x, hn, hp, hq, hx, hpq, hl => by
    obtain rfl := List.eq_nil_of_length_eq_zero hn
    refine ⟨x :: q, List.Perm.refl _, List.pairwise_cons.2 ⟨fun y hy => Int.le_of_lt (hx y hy), hq⟩, fun J b hJ => Ev.succ ?_⟩
    have e : decide ((0 : Int) < (([] : List Int).length : Int)) = false := by decide
    simp only [r16_sorted.l1, Jn, e, Bool.false_eq_true, if_false]
    exact hJ.shift
  | n + 1, p, q, x, hn, hp, hq, hx, hpq, hl => by
    rcases nil_or_snoc p with rfl | ⟨p0, y, rfl⟩
    · simp at hn
    have hbk : w64 (((p0 ++ [y]).length : Int) - 1) = (p0.length : Int) := back_at p0 q y x (by rw [maxLen_val]; omega)
    have i1 : idx (p0 ++ [y] ++ x :: q) (p0.length : Int) = some y := by
      have := idx_at p0 y (x :: q)
      simpa using this
    have i2 : idx (p0 ++ [y] ++ x :: q) ((p0 ++ [y]).length : Int) = some x := idx_at (p0 ++ [y]) x q
    have e := pos_snoc p0 y
    obtain ⟨hp0, _, hpy⟩ := List.pairwise_append.1 hp
    by_cases h : x < y
    · obtain ⟨r, r1, r2, r3⟩ := sorted_l1 n p0 (y :: q) x (by simpa using hn) hp0
        (List.pairwise_cons.2 ⟨fun z hz => hpq y (by simp) z hz, hq⟩)
        (fun z hz => by
          rcases List.mem_cons.1 hz with rfl | hz
          · exact h
          · exact hx z hz)
        (fun a ha b hb => by
          rcases List.mem_cons.1 hb with rfl | hb
          · exact hpy a ha b (by simp)
          · exact hpq a (by simp [ha]) b hb) (by simp at hl ⊢; omega)
      refine ⟨r, r1.trans ?_, r2, fun J b hJ => Ev.succ ?_⟩
      · rw [List.append_assoc]
        exact List.Perm.append_left p0 (List.Perm.swap y x q)
      · have u1 : upd (p0 ++ [y] ++ x :: q) (p0.length : Int) x = some (p0 ++ [x] ++ x :: q) := by
          have := upd_at p0 (x :: q) y x
          simpa using this
        have i3 : idx (p0 ++ [x] ++ x :: q) ((p0 ++ [y]).length : Int) = some x := by
          have := idx_at (p0 ++ [x]) x q
          simpa using this
        have u2 : upd (p0 ++ [x] ++ x :: q) ((p0 ++ [y]).length : Int) y = some (p0 ++ x :: y :: q) := by
          have := upd_at (p0 ++ [x]) q x y
          simpa using this
        simp only [r16_sorted.l1, Jn, e, if_true, hbk, i1, i2, Option.bind_some, h, decide_true, u1, i3, u2]
        exact r3 (fun k => J (k + 1)) b hJ.shift
    · refine ⟨p0 ++ [y] ++ x :: q, List.Perm.refl _, ?_, fun J b hJ => Ev.succ ?_⟩
      · refine List.pairwise_append.2 ⟨hp, List.pairwise_cons.2 ⟨fun z hz => Int.le_of_lt (hx z hz), hq⟩, fun a ha b hb => ?_⟩
        rcases List.mem_cons.1 hb with rfl | hb
        · rcases List.mem_append.1 ha with ha | ha
          · have := hpy a ha y (by simp)
            omega
          · simp at ha; omega
        · exact hpq a ha b hb
      · simp only [r16_sorted.l1, Jn, e, if_true, hbk, i1, i2, Option.bind_some, h, decide_false, Bool.false_eq_true, if_false]
        exact hJ.shift

theorem sorted_l0 (l : List Int) (hl : l.length ≤ 20000000000000) : ∀ (s p acc : List Int), l = p ++ s → acc.Perm p → Rises acc → ∃ r, r.Perm (p ++ s) ∧ Rises r ∧ Ev (fun k => r16_sorted.l0 l k acc p.length) r
  | [], p, acc, hp, h1, h2 => by
    subst hp
    refine ⟨acc, by simpa using h1, h2, Ev.succ ?_⟩
    simp only [r16_sorted.l0, lt_end, Bool.false_eq_true, if_false]
    exact Ev.ret
  | x :: s, p, acc, hp, h1, h2 => by
    have hal : acc.length = p.length := h1.length_eq
    have hpl : p.length + 1 ≤ l.length := by rw [hp]; simp
    obtain ⟨r, r1, r2, r3⟩ := sorted_l1 acc.length acc [] x rfl h2 List.Pairwise.nil (by simp) (by simp) (by simp; omega)
    obtain ⟨r', k1, k2, k3⟩ := sorted_l0 l hl s (p ++ [x]) r (by simp [hp]) (r1.trans (by simpa using h1.append_right [x])) r2
    refine ⟨r', by simpa using k1, k2, Ev.succ ?_⟩
    have e1 : decide ((p.length : Int) < (l.length : Int)) = true := by rw [hp]; exact lt_at p s x
    have e2 : idx l (p.length : Int) = some x := by rw [hp]; exact idx_at p x s
    simp only [r16_sorted.l0, e1, e2, if_true, Option.bind_some, Jn, push_ok (show acc.length < 28147497670912 by omega), step_at p s x (by rw [← hp, maxLen_val]; omega)]
    exact r3 (fun k l_377 => r16_sorted.l0 l k l_377 ((p ++ [x]).length : Int)) r' k3
theorem sorted_ev (l : List Int) (hl : l.length ≤ 20000000000000) : ∃ r, r.Perm l ∧ Rises r ∧ Ev (fun k => r16_sorted k l) r := by
  have := sorted_l0 l hl l [] [] (by simp) (List.Perm.refl _) List.Pairwise.nil
  simpa [r16_sorted] using this

theorem idx_l {l : List (List File)} {p s : List (List File)} {fs : List File} (hp : l = p ++ fs :: s) : idx l (p.length : Int) = some fs := by rw [hp]; exact idx_at p fs s
theorem numbers_l1 (l p0 s0 : List (List File)) (fs : List File) (hp0 : l = p0 ++ fs :: s0) (hf : fs.length ≤ 2199023255552) : ∀ (s p : List File) (acc : List Int), fs = p ++ s → acc.length + s.length ≤ 20000000000000 →
    ∀ (J : Nat → List Int → Option (List Int)) b, Ev (fun k => J k (acc ++ nums s)) b → Ev (fun k => r16_numbers.l1 l p0.length (J k) k acc p.length) b
  | [], p, acc, hp, hb, J, b, hJ => by
    refine Ev.succ ?_
    subst hp
    simp only [r16_numbers.l1]
    refine Ev.bind0 (idx_l hp0) ?_
    simp only [lt_end, Bool.false_eq_true, if_false]
    simpa [nums] using hJ.shift
  | f :: s, p, acc, hp, hb, J, b, hJ => by
    refine Ev.succ ?_
    subst hp
    simp only [r16_numbers.l1]
    refine Ev.bind0 (idx_l hp0) ?_
    simp only [lt_at, if_true]
    refine Ev.bind0 (idx_l hp0) ?_
    refine Ev.bind0 (idx_at p f s) ?_
    refine Ev.bind0 (push_ok (by simp at hb; omega)) ?_
    rw [step_at p s f (by rw [maxLen_val]; omega)]
    refine numbers_l1 l p0 s0 (p ++ f :: s) hp0 hf s (p ++ [f]) (acc ++ [f.Number]) (by simp) (by simp at hb ⊢; omega) (fun k => J (k + 1)) b ?_
    simpa [nums] using hJ.shift
theorem numbers_l0 (l : List (List File)) (hg : goodL l) (h7 : l.length ≤ 7) : ∀ (s p : List (List File)) (acc : List Int), l = p ++ s → acc.length + s.length * 2199023255552 ≤ 16000000000000 →
    ∃ r, r.Perm (acc ++ nums s.flatten) ∧ Rises r ∧ Ev (fun k => r16_numbers.l0 l k acc p.length) r
  | [], p, acc, hp, hb => by
    obtain ⟨r, r1, r2, r3⟩ := sorted_ev acc (by simp at hb; omega)
    refine ⟨r, by simpa [nums] using r1, r2, Ev.succ ?_⟩
    subst hp
    simp only [r16_numbers.l0, lt_end, Bool.false_eq_true, if_false]
    refine Ev.bind r3 Ev.ret
  | fs :: s, p, acc, hp, hb => by
    have hfs := (hg.1 fs (by rw [hp]; simp)).1
    obtain ⟨r, r1, r2, r3⟩ := numbers_l0 l hg h7 s (p ++ [fs]) (acc ++ nums fs) (by simp [hp]) (by simp [nums] at hb ⊢; omega)
    refine ⟨r, by simpa [nums, List.append_assoc] using r1, r2, Ev.succ ?_⟩
    have e1 : decide ((p.length : Int) < (l.length : Int)) = true := by rw [hp]; exact lt_at p s fs
    simp only [r16_numbers.l0, e1, if_true, Jn, step_at p s fs (by rw [← hp, maxLen_val]; omega)]
    exact numbers_l1 l p s fs hp hfs fs [] acc (by simp) (by simp at hb; omega) (fun k l_224 => r16_numbers.l0 l k l_224 ((p ++ [fs]).length : Int)) r r3
theorem numbers_ev (l : List (List File)) (hg : goodL l) (h7 : l.length ≤ 7) : ∃ r, r.Perm (nums l.flatten) ∧ Rises r ∧ Ev (fun k => r16_numbers k l) r := by
  have := numbers_l0 l hg h7 l [] [] (by simp) (by simp; omega)
  simpa [r16_numbers] using this

/-- Twice the same number beside itself? -/
def apartB : List Int → Bool
  | [] => true
  | [_] => true
  | x :: y :: r => !(x == y) && apartB (y :: r)
theorem apartB_nodup : ∀ {l : List Int}, Rises l → (apartB l = true ↔ l.Nodup)
  | [], _ => by simp [apartB]
  | [x], _ => by simp [apartB]
  | x :: y :: r, h => by
    have h' := List.pairwise_cons.1 h
    have h2 := List.pairwise_cons.1 h'.2
    simp only [apartB, Bool.and_eq_true, Bool.not_eq_true', beq_eq_false_iff_ne]
    rw [apartB_nodup h'.2, List.nodup_cons (a := x)]
    constructor
    · rintro ⟨a, b⟩
      refine ⟨fun hm => ?_, b⟩
      rcases List.mem_cons.1 hm with e | hm
      · exact a e
      · have := h2.1 x hm
        have := h'.1 y (by simp)
        omega
    · rintro ⟨a, b⟩
      exact ⟨fun e => a (by simp [e]), b⟩
theorem twice_l2 (n : List Int) (hl : n.length ≤ 9223372036854775000) : ∀ (s p : List Int) (x : Int), n = p ++ x :: s → ∀ (J : Nat → Option Bool) b, Ev J b → Ev (fun k => r16_Valid.l2 n (J k) k ((p ++ [x]).length : Int)) (if apartB (x :: s) = true then b else false)
  | [], p, x, hp, J, b, hJ => by
    refine Ev.succ ?_
    have e : decide (((p ++ [x]).length : Int) < (n.length : Int)) = false := by rw [hp]; simp
    simp only [r16_Valid.l2, e, Bool.false_eq_true, if_false, apartB, if_true]
    exact hJ.shift
  | y :: s, p, x, hp, J, b, hJ => by
    refine Ev.succ ?_
    have hp' : n = (p ++ [x]) ++ y :: s := by simp [hp]
    have e : decide (((p ++ [x]).length : Int) < (n.length : Int)) = true := by rw [hp']; exact lt_at (p ++ [x]) s y
    have hbk : w64 (((p ++ [x]).length : Int) - 1) = (p.length : Int) := back_at p s x y (by rw [← hp', maxLen_val]; omega)
    have i1 : idx n (p.length : Int) = some x := by rw [hp]; exact idx_at p x (y :: s)
    have i2 : idx n ((p ++ [x]).length : Int) = some y := by rw [hp']; exact idx_at (p ++ [x]) y s
    have hst := step_at (p ++ [x]) s y (by rw [← hp', maxLen_val]; omega)
    simp only [r16_Valid.l2, e, if_true, hbk, i1, i2, Option.bind_some, hst, apartB]
    by_cases h : (x == y) = true
    · simp only [h, if_true, Bool.not_true, Bool.false_and, Bool.false_eq_true, if_false]
      exact Ev.ret
    · have h' := Bool.eq_false_iff.2 h
      simp only [h', Bool.false_eq_true, if_false, Bool.not_false, Bool.true_and]
      exact twice_l2 n hl s (p ++ [x]) y hp' (fun k => J (k + 1)) b hJ.shift

theorem rvalid_l1 (l p0 s0 : List (List File)) (fs : List File) (hp0 : l = p0 ++ fs :: s0) (hf : fs.length ≤ 2199023255552) : ∀ (s p : List File), fs = p ++ s → ∀ (J : Nat → Option Bool) b, Ev J b →
    Ev (fun k => r16_Valid.l1 l p0.length (J k) k p.length) (if okF p0.length p.getLast? s = true then b else false)
  | [], p, hp, J, b, hJ => by
    refine Ev.succ ?_
    subst hp
    simp only [r16_Valid.l1]
    refine Ev.bind0 (idx_l hp0) ?_
    simp only [lt_end, Bool.false_eq_true, if_false, okF, if_true]
    exact hJ.shift
  | f :: s, p, hp, J, b, hJ => by
    refine Ev.succ ?_
    have hst := step_at p s f (by rw [← hp, maxLen_val]; omega)
    have e1 : decide ((p.length : Int) < (fs.length : Int)) = true := by rw [hp]; exact lt_at p s f
    have i1 : idx fs (p.length : Int) = some f := by rw [hp]; exact idx_at p f s
    have next := rvalid_l1 l p0 s0 fs hp0 hf s (p ++ [f]) (by simp [hp]) (fun k => J (k + 1)) b hJ.shift
    rw [last_snoc] at next
    simp only [r16_Valid.l1]
    refine Ev.bind0 (idx_l hp0) ?_
    simp only [e1, if_true, hst]
    refine Ev.bind0 (idx_l hp0) ?_
    refine Ev.bind0 i1 ?_
    refine Ev.bind0 (may_eq' f) ?_
    by_cases hm : mayB f = true
    · simp only [hm, Bool.not_true, Bool.false_eq_true, if_false, Jn]
      have hok : okF p0.length p.getLast? (f :: s) = (!badO p0.length p.getLast? f && okF p0.length (some f) s) := by simp [okF, hm]
      rw [hok]
      rcases nil_or_snoc p with rfl | ⟨p1, q, rfl⟩
      · have z : decide ((0 : Int) < (([] : List File).length : Int)) = false := by decide
        simp only [z, Bool.false_and, Bool.false_eq_true, if_false, List.getLast?_nil, badO, Bool.not_false, Bool.true_and]
        exact next
      · have z := pos_snoc p1 q
        have hbk : w64 (((p1 ++ [q]).length : Int) - 1) = (p1.length : Int) := back_at p1 s q f (by rw [← hp, maxLen_val]; omega)
        have i2 : idx fs (p1.length : Int) = some q := by
          have := idx_at p1 q (f :: s)
          rw [hp]
          simpa using this
        rw [last_snoc]
        by_cases h0 : p0.length = 0
        · have z0 : ((p0.length : Int) == 0) = true := by rw [h0]; rfl
          have z1 : decide ((0 : Int) < (p0.length : Int)) = false := by rw [h0]; rfl
          simp only [z, z0, z1, Bool.true_and, Bool.and_false, Bool.and_true, if_true, hbk]
          refine Ev.bind0 (idx_l hp0) ?_
          refine Ev.bind0 i2 ?_
          refine Ev.bind0 (idx_l hp0) ?_
          refine Ev.bind0 i1 ?_
          have hb : badO p0.length (some q) f = decide (f.Number ≤ q.Number) := by simp [badO, bad, h0]
          rw [hb]
          by_cases hc : f.Number ≤ q.Number
          · simp only [hc, decide_true, if_true, Bool.not_true, Bool.false_and, Bool.false_eq_true, if_false]
            exact Ev.ret
          · simp only [hc, decide_false, Bool.false_eq_true, if_false, Bool.not_false, Bool.true_and]
            exact next
        · have z0 : ((p0.length : Int) == 0) = false := beq_eq_false_iff_ne.2 (by omega)
          have z1 : decide ((0 : Int) < (p0.length : Int)) = true := decide_eq_true (by omega)
          simp only [z, z0, z1, Bool.true_and, Bool.and_false, Bool.and_true, Bool.false_eq_true, if_true, if_false, hbk]
          refine Ev.bind0 (idx_l hp0) ?_
          refine Ev.bind0 i2 ?_
          refine Ev.bind0 (idx_l hp0) ?_
          refine Ev.bind0 i1 ?_
          have hb : badO p0.length (some q) f = (!(sLt q.Limit f.Least || sEq q.Limit f.Least)) := by simp [badO, bad, h0]
          rw [hb]
          by_cases hc : (!(sLt q.Limit f.Least || sEq q.Limit f.Least)) = true
          · simp only [hc, if_true, Bool.not_true, Bool.false_and, Bool.false_eq_true, if_false]
            exact Ev.ret
          · have hc' := Bool.eq_false_iff.2 hc
            simp only [hc', Bool.false_eq_true, if_false, Bool.not_false, Bool.true_and]
            exact next
    · have hm' := Bool.eq_false_iff.2 hm
      simp only [hm', Bool.not_false, if_true, okF, Bool.false_and, Bool.false_eq_true, if_false]
      exact Ev.ret

theorem rvalid_l0 (l : List (List File)) (hg : goodL l) (h7 : l.length ≤ 7) : ∀ (s p : List (List File)), l = p ++ s → Ev (fun k => r16_Valid.l0 l k p.length) (if okL p.length s = true then decide (nums l.flatten).Nodup else false)
  | [], p, hp => by
    refine Ev.succ ?_
    have e1 : decide ((p.length : Int) < (l.length : Int)) = false := by rw [hp]; exact lt_end p
    obtain ⟨r, r1, r2, r3⟩ := numbers_ev l hg h7
    simp only [r16_Valid.l0, e1, Bool.false_eq_true, if_false, okL, if_true, Jn]
    refine Ev.bind r3 ?_
    have hd : decide (nums l.flatten).Nodup = apartB r := by
      rw [Bool.eq_iff_iff, decide_eq_true_iff, apartB_nodup r2]
      exact r1.symm.nodup_iff
    rw [hd]
    have hrl : r.length ≤ 9223372036854775000 := by
      rw [r1.length_eq]
      have : ∀ m : List (List File), (∀ y ∈ m, y.length ≤ 2199023255552) → (nums m.flatten).length ≤ m.length * 2199023255552 := by
        intro m
        induction m with
        | nil => simp [nums]
        | cons y m ih =>
          intro h
          have h1 := h y (by simp)
          have h2 := ih fun z hz => h z (by simp [hz])
          simp [nums] at h2 ⊢
          omega
      have := this l fun y hy => (hg.1 y hy).1
      omega
    cases r with
    | nil =>
      refine Ev.succ ?_
      simp only [r16_Valid.l2, apartB]
      exact Ev.ret
    | cons x r =>
      have := twice_l2 (x :: r) hrl r [] x (by simp) (fun _ => some true) true Ev.ret
      refine this.to ?_
      cases apartB (x :: r) <;> rfl
  | fs :: s, p, hp => by
    refine Ev.succ ?_
    have e1 : decide ((p.length : Int) < (l.length : Int)) = true := by rw [hp]; exact lt_at p s fs
    have hfs := (hg.1 fs (by rw [hp]; simp)).1
    have next := rvalid_l0 l hg h7 s (p ++ [fs]) (by simp [hp])
    simp only [r16_Valid.l0, e1, if_true, Jn, step_at p s fs (by rw [← hp, maxLen_val]; omega)]
    have := rvalid_l1 l p s fs hp hfs fs [] (by simp) (fun k => r16_Valid.l0 l k ((p ++ [fs]).length : Int)) _ next
    refine this.to ?_
    have hl1 : (p ++ [fs]).length = p.length + 1 := by simp
    rw [hl1]
    simp only [okL, List.getLast?_nil]
    by_cases hx : okF p.length none fs = true <;> simp [hx]
theorem rvalid_ev (l : List (List File)) (hg : goodL l) : Ev (fun k => r16_Valid k l) (validB l) := by
  unfold r16_Valid
  by_cases h1 : 1 ≤ l.length ∧ l.length ≤ 7
  · have e : ((decide ((l.length : Int) < 1)) || (decide (7 < (l.length : Int)))) = false := by simp; omega
    simp only [e, Bool.false_eq_true, if_false]
    have := rvalid_l0 l hg h1.2 l [] (by simp)
    refine this.to ?_
    unfold validB
    rw [goL_eq]
    simp only [h1.1, h1.2, decide_true, Bool.true_and, List.length_nil]
    cases okL 0 l <;> simp
  · have e : ((decide ((l.length : Int) < 1)) || (decide (7 < (l.length : Int)))) = true := by simp; omega
    simp only [e, if_true]
    refine Ev.ret.to ?_
    symm
    unfold validB
    by_cases h2 : 1 ≤ l.length
    · have : ¬ l.length ≤ 7 := fun h => h1 ⟨h2, h⟩
      simp [this]
    · simp [h2]

/-! ### Levels and their files -/
theorem level_ev (l : List (List File)) (hg : goodL l) (i : Int) : Ev (fun k => r16_level k l i) (ofS l i) := by
  unfold r16_level ofS
  refine Ev.bind (rvalid_ev l hg) ?_
  by_cases h : ((!validB l || decide (i < 0)) || decide ((l.length : Int) ≤ i)) = true
  · simp only [if_pos h]; exact Ev.ret
  · simp only [if_neg h]
    simp only [Bool.or_eq_true, not_or, decide_eq_true_eq] at h
    obtain ⟨n, rfl⟩ : ∃ n : Nat, i = n := ⟨i.toNat, by omega⟩
    refine Ev.bind0 (getD_idx2 [] (show n < l.length by omega)) ?_
    exact Ev.ret
theorem rsize_l0 (fs : List File) (hl : fs.length ≤ 2199023255552) : ∀ (s p : List File) (n : Int), fs = p ++ s → Ev (fun k => r16_Size.l0 fs k n p.length) (s.foldl (fun n f => w64 (n + f.Size)) n)
  | [], p, n, hp => by
    subst hp
    refine Ev.succ ?_
    simp only [r16_Size.l0, lt_end, Bool.false_eq_true, if_false]
    exact Ev.ret
  | f :: s, p, n, hp => by
    refine Ev.succ ?_
    subst hp
    simp only [r16_Size.l0, lt_at, idx_at, if_true, Option.bind_some, step_at p s f (by rw [maxLen_val]; omega)]
    have := rsize_l0 (p ++ f :: s) hl s (p ++ [f]) (w64 (n + f.Size)) (by simp)
    simpa using this
theorem rsize_ev (l : List (List File)) (hg : goodL l) (i : Int) : Ev (fun k => r16_Size k l i) (sizeS (ofS l i)) := by
  unfold r16_Size
  refine Ev.bind (level_ev l hg i) ?_
  exact rsize_l0 (ofS l i) (ofS_len l hg i) (ofS l i) [] 0 (by simp)
theorem rspan_l0 (fs : List File) (hl : fs.length ≤ 9223372036854775000) : ∀ (s p : List File) (a b : ByteArray), fs = p ++ s → Ev (fun k => r16_Span.l0 fs k a b p.length) (leastG a s, limitG b s, true)
  | [], p, a, b, hp => by
    subst hp
    refine Ev.succ ?_
    simp only [r16_Span.l0, lt_end, Bool.false_eq_true, if_false]
    exact Ev.ret
  | f :: s, p, a, b, hp => by
    refine Ev.succ ?_
    subst hp
    simp only [r16_Span.l0, lt_at, idx_at, if_true, Option.bind_some, step_at p s f (by rw [maxLen_val]; omega)]
    exact rspan_l0 (p ++ f :: s) hl s (p ++ [f]) (minS a f.Least) (maxS b f.Limit) (by simp)
theorem rspan_ev (fs : List File) (hl : fs.length ≤ 9223372036854775000) : Ev (fun k => r16_Span k fs) (spanS fs) := by
  unfold r16_Span
  cases fs with
  | nil => exact Ev.ret
  | cons f s =>
    have e : (((f :: s).length : Int) == 0) = false := by simp; omega
    have i0 : idx (f :: s) 0 = some f := by simp [idx]
    simp only [e, Bool.false_eq_true, if_false, i0, Option.bind_some]
    exact rspan_l0 (f :: s) hl s [f] f.Least f.Limit (by simp)
theorem rover_l0 (a b : ByteArray) (fs : List File) (hl : fs.length ≤ 2199023255552) : ∀ (s p acc : List File), fs = p ++ s → acc.length ≤ p.length → Ev (fun k => r16_Over.l0 a b fs k acc p.length) (acc ++ s.filter fun f => ovB f a b)
  | [], p, acc, hp, ha => by
    subst hp
    refine Ev.succ ?_
    simp only [r16_Over.l0, lt_end, Bool.false_eq_true, if_false]
    simpa using Ev.ret
  | f :: s, p, acc, hp, ha => by
    refine Ev.succ ?_
    subst hp
    simp only [r16_Over.l0, lt_at, idx_at, if_true, Option.bind_some, step_at p s f (by rw [maxLen_val]; omega), Jn, ov_eq']
    have hpl : acc.length < 3518437208730 := by simp at hl; omega
    by_cases h : ovB f a b = true
    · simp only [h, if_true, push_ok hpl, Option.bind_some]
      have := rover_l0 a b (p ++ f :: s) hl s (p ++ [f]) (acc ++ [f]) (by simp) (by simp; omega)
      simpa [h] using this
    · simp only [h, if_false]
      have := rover_l0 a b (p ++ f :: s) hl s (p ++ [f]) acc (by simp) (by simp; omega)
      simpa [h] using this
theorem rover_ev (l : List (List File)) (hg : goodL l) (i : Int) (a b : ByteArray) : Ev (fun k => r16_Over k l i a b) (overS l i a b) := by
  unfold r16_Over
  refine Ev.bind (level_ev l hg i) ?_
  have := rover_l0 a b (ofS l i) (ofS_len l hg i) (ofS l i) [] [] (by simp) (by simp)
  rw [List.nil_append] at this
  exact this
end Go.Proofs.Ytbbepmmelpabbaa.Mo

/- Asks: which files a key's reader asks, in plain words. -/
set_option maxRecDepth 100000
namespace Go.Proofs.Ytbbepmmelpabbaa.Mo
open Go Go.Proofs.Ytbbepmmelpabbaa.Sy

theorem nodup_len : ∀ (n : Nat) (l : List Int), l.Nodup → (∀ x ∈ l, 1 ≤ x ∧ x ≤ (n : Int)) → l.length ≤ n
  | 0, l, _, h => by
    cases l with
    | nil => simp
    | cons x r => have := h x (by simp); omega
  | n + 1, l, hd, h => by
    have h1 : (l.erase ((n : Int) + 1)).length ≤ n := nodup_len n _ (hd.erase _) fun x hx => by
      have hm := hd.mem_erase_iff.1 hx
      have := h x hm.2
      omega
    have h2 := List.length_erase (a := ((n : Int) + 1)) (l := l)
    split at h2 <;> omega

theorem valid_len {l : List (List File)} (hv : validB l = true) : l.flatten.length ≤ 2147483647 := by
  obtain ⟨_, _, ho, hn⟩ := validB_iff.1 hv
  have := nodup_len 2147483647 (nums l.flatten) hn fun x hx => by
    obtain ⟨f, hf, rfl⟩ := List.mem_map.1 hx
    obtain ⟨fs, hfs, hf⟩ := List.mem_flatten.1 hf
    obtain ⟨j, hj⟩ := List.getElem?_of_mem hfs
    have := okF_may (okL_get ho hj) f hf
    have := (may_iff.1 this).1
    omega
  rwa [nums, List.length_map] at this
theorem len_le_flatten {α : Type} : ∀ {l : List (List α)} {y : List α}, y ∈ l → y.length ≤ l.flatten.length
  | x :: l, y, h => by
    rcases List.mem_cons.1 h with rfl | h
    · rw [List.flatten_cons, List.length_append]; omega
    · have := len_le_flatten h
      rw [List.flatten_cons, List.length_append]; omega
theorem ofS_le (l : List (List File)) (i : Int) : (ofS l i).length ≤ 2147483647 := by
  unfold ofS
  split
  · simp
  · rename_i h
    have hv : validB l = true := by
      cases hv : validB l with
      | true => rfl
      | false => exact absurd (by simp [hv]) h
    rw [List.getD_eq_getElem?_getD]
    cases hg : l[i.toNat]? with
    | none => simp
    | some y =>
      have := len_le_flatten (List.mem_of_getElem? hg)
      have := valid_len hv
      simp only [Option.getD_some]
      omega
theorem ofS_bad {l : List (List File)} (h : validB l = false) (i : Int) : ofS l i = [] := by simp [ofS, h]
theorem valid_ne {l : List (List File)} {i : Int} (h : ofS l i ≠ []) : validB l = true := by
  cases hv : validB l with
  | true => rfl
  | false => exact absurd (ofS_bad hv i) h

def bearsB (f : File) (key : ByteArray) : Bool := (sLt f.Least key || sEq f.Least key) && (sLt key f.Limit)
theorem bears_eq (f : File) (key : ByteArray) : r16_Bears f key = some (bearsB f key) := rfl
theorem bears_iff {f : File} {key : ByteArray} : bearsB f key = true ↔ sle f.Least key ∧ slt key f.Limit := by
  unfold bearsB
  rw [sLe_dec, sLt_dec]
  simp
def askI (i : Int) (key : ByteArray) (fs : List File) : List Place := (fs.filter fun f => bearsB f key).map fun f => ⟨i, f.Number⟩
theorem askI_len (i : Int) (key : ByteArray) (fs : List File) : (askI i key fs).length ≤ fs.length := by
  simp only [askI, List.length_map]
  exact List.length_filter_le _ _
theorem askI_cons (i : Int) (key : ByteArray) (f : File) (fs : List File) : askI i key (f :: fs) = (if bearsB f key = true then [⟨i, f.Number⟩] else []) ++ askI i key fs := by
  unfold askI
  by_cases h : bearsB f key = true
  · simp [h]
  · simp [h]
/-- What the levels from j on add, n of them. -/
def askR (l : List (List File)) (key : ByteArray) : Nat → Nat → List Place
  | _, 0 => []
  | j, n + 1 => askI (j : Int) key (ofS l (j : Int)) ++ askR l key (j + 1) n
def asksS (l : List (List File)) (key : ByteArray) : List Place := askI 0 key (ofS l 0).reverse ++ askR l key 1 (l.length - 1)

theorem rasks_l2 (key : ByteArray) (i : Int) (fs : List File) (hl : fs.length ≤ 2147483647) : ∀ (s p : List File) (acc : List Place), fs = p ++ s → acc.length + s.length ≤ 14073748835378 → ∀ (J : Nat → List Place → Option (List Place)) r, Ev (fun k => J k (acc ++ askI i key s)) r → Ev (fun k => r16_Asks.l2 key i (J k) fs k acc p.length) r
  | [], p, acc, hp, ha, J, r, hJ => by
    subst hp
    refine Ev.succ ?_
    simp only [r16_Asks.l2, lt_end, Bool.false_eq_true, if_false]
    simpa [askI] using hJ.shift
  | f :: s, p, acc, hp, ha, J, r, hJ => by
    refine Ev.succ ?_
    subst hp
    simp only [List.length_append, List.length_cons] at hl ha
    have hst := step_at p s f (by rw [maxLen_val]; simp; omega)
    simp only [r16_Asks.l2, lt_at, idx_at, if_true, Option.bind_some, hst, Jn, bears_eq]
    rw [askI_cons] at hJ
    by_cases h : bearsB f key = true
    · simp only [h, if_true, push_ok (show acc.length < 14073748835379 by omega), Option.bind_some]
      refine rasks_l2 key i (p ++ f :: s) (by simp; omega) s (p ++ [f]) (acc ++ [⟨i, f.Number⟩]) (by simp) (by simp; omega) (fun k => J (k + 1)) r ?_
      simpa [h] using hJ.shift
    · simp only [h, if_false]
      refine rasks_l2 key i (p ++ f :: s) (by simp; omega) s (p ++ [f]) acc (by simp) (by omega) (fun k => J (k + 1)) r ?_
      simpa [h] using hJ.shift

theorem rasks_l1 (l : List (List File)) (hg : goodL l) (key : ByteArray) (J : Nat → List Place → Option (List Place)) (r : List Place) : ∀ (n j : Nat) (acc : List Place), j + n = l.length → (validB l = true → acc.length ≤ j * 2147483647) → (validB l = false → acc.length ≤ 2147483647) → Ev (fun k => J k (acc ++ askR l key j n)) r → Ev (fun k => r16_Asks.l1 l key (J k) k acc j) r
  | 0, j, acc, hj, h1, h0, hJ => by
    refine Ev.succ ?_
    simp only [r16_Asks.l1, decF (show l.length ≤ j by omega), Bool.false_eq_true, if_false]
    simpa [askR] using hJ.shift
  | n + 1, j, acc, hj, h1, h0, hJ => by
    have hj' := hg.2
    refine Ev.succ ?_
    simp only [r16_Asks.l1, decT (show j < l.length by omega), if_true, Jn]
    refine Ev.bind (level_ev l hg j) ?_
    have hle := ofS_le l j
    have hw : w64 ((j : Int) + 1) = ((j + 1 : Nat) : Int) := by rw [w64_of (by omega) (by omega)]; omega
    rw [hw]
    have hb : acc.length + (ofS l (j : Int)).length ≤ 14073748835378 := by
      cases hv : validB l with
      | true =>
        have := h1 hv
        have := (validB_iff.1 hv).2.1
        have : j * 2147483647 ≤ 7 * 2147483647 := Nat.mul_le_mul_right _ (by omega)
        omega
      | false =>
        have := h0 hv
        rw [ofS_bad hv]
        simp; omega
    refine rasks_l2 key j (ofS l j) hle (ofS l j) [] acc (by simp) hb (fun k l_401 => r16_Asks.l1 l key (J (k + 1)) k l_401 ((j + 1 : Nat) : Int)) r ?_
    refine rasks_l1 l hg key (fun k => J (k + 1)) r n (j + 1) _ (by omega) (fun hv => ?_) (fun hv => ?_) ?_
    · have := h1 hv
      have := askI_len j key (ofS l (j : Int))
      simp only [List.length_append, Nat.add_mul]
      omega
    · rw [ofS_bad hv]
      simpa [askI] using h0 hv
    · rw [List.append_assoc]
      exact hJ.shift

theorem rasks_l0 (l : List (List File)) (hg : goodL l) (key : ByteArray) : ∀ (n : Nat) (p s : List File) (acc : List Place) (i : Int), p.length = n → ofS l 0 = p ++ s → i = (p.length : Int) - 1 → acc = askI 0 key s.reverse → Ev (fun k => r16_Asks.l0 l key (ofS l 0) k acc i) (asksS l key) := by
  have hle := ofS_le l 0
  intro n
  induction n with
  | zero =>
    intro p s acc i hn hp hi ha
    have : p = [] := List.eq_nil_of_length_eq_zero hn
    subst this
    have hi' : decide ((0 : Int) ≤ i) = false := by rw [hi]; simp
    have hl0 : ofS l 0 = s := by simpa using hp
    refine Ev.succ ?_
    simp only [r16_Asks.l0, hi', Bool.false_eq_true, if_false, Jn]
    have hlen := askI_len 0 key (ofS l 0).reverse
    cases hq : l with
    | nil =>
      have e : ofS l 0 = [] := by rw [hq]; simp [ofS, validB]
      have ea : acc = [] := by rw [ha, ← hl0, e]; rfl
      subst hq
      refine Ev.succ ?_
      have : asksS [] key = [] := by simp [asksS, ofS, validB, askI, askR]
      simp only [r16_Asks.l1, ea, this]
      have : decide ((1 : Int) < (([] : List (List File)).length : Int)) = false := by decide
      simp only [this, Bool.false_eq_true, if_false]
      exact Ev.ret
    | cons x y =>
      have hlq : 1 + (l.length - 1) = l.length := by rw [hq]; simp; omega
      rw [← hq]
      have hal : acc.length ≤ 2147483647 := by
        rw [ha, ← hl0]
        simp at hlen
        omega
      have := rasks_l1 l hg key (fun _ x => some x) (asksS l key) (l.length - 1) 1 acc hlq (fun _ => by omega) (fun _ => hal) (by
        refine Ev.of fun _ => ?_
        rw [ha, ← hl0]; rfl)
      exact this
  | succ n ih =>
    intro p s acc i hn hp hi ha
    rcases nil_or_snoc p with rfl | ⟨p, f, rfl⟩
    · simp at hn
    · simp only [List.length_append, List.length_singleton] at hn hi
      have hl0 := hle
      rw [hp] at hl0
      simp only [List.length_append, List.length_singleton] at hl0
      have hi0 : i = (p.length : Int) := by rw [hi]; omega
      have h1 : decide ((0 : Int) ≤ i) = true := decide_eq_true (by omega)
      have h2 : idx (ofS l 0) i = some f := by rw [hp, hi0]; simpa using idx_at p f s
      refine Ev.succ ?_
      have hsl : acc.length < 14073748835379 := by
        have := askI_len 0 key s.reverse
        rw [ha]
        simp at this
        omega
      have hw : w64 (i - 1) = (p.length : Int) - 1 := by rw [hi0]; exact w64_of (by omega) (by omega)
      have e : askI 0 key (f :: s).reverse = askI 0 key s.reverse ++ (if bearsB f key = true then [⟨0, f.Number⟩] else []) := by
        simp only [askI, List.reverse_cons, List.filter_append, List.map_append]
        by_cases h : bearsB f key = true <;> simp [h]
      simp only [r16_Asks.l0, h1, h2, if_true, Option.bind_some, bears_eq, Jn, hw]
      by_cases h : bearsB f key = true
      · simp only [h, if_true, push_ok hsl, Option.bind_some]
        exact ih p (f :: s) _ _ (by omega) (by simp [hp]) rfl (by rw [e, ha]; simp [h])
      · simp only [h, if_false]
        exact ih p (f :: s) _ _ (by omega) (by simp [hp]) rfl (by rw [e, ha]; simp [h])
theorem rasks_ev (l : List (List File)) (hg : goodL l) (key : ByteArray) : Ev (fun k => r16_Asks k l key) (asksS l key) := by
  unfold r16_Asks
  refine Ev.bind (level_ev l hg 0) ?_
  have := ofS_le l 0
  have hw : w64 (((ofS l 0).length : Int) - 1) = ((ofS l 0).length : Int) - 1 := w64_of (by omega) (by omega)
  rw [hw]
  exact rasks_l0 l hg key _ (ofS l 0) [] [] _ rfl (by simp) rfl rfl
end Go.Proofs.Ytbbepmmelpabbaa.Mo

/- Asks of the version: a search for the one file that bears. -/
set_option maxRecDepth 100000
namespace Go.Proofs.Ytbbepmmelpabbaa.Mo
open Go Go.Proofs.Ytbbepmmelpabbaa.Sy

theorem ofS_okF {l : List (List File)} {i : Nat} : okF i none (ofS l (i : Int)) = true := by
  unfold ofS
  split
  · rfl
  · rename_i h
    have hv : validB l = true := by
      cases hv : validB l with
      | true => rfl
      | false => exact absurd (by simp [hv]) h
    rw [List.getD_eq_getElem?_getD, Int.toNat_natCast]
    cases hg : l[i]? with
    | none => rfl
    | some y => simpa using okL_get (validB_iff.1 hv).2.2.1 hg

/-- In a level but the first: the files' limits rise. -/
theorem okF_lim {i : Nat} (hi : 0 < i) : ∀ {s : List File} {pv : Option File}, okF i pv s = true → (∀ q, pv = some q → ∀ f ∈ s, sle q.Limit f.Least) ∧ s.Pairwise fun a b => sle a.Limit b.Least
  | [], pv, _ => ⟨fun _ _ f h => absurd h (by simp), List.Pairwise.nil⟩
  | f :: s, pv, h => by
    simp only [okF, Bool.and_eq_true, Bool.not_eq_true'] at h
    obtain ⟨hm, hb, hs⟩ := h
    obtain ⟨h1, h2⟩ := okF_lim hi hs
    have hf : slt f.Least f.Limit := (may_iff.1 hm).2.2.2.1
    refine ⟨fun q hq g hg => ?_, List.pairwise_cons.2 ⟨fun g hg => h1 f rfl g hg, h2⟩⟩
    subst hq
    have hqf : sle q.Limit f.Least := by
      simp only [badO, bad, if_neg (show i ≠ 0 by omega), sLe_dec] at hb
      simpa using hb
    rcases List.mem_cons.1 hg with rfl | hg
    · exact hqf
    · exact sle_trans hqf (sle_trans (sle_of_lt hf) (h1 f rfl g hg))

/-- The file that the search finds is the only one that can bear. -/
theorem ask_cut {key : ByteArray} {p s : List File} (hp : ∀ f ∈ p, sle f.Limit key) : (p ++ s).filter (fun f => bearsB f key) = s.filter fun f => bearsB f key := by
  rw [List.filter_append, List.filter_eq_nil_iff.2 (fun f hf h => (hp f hf) (bears_iff.1 h).2), List.nil_append]
theorem ask_one {key : ByteArray} {x : File} {s : List File} (hx : slt key x.Limit) (hs : ∀ f ∈ s, sle x.Limit f.Least) : (x :: s).filter (fun f => bearsB f key) = if sle x.Least key then [x] else [] := by
  have h0 : s.filter (fun f => bearsB f key) = [] := List.filter_eq_nil_iff.2 fun f hf h => (bears_iff.1 h).1 (slt_of_lt_le hx (hs f hf))
  by_cases h : sle x.Least key
  · have hb : bearsB x key = true := bears_iff.2 ⟨h, hx⟩
    rw [if_pos h, List.filter_cons]
    simp only [hb, if_true, h0]
  · have hb : ¬ bearsB x key = true := fun hb => h (bears_iff.1 hb).1
    rw [if_neg h, List.filter_cons, if_neg hb, h0]

theorem vask_l1 (key : ByteArray) (fs : List File) (hl : fs.length ≤ 2147483647) (hs : fs.Pairwise fun a b => sle a.Limit b.Least) (hm : ∀ f ∈ fs, slt f.Least f.Limit) :
    ∃ t : Nat, t ≤ fs.length ∧ (∀ f ∈ fs.take t, sle f.Limit key) ∧ (∀ x, fs[t]? = some x → slt key x.Limit) ∧ EvC (fun (J : Int → Option (List Place)) k => version_Asks.l1 key fs J k 0 (fs.length : Int)) (t : Int) := by
  have hmono : ∀ (a b : Nat) (x y : File), a ≤ b → fs[a]? = some x → fs[b]? = some y → sle x.Limit y.Limit := by
    intro a b x y hab ha hb
    by_cases e : a = b
    · subst e
      have : x = y := Option.some.inj (ha.symm.trans hb)
      subst this
      exact sle_refl _
    · obtain ⟨ha', rfl⟩ := List.getElem?_eq_some_iff.1 ha
      obtain ⟨hb', rfl⟩ := List.getElem?_eq_some_iff.1 hb
      have := List.pairwise_iff_getElem.1 hs a b ha' hb' (by omega)
      exact sle_trans this (sle_of_lt (hm _ (List.getElem_mem _)))
  obtain ⟨t, _, h2, h3, h4, h5⟩ := bsearch (R := List Place) (fun i => ∃ x, fs[i]? = some x ∧ sle x.Limit key) (fun J k i j => version_Asks.l1 key fs J k i j) 0 fs.length
    (fun J k i => by simp only [version_Asks.l1, Int.lt_irrefl, decide_false, Bool.false_eq_true, if_false])
    (fun J k i j _ hij hj => by
      have hm := mid_eq (i := i) (j := j) (by omega)
      have hlt : (i + j) / 2 < fs.length := by omega
      simp only [version_Asks.l1, decT hij, if_true, hm, getD_idx hlt, Option.bind_some, Jn, sLe_dec, Bool.not_not]
      have e : (∃ x, fs[(i + j) / 2]? = some x ∧ sle x.Limit key) ↔ sle (fs[(i + j) / 2]).Limit key := by
        rw [List.getElem?_eq_getElem hlt]; simp
      simp only [e, decide_eq_true_eq]
      rw [w64_of (x := (((i + j) / 2 : Nat) : Int) + 1) (by omega) (by omega)]
      rfl)
    fs.length 0 fs.length (by omega) (by omega) (by omega) (by omega) (.inl rfl) (.inl rfl)
  refine ⟨t, h2, fun f hf => ?_, fun x hx => ?_, h5⟩
  · rcases h3 with h3 | ⟨y, hy, hyk⟩
    · subst h3; simp at hf
    · obtain ⟨i, hi⟩ := List.getElem?_of_mem hf
      rw [List.getElem?_take] at hi
      split at hi
      · exact sle_trans (hmono i (t - 1) f y (by omega) hi hy) hyk
      · cases hi
  · rcases h4 with h4 | h4
    · subst h4; simp at hx
    · refine Classical.byContradiction fun hc => h4 ⟨x, hx, hc⟩

theorem vask_l0 (l : List (List File)) (hg : goodL l) (key : ByteArray) : ∀ (n j : Nat) (acc : List Place), 0 < j → j + n = l.length → (validB l = true → acc.length ≤ j * 2147483647) → (validB l = false → acc.length ≤ 2147483647) → Ev (fun k => version_Asks.l0 l key k acc j) (acc ++ askR l key j n)
  | 0, j, acc, hj0, hj, h1, h0 => by
    refine Ev.succ ?_
    simp only [version_Asks.l0, decF (show l.length ≤ j by omega), Bool.false_eq_true, if_false]
    simpa [askR] using Ev.ret
  | n + 1, j, acc, hj0, hj, h1, h0 => by
    have hj' := hg.2
    refine Ev.succ ?_
    simp only [version_Asks.l0, decT (show j < l.length by omega), if_true, Jn]
    refine Ev.bind (of_ev l hg j) ?_
    have hle := ofS_le l j
    have hok : okF j none (ofS l (j : Int)) = true := ofS_okF
    have hpw := (okF_lim hj0 hok).2
    have hmm : ∀ f ∈ ofS l (j : Int), slt f.Least f.Limit := fun f hf => (may_iff.1 (okF_may hok f hf)).2.2.2.1
    have hw : w64 ((j : Int) + 1) = ((j + 1 : Nat) : Int) := by rw [w64_of (by omega) (by omega)]; omega
    have hb : acc.length + (ofS l (j : Int)).length ≤ 14073748835378 := by
      cases hv : validB l with
      | true =>
        have := h1 hv
        have := (validB_iff.1 hv).2.1
        have : j * 2147483647 ≤ 7 * 2147483647 := Nat.mul_le_mul_right _ (by omega)
        omega
      | false =>
        have := h0 hv
        rw [ofS_bad hv]
        simp; omega
    have next : ∀ acc', acc' = acc ++ askI (j : Int) key (ofS l (j : Int)) → Ev (fun k => version_Asks.l0 l key k acc' (w64 ((j : Int) + 1))) (acc ++ askR l key j (n + 1)) := fun acc' he => by
      rw [hw, askR, ← List.append_assoc, ← he]
      refine vask_l0 l hg key n (j + 1) acc' (by omega) (by omega) (fun hv => ?_) (fun hv => ?_)
      · have := h1 hv
        have := askI_len j key (ofS l (j : Int))
        rw [he, List.length_append, Nat.add_mul]
        omega
      · rw [he, ofS_bad hv]
        simpa [askI] using h0 hv
    obtain ⟨t, ht, hp, hx, he⟩ := vask_l1 key (ofS l j) hle hpw hmm
    refine he.ev ?_
    by_cases htl : t < (ofS l (j : Int)).length
    · have hspl : ofS l (j : Int) = (ofS l (j : Int)).take t ++ (ofS l (j : Int))[t] :: (ofS l (j : Int)).drop (t + 1) := by
        rw [← List.drop_eq_getElem_cons htl, List.take_append_drop]
      have hxx := hx _ (List.getElem?_eq_getElem htl)
      have hs' : ∀ f ∈ (ofS l (j : Int)).drop (t + 1), sle (ofS l (j : Int))[t].Limit f.Least := fun f hf => by
        rw [hspl] at hpw
        exact (List.pairwise_cons.1 (List.pairwise_append.1 hpw).2.1).1 f hf
      have hask : askI (j : Int) key (ofS l (j : Int)) = if sle (ofS l (j : Int))[t].Least key then [⟨j, (ofS l (j : Int))[t].Number⟩] else [] := by
        unfold askI
        conv => lhs; rw [hspl]
        rw [ask_cut hp, ask_one hxx hs']
        by_cases h : sle (ofS l (j : Int))[t].Least key <;> simp [h]
      simp only [decT htl, if_true, getD_idx htl, Option.bind_some, sLe_dec]
      by_cases h : sle (ofS l (j : Int))[t].Least key
      · simp only [h, decide_true, if_true, push_ok (show acc.length < 14073748835379 by omega), Option.bind_some]
        exact next _ (by rw [hask, if_pos h])
      · simp only [h, decide_false, Bool.false_eq_true, if_false]
        exact next _ (by rw [hask, if_neg h]; simp)
    · have htl' : (ofS l (j : Int)).length ≤ t := by omega
      simp only [decF htl', Bool.false_eq_true, if_false]
      refine next _ ?_
      have : askI (j : Int) key (ofS l (j : Int)) = [] := by
        have e : ofS l (j : Int) = (ofS l (j : Int)).take t ++ [] := by rw [List.append_nil, List.take_of_length_le htl']
        unfold askI
        rw [e, ask_cut hp]; rfl
      rw [this, List.append_nil]

theorem vask_l2 (key : ByteArray) (fs : List File) (hl : fs.length ≤ 2147483647) (J : Nat → List Place → Option (List Place)) (r : List Place) (hJ : Ev (fun k => J k (askI 0 key fs.reverse)) r) : ∀ (n : Nat) (p s : List File) (acc : List Place) (i : Int), p.length = n → fs = p ++ s → i = (p.length : Int) - 1 → acc = askI 0 key s.reverse → Ev (fun k => version_Asks.l2 key (J k) fs k i acc) r := by
  intro n
  induction n generalizing J with
  | zero =>
    intro p s acc i hn hp hi ha
    have : p = [] := List.eq_nil_of_length_eq_zero hn
    subst this
    have hi' : decide ((0 : Int) ≤ i) = false := by rw [hi]; simp
    refine Ev.succ ?_
    simp only [version_Asks.l2, hi', Bool.false_eq_true, if_false]
    rw [ha]
    rw [List.nil_append] at hp
    rw [← hp]
    exact hJ.shift
  | succ n ih =>
    intro p s acc i hn hp hi ha
    rcases nil_or_snoc p with rfl | ⟨p, f, rfl⟩
    · simp at hn
    · simp only [List.length_append, List.length_singleton] at hn hi
      have hl0 := hl
      rw [hp] at hl0
      simp only [List.length_append, List.length_singleton] at hl0
      have hi0 : i = (p.length : Int) := by rw [hi]; omega
      have h1 : decide ((0 : Int) ≤ i) = true := decide_eq_true (by omega)
      have h2 : idx fs i = some f := by rw [hp, hi0]; simpa using idx_at p f s
      refine Ev.succ ?_
      have hsl : acc.length < 14073748835379 := by
        have := askI_len 0 key s.reverse
        rw [ha]
        simp at this
        omega
      have hw : w64 (i - 1) = (p.length : Int) - 1 := by rw [hi0]; exact w64_of (by omega) (by omega)
      have e : askI 0 key (f :: s).reverse = askI 0 key s.reverse ++ (if bearsB f key = true then [⟨0, f.Number⟩] else []) := by
        simp only [askI, List.reverse_cons, List.filter_append, List.map_append]
        by_cases h : bearsB f key = true <;> simp [h]
      have hb : ((sLt f.Least key || sEq f.Least key) && (sLt key f.Limit)) = bearsB f key := rfl
      simp only [version_Asks.l2, h1, h2, if_true, Option.bind_some, Jn, hw, hb, Bool.not_true, Bool.false_eq_true, if_false]
      by_cases h : bearsB f key = true
      · simp only [h, if_true, push_ok hsl, Option.bind_some]
        exact ih (fun k => J (k + 1)) hJ.shift p (f :: s) _ _ (by omega) (by simp [hp]) rfl (by rw [e, ha]; simp [h])
      · simp only [h, if_false]
        exact ih (fun k => J (k + 1)) hJ.shift p (f :: s) _ _ (by omega) (by simp [hp]) rfl (by rw [e, ha]; simp [h])
theorem asks_ev (l : List (List File)) (hg : goodL l) (key : ByteArray) : Ev (fun k => version_Asks k l key) (asksS l key) := by
  unfold version_Asks
  simp only [Jn]
  refine Ev.bind (of_ev l hg 0) ?_
  have hle := ofS_le l 0
  have hw : w64 (((ofS l 0).length : Int) - 1) = ((ofS l 0).length : Int) - 1 := w64_of (by omega) (by omega)
  rw [hw]
  refine vask_l2 key (ofS l 0) hle (fun k l_60 => version_Asks.l0 l key k l_60 1) _ ?_ _ (ofS l 0) [] [] _ rfl (by simp) rfl rfl
  have hal := askI_len 0 key (ofS l 0).reverse
  rw [List.length_reverse] at hal
  cases hq : l with
  | nil =>
    have e : ofS ([] : List (List File)) 0 = [] := by simp [ofS, validB]
    refine Ev.succ ?_
    have : asksS [] key = [] := by simp [asksS, ofS, validB, askI, askR]
    have h2 : decide ((1 : Int) < (([] : List (List File)).length : Int)) = false := by decide
    simp only [version_Asks.l0, e, this, h2, Bool.false_eq_true, if_false]
    exact Ev.ret
  | cons x y =>
    have hlq : 1 + (l.length - 1) = l.length := by rw [hq]; simp; omega
    rw [← hq]
    exact vask_l0 l hg key (l.length - 1) 1 _ (by omega) hlq (fun _ => by omega) (fun _ => by omega)
end Go.Proofs.Ytbbepmmelpabbaa.Mo

/- Find, Below, files, Same, copied, wiped, in plain words. -/
set_option maxRecDepth 100000
namespace Go.Proofs.Ytbbepmmelpabbaa.Mo
open Go Go.Proofs.Ytbbepmmelpabbaa.Sy

def zeroF : File := ⟨0, 0, ByteArray.mk #[], ByteArray.mk #[], 0, 0⟩
def findG (n : Int) : Nat → List (List File) → Int × File × Bool
  | _, [] => (0, zeroF, false)
  | i, fs :: r => match fs.find? fun f => f.Number == n with
    | some f => ((i : Int), f, true)
    | none => findG n (i + 1) r
def findS (l : List (List File)) (n : Int) : Int × File × Bool := if validB l = true then findG n 0 l else (0, zeroF, false)

theorem vfind_l1 (n i : Int) (fs : List File) (hl : fs.length ≤ 9223372036854775000) : ∀ (s p : List File), fs = p ++ s → ∀ (J : Nat → Option (Int × File × Bool)) r, (∀ f, (s.find? fun f => f.Number == n) = some f → r = (i, f, true)) → ((s.find? fun f => f.Number == n) = none → Ev J r) →
    Ev (fun k => version_Find.l1 n (fun (i_63 : Int) (i_64 : Int) (i_65 : Int) (s_66 : ByteArray) (s_67 : ByteArray) (i_68 : Int) (i_69 : Int) (b_70 : Bool) => some (i_63, (⟨i_64, i_65, s_66, s_67, i_68, i_69⟩ : File), b_70)) i (J k) fs k p.length) r
  | [], p, hp, J, r, h1, h2 => by
    subst hp
    refine Ev.succ ?_
    simp only [version_Find.l1, lt_end, Bool.false_eq_true, if_false]
    exact (h2 rfl).shift
  | f :: s, p, hp, J, r, h1, h2 => by
    refine Ev.succ ?_
    subst hp
    simp only [version_Find.l1, lt_at, idx_at, if_true, Option.bind_some, step_at p s f (by rw [maxLen_val]; omega)]
    by_cases h : (f.Number == n) = true
    · simp only [h, if_true]
      rw [h1 f (by simp [h])]
      exact Ev.ret
    · simp only [h, if_false]
      refine vfind_l1 n i (p ++ f :: s) hl s (p ++ [f]) (by simp) (fun k => J (k + 1)) r (fun g hg => h1 g ?_) (fun hg => (h2 ?_).shift)
      · simp only [List.find?_cons, h]; exact hg
      · simp only [List.find?_cons, h]; exact hg
theorem vfind_l0 (l : List (List File)) (hg : goodL l) (n : Int) : ∀ (s p : List (List File)), l = p ++ s → Ev (fun k => version_Find.l0 l n (fun (i_63 : Int) (i_64 : Int) (i_65 : Int) (s_66 : ByteArray) (s_67 : ByteArray) (i_68 : Int) (i_69 : Int) (b_70 : Bool) => some (i_63, (⟨i_64, i_65, s_66, s_67, i_68, i_69⟩ : File), b_70)) k p.length) (findG n p.length s)
  | [], p, hp => by
    subst hp
    refine Ev.succ ?_
    simp only [version_Find.l0, lt_end, Bool.false_eq_true, if_false]
    exact Ev.ret
  | fs :: s, p, hp => by
    have hl2 := hg.2
    have hfs : fs.length ≤ 2199023255552 := (hg.1 fs (by rw [hp]; simp)).1
    subst hp
    refine Ev.succ ?_
    simp only [version_Find.l0, lt_at, idx_at, if_true, Option.bind_some, step_at p s fs (by rw [maxLen_val]; omega), Jn]
    refine vfind_l1 n p.length fs (by omega) fs [] (by simp) (fun k => version_Find.l0 (p ++ fs :: s) n _ k ((p ++ [fs]).length : Int)) _ (fun f hf => by simp [findG, hf]) (fun hf => ?_)
    have := vfind_l0 (p ++ fs :: s) hg n s (p ++ [fs]) (by simp)
    simpa [findG, hf] using this
theorem find_ev (l : List (List File)) (hg : goodL l) (n : Int) : Ev (fun k => version_Find k l n) (findS l n) := by
  unfold version_Find findS
  refine Ev.bind (valid_ev l hg) ?_
  cases hv : validB l with
  | false =>
    simp only [Bool.not_false, if_true, Bool.false_eq_true, if_false]
    exact Ev.ret
  | true =>
    simp only [Bool.not_true, Bool.false_eq_true, if_false, if_true, Jn]
    exact vfind_l0 l hg n l [] (by simp)

theorem rfind_l1 (n i : Int) (fs : List File) (hl : fs.length ≤ 9223372036854775000) : ∀ (s p : List File), fs = p ++ s → ∀ (J : Nat → Option (Int × File × Bool)) r, (∀ f, (s.find? fun f => f.Number == n) = some f → r = (i, f, true)) → ((s.find? fun f => f.Number == n) = none → Ev J r) →
    Ev (fun k => r16_Find.l1 n i (J k) fs k p.length) r
  | [], p, hp, J, r, h1, h2 => by
    subst hp
    refine Ev.succ ?_
    simp only [r16_Find.l1, lt_end, Bool.false_eq_true, if_false]
    exact (h2 rfl).shift
  | f :: s, p, hp, J, r, h1, h2 => by
    refine Ev.succ ?_
    subst hp
    simp only [r16_Find.l1, lt_at, idx_at, if_true, Option.bind_some, step_at p s f (by rw [maxLen_val]; omega)]
    by_cases h : (f.Number == n) = true
    · simp only [h, if_true]
      rw [h1 f (by simp [h])]
      exact Ev.ret
    · simp only [h, if_false]
      refine rfind_l1 n i (p ++ f :: s) hl s (p ++ [f]) (by simp) (fun k => J (k + 1)) r (fun g hg => h1 g ?_) (fun hg => (h2 ?_).shift)
      · simp only [List.find?_cons, h]; exact hg
      · simp only [List.find?_cons, h]; exact hg
theorem ofS_at {l p s : List (List File)} {fs : List File} (hp : l = p ++ fs :: s) (hv : validB l = true) : ofS l (p.length : Int) = fs := ofS_valid hv (by rw [hp]; simp)
theorem rfind_l0 (l : List (List File)) (hg : goodL l) (n : Int) : ∀ (s p : List (List File)), l = p ++ s → Ev (fun k => r16_Find.l0 l n k p.length) (if validB l = true then findG n p.length s else (0, zeroF, false))
  | [], p, hp => by
    subst hp
    refine Ev.succ ?_
    simp only [r16_Find.l0, lt_end, Bool.false_eq_true, if_false]
    simp only [findG, ite_self]
    exact Ev.ret
  | fs :: s, p, hp => by
    have hl2 := hg.2
    have hle := ofS_le l (p.length : Int)
    have hat := ofS_at hp
    have ih := rfind_l0 l hg n s (p ++ [fs]) (by simp [hp])
    have hst : w64 ((p.length : Int) + 1) = ((p ++ [fs]).length : Int) := by rw [hp] at hl2; exact step_at p s fs (by rw [maxLen_val]; omega)
    have hlt : decide ((p.length : Int) < (l.length : Int)) = true := by rw [hp]; exact lt_at p s fs
    refine Ev.succ ?_
    simp only [r16_Find.l0, hlt, if_true, hst, Jn]
    refine Ev.bind (level_ev l hg p.length) ?_
    refine rfind_l1 n p.length (ofS l p.length) (by omega) (ofS l p.length) [] (by simp) (fun k => r16_Find.l0 l n k ((p ++ [fs]).length : Int)) _ (fun f hf => ?_) (fun hf => ?_)
    · have hv : validB l = true := valid_ne (i := p.length) (fun h => by rw [h] at hf; simp at hf)
      rw [hat hv] at hf
      simp [hv, findG, hf]
    · cases hv : validB l with
      | false => simpa [hv] using ih
      | true =>
        rw [hat hv] at hf
        simpa [hv, findG, hf] using ih
theorem rfind_ev (l : List (List File)) (hg : goodL l) (n : Int) : Ev (fun k => r16_Find k l n) (findS l n) := rfind_l0 l hg n l [] (by simp)

/-! ### Below -/
def belowG (a : Int) : Nat → List (List File) → List File
  | _, [] => []
  | i, fs :: r => (if decide (a < (i : Int)) = true then fs else []) ++ belowG a (i + 1) r
def belowS (l : List (List File)) (a : Int) : List File := if validB l = true then belowG a 0 l else []
theorem belowG_len (a : Int) : ∀ (i : Nat) (s : List (List File)), (belowG a i s).length ≤ s.flatten.length
  | _, [] => by simp [belowG]
  | i, fs :: s => by
    have := belowG_len a (i + 1) s
    simp only [belowG, List.flatten_cons, List.length_append]
    split
    · omega
    · rw [List.length_nil]; omega
theorem vbelow_l0 (l : List (List File)) (hl : l.length ≤ 7) (a : Int) : ∀ (s p : List (List File)) (acc : List File), l = p ++ s → acc.length + s.flatten.length ≤ 3518437208000 → Ev (fun k => version_Below.l0 l a k acc p.length) (acc ++ belowG a p.length s)
  | [], p, acc, hp, hb => by
    subst hp
    refine Ev.succ ?_
    simp only [version_Below.l0, lt_end, Bool.false_eq_true, if_false]
    simpa [belowG] using Ev.ret
  | fs :: s, p, acc, hp, hb => by
    subst hp
    rw [List.flatten_cons, List.length_append] at hb
    refine Ev.succ ?_
    simp only [version_Below.l0, lt_at, idx_at, if_true, Option.bind_some, step_at p s fs (by rw [maxLen_val]; omega), Jn]
    by_cases h : decide (a < (p.length : Int)) = true
    · simp only [h, if_true, pushN_ok (show acc.length + fs.length ≤ 3518437208730 by omega), Option.bind_some]
      have := vbelow_l0 (p ++ fs :: s) hl a s (p ++ [fs]) (acc ++ fs) (by simp) (by rw [List.length_append]; omega)
      simpa [belowG, h] using this
    · simp only [h, if_false]
      have := vbelow_l0 (p ++ fs :: s) hl a s (p ++ [fs]) acc (by simp) (by omega)
      simpa [belowG, h] using this
theorem below_ev (l : List (List File)) (hg : goodL l) (a : Int) : Ev (fun k => version_Below k l a) (belowS l a) := by
  unfold version_Below belowS
  refine Ev.bind (valid_ev l hg) ?_
  cases hv : validB l with
  | false => simpa using Ev.ret
  | true =>
    have := valid_len hv
    simp only [Bool.not_true, Bool.false_eq_true, if_false, if_true]
    have := vbelow_l0 l (validB_iff.1 hv).2.1 a l [] [] (by simp) (by simp only [List.length_nil]; omega)
    simpa using this
theorem rbelow_l0 (l : List (List File)) (hg : goodL l) (a : Int) : ∀ (s p : List (List File)) (acc : List File), l = p ++ s → (validB l = true → acc.length + s.flatten.length ≤ 3518437208000) → (validB l = false → acc = []) → Ev (fun k => r16_Below.l0 l a k acc p.length) (if validB l = true then acc ++ belowG a p.length s else [])
  | [], p, acc, hp, hb, h0 => by
    refine Ev.succ ?_
    have : decide ((p.length : Int) < (l.length : Int)) = false := by rw [hp]; exact lt_end p
    simp only [r16_Below.l0, this, Bool.false_eq_true, if_false]
    cases hv : validB l with
    | false => rw [h0 hv]; exact Ev.ret
    | true => simpa [belowG] using Ev.ret
  | fs :: s, p, acc, hp, hb, h0 => by
    have hl2 := hg.2
    have hat := ofS_at hp
    have hst : w64 ((p.length : Int) + 1) = ((p ++ [fs]).length : Int) := by rw [hp] at hl2; exact step_at p s fs (by rw [maxLen_val]; omega)
    have hlt : decide ((p.length : Int) < (l.length : Int)) = true := by rw [hp]; exact lt_at p s fs
    refine Ev.succ ?_
    simp only [r16_Below.l0, hlt, if_true, hst, Jn]
    by_cases h : decide (a < (p.length : Int)) = true
    · simp only [h, if_true]
      refine Ev.bind (level_ev l hg p.length) ?_
      cases hv : validB l with
      | false =>
        rw [ofS_bad hv, h0 hv]
        simp only [pushN_ok (show ([] : List File).length + ([] : List File).length ≤ 3518437208730 by simp), Option.bind_some, List.append_nil, Bool.false_eq_true, if_false]
        have := rbelow_l0 l hg a s (p ++ [fs]) [] (by simp [hp]) (fun h => by rw [hv] at h; cases h) (fun _ => rfl)
        simpa [hv] using this
      | true =>
        have hb' := hb hv
        rw [List.flatten_cons, List.length_append] at hb'
        rw [hat hv]
        simp only [pushN_ok (show acc.length + fs.length ≤ 3518437208730 by omega), Option.bind_some, if_true]
        have := rbelow_l0 l hg a s (p ++ [fs]) (acc ++ fs) (by simp [hp]) (fun _ => by rw [List.length_append]; omega) (fun h => by rw [hv] at h; cases h)
        simpa [hv, belowG, h] using this
    · simp only [h, if_false]
      have := rbelow_l0 l hg a s (p ++ [fs]) acc (by simp [hp]) (fun hv => by have := hb hv; rw [List.flatten_cons, List.length_append] at this; omega) h0
      simpa [belowG, h] using this
theorem rbelow_ev (l : List (List File)) (hg : goodL l) (a : Int) : Ev (fun k => r16_Below k l a) (belowS l a) := by
  unfold r16_Below belowS
  have := rbelow_l0 l hg a l [] [] (by simp) (fun hv => by have := valid_len hv; simp only [List.length_nil]; omega) (fun _ => rfl)
  simpa using this

/-! ### The same files -/
def eqlB : List File → List File → Bool
  | [], [] => true
  | f :: u, g :: v => File.eqb f g && eqlB u v
  | _, _ => false
theorem eqlB_iff : ∀ {u v : List File}, eqlB u v = true ↔ u = v
  | [], [] => by simp [eqlB]
  | [], g :: v => by simp [eqlB]
  | f :: u, [] => by simp [eqlB]
  | f :: u, g :: v => by
    simp only [eqlB, Bool.and_eq_true, eqb_iff, List.cons.injEq, eqlB_iff (u := u) (v := v)]
end Go.Proofs.Ytbbepmmelpabbaa.Mo

/- One; Bears; Cuts: the laws in plain words. -/
set_option maxRecDepth 100000
namespace Go.Proofs.Ytbbepmmelpabbaa.Mo
open Go Go.Proofs.Ytbbepmmelpabbaa.Sy

/-! ### Numbers -/
theorem less_int (x y : Int) : cmp_Less_int x y = some (decide (x < y)) := by
  simp [cmp_Less_int, cmp_isNaN_int, Jn]
theorem wo_int : Wo (fun x y : Int => x < y) := ⟨fun x y h k => by omega, fun x y z h k => by omega⟩
theorem vnum_l1 (fs : List File) (hf : fs.length ≤ 2199023255552) : ∀ (s p : List File) (acc : List Int), fs = p ++ s → acc.length + s.length ≤ 28147497670000 →
    ∀ (J : Nat → List Int → Option (List Int)) b, Ev (fun k => J k (acc ++ nums s)) b → Ev (fun k => version_Numbers.l1 (J k) fs k acc p.length) b
  | [], p, acc, hp, hb, J, b, hJ => by
    refine Ev.succ ?_
    subst hp
    simp only [version_Numbers.l1, lt_end, Bool.false_eq_true, if_false]
    simpa [nums] using hJ.shift
  | f :: s, p, acc, hp, hb, J, b, hJ => by
    refine Ev.succ ?_
    subst hp
    simp only [List.length_cons] at hb
    simp only [version_Numbers.l1, lt_at, idx_at, if_true, Option.bind_some, push_ok (show acc.length < 28147497670912 by omega), step_at p s f (by rw [maxLen_val]; omega)]
    refine vnum_l1 (p ++ f :: s) hf s (p ++ [f]) (acc ++ [f.Number]) (by simp) (by simp; omega) (fun k => J (k + 1)) b ?_
    simpa [nums] using hJ.shift
theorem vnum_l0 (l : List (List File)) (hg : goodL l) (h7 : l.length ≤ 7) (r : List Int) (hr : Ev (fun k => slices_Sort_int k (nums l.flatten)) r) : ∀ (s p : List (List File)) (acc : List Int), l = p ++ s → acc = nums p.flatten → acc.length + s.flatten.length ≤ 2147483647 →
    Ev (fun k => version_Numbers.l0 l k acc p.length) r
  | [], p, acc, hp, ha, hb => by
    refine Ev.succ ?_
    have e1 : decide ((p.length : Int) < (l.length : Int)) = false := by rw [hp]; exact lt_end p
    simp only [version_Numbers.l0, e1, Bool.false_eq_true, if_false]
    rw [List.append_nil] at hp
    rw [ha, ← hp]
    exact Ev.bind hr Ev.ret
  | fs :: s, p, acc, hp, ha, hb => by
    have hfs := (hg.1 fs (by rw [hp]; simp)).1
    rw [List.flatten_cons, List.length_append] at hb
    have e1 : decide ((p.length : Int) < (l.length : Int)) = true := by rw [hp]; exact lt_at p s fs
    refine Ev.succ ?_
    simp only [version_Numbers.l0, e1, if_true, Jn, idx_l hp, Option.bind_some, step_at p s fs (by rw [← hp, maxLen_val]; omega)]
    refine vnum_l1 fs hfs fs [] acc (by simp) (by omega) (fun k l_224 => version_Numbers.l0 l k l_224 ((p ++ [fs]).length : Int)) r ?_
    refine vnum_l0 l hg h7 r hr s (p ++ [fs]) (acc ++ nums fs) (by simp [hp]) (by simp [ha, nums]) ?_
    simp only [List.length_append, nums, List.length_map]
    omega
theorem sorted_uniq : ∀ {a b : List Int}, a.Perm b → Rises a → Rises b → a = b := fun h ha hb => h.eq_of_pairwise (fun x y _ _ h1 h2 => Int.le_antisymm h1 h2) ha hb
theorem numbers_both (l : List (List File)) (hg : goodL l) : ∃ r, (r.length = if validB l = true then l.flatten.length else 0) ∧ Ev (fun k => version_Numbers k l) r ∧ Ev (fun k => r16_Numbers k l) r := by
  cases hv : validB l with
  | false =>
    refine ⟨[], by simp, ?_, ?_⟩
    · unfold version_Numbers
      refine Ev.bind (valid_ev l hg) ?_
      simp only [hv, Bool.not_false, if_true]
      exact Ev.ret
    · unfold r16_Numbers
      refine Ev.bind (rvalid_ev l hg) ?_
      simp only [hv, Bool.not_false, if_true]
      exact Ev.ret
  | true =>
    have hlen := valid_len hv
    have h7 := (validB_iff.1 hv).2.1
    obtain ⟨r, s1, s2, s3⟩ := sort_int (lt := fun x y : Int => x < y) (0 : Int) (fun x y => less_int x y) wo_int (nums l.flatten) (by rw [nums, List.length_map]; omega)
    obtain ⟨r', t1, t2, t3⟩ := numbers_ev l hg h7
    have hr1 : Rises r := s1.imp fun h => by omega
    have e : r = r' := sorted_uniq (s2.symm.trans t1.symm) hr1 t2
    subst e
    refine ⟨r, ?_, ?_, ?_⟩
    · rw [t1.length_eq, nums, List.length_map]; simp
    · unfold version_Numbers
      refine Ev.bind (valid_ev l hg) ?_
      simp only [hv, Bool.not_true, Bool.false_eq_true, if_false]
      exact vnum_l0 l hg h7 r s3 l [] [] (by simp) (by simp [nums]) (by rw [List.length_nil]; omega)
    · unfold r16_Numbers
      refine Ev.bind (rvalid_ev l hg) ?_
      simp only [hv, Bool.not_true, Bool.false_eq_true, if_false]
      exact Ev.bind t3 Ev.ret
theorem files_ev (l : List (List File)) (hg : goodL l) : Ev (fun k => version_Files k l) (if validB l = true then (l.flatten.length : Int) else 0) := by
  unfold version_Files
  obtain ⟨r, h1, h2, _⟩ := numbers_both l hg
  refine Ev.bind h2 ?_
  rw [h1]
  by_cases h : validB l = true <;> simp only [h, if_true, if_false, Bool.false_eq_true] <;> exact Ev.ret

/-! ### One -/
def oneL : List (List File) := [[(⟨3, 9, (ByteArray.mk #[97]), (ByteArray.mk #[99]), 1, 1⟩ : File)]]
theorem oneL_good : goodL oneL := ⟨fun y hy => by
  simp only [oneL, List.mem_singleton] at hy
  subst hy
  refine ⟨by decide, fun f hf => ?_⟩
  simp only [List.mem_singleton] at hf
  subst hf
  rfl, by decide⟩
theorem one_valid : validB oneL = true := by kernel_rfl
theorem one_ev : Ev (fun k => l16_one k) true := by
  unfold l16_one
  refine Ev.bind (valid_ev oneL oneL_good) ?_
  simp only [one_valid, Jn, if_true]
  refine Ev.bind (files_ev oneL oneL_good) ?_
  simp only [one_valid, if_true]
  have e0 : (((oneL.flatten.length : Nat) : Int) == 1) = true := rfl
  simp only [e0, if_true]
  refine Ev.bind (over_ev oneL oneL_good 0 _ _) ?_
  have e1 : (((overS oneL 0 (ByteArray.mk #[98]) (ByteArray.mk #[])).length : Int) == 1) = true := by kernel_rfl
  simp only [e1, if_true]
  refine Ev.bind (asks_ev oneL oneL_good _) ?_
  have e2 : (((asksS oneL (ByteArray.mk #[98])).length : Int) == 1) = true := by kernel_rfl
  simp only [e2]
  exact Ev.ret
end Go.Proofs.Ytbbepmmelpabbaa.Mo

/- Bears: the law in plain words. -/
set_option maxRecDepth 100000
namespace Go.Proofs.Ytbbepmmelpabbaa.Mo
open Go Go.Proofs.Ytbbepmmelpabbaa.Sy

theorem askR_bad {l : List (List File)} (h : validB l = false) (key : ByteArray) : ∀ n j, askR l key j n = []
  | 0, _ => rfl
  | n + 1, j => by rw [askR, ofS_bad h, askR_bad h key n]; rfl
theorem asksS_bad {l : List (List File)} (h : validB l = false) (key : ByteArray) : asksS l key = [] := by
  rw [asksS, ofS_bad h, askR_bad h]; rfl

/-! ### How many bear -/
def cntB (key : ByteArray) (fs : List File) : Nat := fs.countP fun f => bearsB f key
theorem askI_cnt (i : Int) (key : ByteArray) (fs : List File) : (askI i key fs).length = cntB key fs := by
  simp [askI, cntB, List.countP_eq_length_filter]
theorem askR_cnt {l : List (List File)} (hv : validB l = true) (key : ByteArray) : ∀ (s p : List (List File)), l = p ++ s → (askR l key p.length s.length).length = cntB key s.flatten
  | [], p, hp => rfl
  | fs :: s, p, hp => by
    have := askR_cnt hv key s (p ++ [fs]) (by simp [hp])
    rw [List.length_append, List.length_singleton] at this
    simp only [List.length_cons, askR, List.length_append, askI_cnt, ofS_at hp hv, this, List.flatten_cons, cntB, List.countP_append]
theorem asksS_cnt {l : List (List File)} (hv : validB l = true) (key : ByteArray) : (asksS l key).length = cntB key l.flatten := by
  cases l with
  | nil => exact absurd hv (by decide)
  | cons x s =>
    have h1 := askR_cnt hv key s [x] rfl
    have h0 : ofS (x :: s) 0 = x := ofS_at (p := []) rfl hv
    rw [asksS, List.length_append, askI_cnt, h0]
    simp only [List.length_singleton] at h1
    have e : (x :: s).length - 1 = s.length := by simp
    rw [e, h1]
    simp only [cntB, List.flatten_cons, List.countP_append, List.countP_reverse]

theorem bear_l1 (l : List (List File)) (key : ByteArray) (p0 s0 : List (List File)) (fs : List File) (hp0 : l = p0 ++ fs :: s0) (hf : fs.length ≤ 2199023255552) : ∀ (s p : List File) (n : Nat), fs = p ++ s → n + s.length ≤ 9223372036854775000 →
    ∀ (J : Nat → Int → Option Bool) b, Ev (fun k => J k ((n + cntB key s : Nat) : Int)) b → Ev (fun k => l16_VersionBears.l1 l key p0.length (J k) k n p.length) b
  | [], p, n, hp, hn, J, b, hJ => by
    refine Ev.succ ?_
    subst hp
    simp only [l16_VersionBears.l1]
    refine Ev.bind0 (idx_l hp0) ?_
    simp only [lt_end, Bool.false_eq_true, if_false]
    simpa [cntB] using hJ.shift
  | f :: s, p, n, hp, hn, J, b, hJ => by
    refine Ev.succ ?_
    subst hp
    simp only [List.length_cons] at hn
    simp only [l16_VersionBears.l1]
    refine Ev.bind0 (idx_l hp0) ?_
    simp only [lt_at, if_true, Jn]
    refine Ev.bind0 (idx_l hp0) ?_
    refine Ev.bind0 (idx_at p f s) ?_
    rw [step_at p s f (by rw [maxLen_val]; omega)]
    have hw : w64 ((n : Int) + 1) = ((n + 1 : Nat) : Int) := by rw [w64_of (by omega) (by omega)]; omega
    by_cases h1 : (sLt f.Least key || sEq f.Least key) = true
    · simp only [h1, if_true]
      refine Ev.bind0 (idx_l hp0) ?_
      refine Ev.bind0 (idx_at p f s) ?_
      by_cases h2 : sLt key f.Limit = true
      · simp only [h2, if_true, hw]
        refine bear_l1 l key p0 s0 (p ++ f :: s) hp0 hf s (p ++ [f]) (n + 1) (by simp) (by omega) (fun k => J (k + 1)) b ?_
        have hb : bearsB f key = true := by simp only [bearsB, h1, h2, Bool.and_self]
        have e : cntB key (f :: s) = cntB key s + 1 := List.countP_cons_of_pos hb
        rw [e] at hJ
        have := hJ.shift
        rwa [show n + (cntB key s + 1) = n + 1 + cntB key s by omega] at this
      · simp only [h2, if_false]
        refine bear_l1 l key p0 s0 (p ++ f :: s) hp0 hf s (p ++ [f]) n (by simp) (by omega) (fun k => J (k + 1)) b ?_
        have hb : ¬ bearsB f key = true := by simp only [bearsB, h1, h2, Bool.true_and]; simp
        have e : cntB key (f :: s) = cntB key s := List.countP_cons_of_neg hb
        rw [e] at hJ
        exact hJ.shift
    · simp only [h1, if_false, Bool.false_eq_true]
      refine bear_l1 l key p0 s0 (p ++ f :: s) hp0 hf s (p ++ [f]) n (by simp) (by omega) (fun k => J (k + 1)) b ?_
      have hb : ¬ bearsB f key = true := by simp only [bearsB, h1, Bool.false_and]; simp
      have e : cntB key (f :: s) = cntB key s := List.countP_cons_of_neg hb
      rw [e] at hJ
      exact hJ.shift

/-! ### The answer's order -/
def after (a b : Place) : Prop := a.Level ≤ b.Level ∧ (a.Level = b.Level → ¬ 0 < b.Level ∧ b.Number < a.Number)
theorem askI_lev {i : Int} {key : ByteArray} {fs : List File} {q : Place} (h : q ∈ askI i key fs) : q.Level = i ∧ ∃ f ∈ fs, f.Number = q.Number ∧ bearsB f key = true := by
  obtain ⟨f, hf, rfl⟩ := List.mem_map.1 h
  obtain ⟨h1, h2⟩ := List.mem_filter.1 hf
  exact ⟨rfl, f, h1, rfl, h2⟩
theorem askR_lev {l : List (List File)} {key : ByteArray} : ∀ {n j : Nat} {q : Place}, q ∈ askR l key j n → (j : Int) ≤ q.Level ∧ ∃ f ∈ ofS l q.Level, f.Number = q.Number ∧ bearsB f key = true
  | 0, j, q, h => by simp [askR] at h
  | n + 1, j, q, h => by
    rcases List.mem_append.1 h with h | h
    · obtain ⟨e, g⟩ := askI_lev h
      rw [e]
      exact ⟨Int.le_refl _, g⟩
    · obtain ⟨e, g⟩ := askR_lev h
      exact ⟨by omega, g⟩
theorem asksS_mem {l : List (List File)} {key : ByteArray} {q : Place} (h : q ∈ asksS l key) : ∃ f ∈ ofS l q.Level, f.Number = q.Number ∧ bearsB f key = true := by
  rcases List.mem_append.1 h with h | h
  · obtain ⟨e, f, hf, g⟩ := askI_lev h
    exact ⟨f, by rw [e]; simpa using hf, g⟩
  · exact (askR_lev h).2
theorem askR_pw {l : List (List File)} {key : ByteArray} : ∀ (n j : Nat), 0 < j → (askR l key j n).Pairwise after
  | 0, _, _ => List.Pairwise.nil
  | n + 1, j, hj => by
    rw [askR, List.pairwise_append]
    refine ⟨?_, askR_pw n (j + 1) (by omega), fun a ha b hb => ?_⟩
    · have hok : okF j none (ofS l (j : Int)) = true := ofS_okF
      rw [askI, List.pairwise_map, List.pairwise_filter]
      refine (okF_lim hj hok).2.imp fun {a b} hab ha hb => ?_
      exact absurd (slt_of_lt_le (bears_iff.1 ha).2 hab) (bears_iff.1 hb).1
    · have h1 := (askI_lev ha).1
      have h2 := (askR_lev hb).1
      exact ⟨by omega, fun e => by omega⟩
theorem okF0_rise : ∀ {s : List File} {pv : Option File}, okF 0 pv s = true → (∀ q, pv = some q → ∀ f ∈ s, q.Number < f.Number) ∧ s.Pairwise fun a b => a.Number < b.Number
  | [], pv, _ => ⟨fun _ _ f h => absurd h (by simp), List.Pairwise.nil⟩
  | f :: s, pv, h => by
    simp only [okF, Bool.and_eq_true, Bool.not_eq_true'] at h
    obtain ⟨hm, hb, hs⟩ := h
    obtain ⟨h1, h2⟩ := okF0_rise hs
    refine ⟨fun q hq g hg => ?_, List.pairwise_cons.2 ⟨fun g hg => h1 f rfl g hg, h2⟩⟩
    subst hq
    have hqf : q.Number < f.Number := by
      simp only [badO, bad, if_true] at hb
      simpa using hb
    rcases List.mem_cons.1 hg with rfl | hg
    · exact hqf
    · have := h1 f rfl g hg
      omega
theorem asksS_pw (l : List (List File)) (key : ByteArray) : (asksS l key).Pairwise after := by
  rw [asksS, List.pairwise_append]
  refine ⟨?_, askR_pw _ 1 (by omega), fun a ha b hb => ?_⟩
  · have hok : okF 0 none (ofS l ((0 : Nat) : Int)) = true := ofS_okF
    rw [askI, List.pairwise_map, List.pairwise_filter, List.pairwise_reverse]
    refine (okF0_rise hok).2.imp fun {a b} hab hb ha => ?_
    exact ⟨Int.le_refl _, fun _ => ⟨by simp, hab⟩⟩
  · have h1 := (askI_lev ha).1
    have h2 := (askR_lev hb).1
    exact ⟨by omega, fun e => by omega⟩

/-! ### A file is found by its number -/
theorem findG_at {n : Int} {f : File} : ∀ {l : List (List File)} {i j : Nat} {fs : List File}, (nums l.flatten).Nodup → l[j]? = some fs → f ∈ fs → f.Number = n → findG n i l = (((i + j : Nat) : Int), f, true)
  | x :: l, i, j, fs, hd, hj, hf, hn => by
    have hd' : (nums x ++ nums l.flatten).Nodup := by simpa [nums] using hd
    obtain ⟨d1, d2, d3⟩ := List.nodup_append.1 hd'
    cases j with
    | zero =>
      have : x = fs := by simpa using hj
      subst this
      have hfind : (x.find? fun f => f.Number == n) = some f := by
        cases h : x.find? fun f => f.Number == n with
        | none => exact absurd (List.find?_eq_none.1 h f hf) (by simp [hn])
        | some g =>
          have hg := List.mem_of_find?_eq_some h
          have hgn : g.Number = n := by simpa using List.find?_some h
          obtain ⟨a, b, e, hnb⟩ := List.mem_iff_append.1 hf |>.elim fun a h => h.elim fun b h => (⟨a, b, h, trivial⟩ : ∃ a b, x = a ++ f :: b ∧ True)
          rw [e] at hg d1
          have d1' : (nums a ++ f.Number :: nums b).Nodup := by simpa [nums] using d1
          obtain ⟨_, e2, e3⟩ := List.nodup_append.1 d1'
          rcases List.mem_append.1 hg with hg | hg
          · exact absurd (by rw [hgn, hn]) (e3 g.Number (List.mem_map_of_mem hg) f.Number (by simp))
          · rcases List.mem_cons.1 hg with rfl | hg
            · rfl
            · have := (List.nodup_cons.1 e2).1
              exact absurd (by rw [hn, ← hgn]; exact List.mem_map_of_mem hg) this
      simp only [findG, hfind, Nat.add_zero]
    | succ j =>
      have hj' : l[j]? = some fs := by simpa using hj
      have hnone : (x.find? fun f => f.Number == n) = none := by
        rw [List.find?_eq_none]
        intro g hg hgn
        have hgn : g.Number = n := by simpa using hgn
        have hm : f.Number ∈ nums l.flatten := List.mem_map_of_mem (List.mem_flatten.2 ⟨fs, List.mem_of_getElem? hj', hf⟩)
        exact d3 g.Number (List.mem_map_of_mem hg) f.Number hm (by rw [hgn, hn])
      simp only [findG, hnone]
      rw [findG_at (i := i + 1) d2 hj' hf hn]
      congr 2
      omega
theorem findS_at {l : List (List File)} {i : Int} {f : File} (hf : f ∈ ofS l i) : findS l f.Number = (i, f, true) := by
  have hv : validB l = true := valid_ne (fun h => by rw [h] at hf; simp at hf)
  unfold ofS at hf
  split at hf
  · simp at hf
  · rename_i hc
    simp only [hv, Bool.not_true, Bool.false_or, Bool.or_eq_true, decide_eq_true_eq, not_or, Int.not_lt, Int.not_le] at hc
    rw [List.getD_eq_getElem?_getD] at hf
    cases hg : l[i.toNat]? with
    | none => rw [hg] at hf; simp at hf
    | some fs =>
      rw [hg] at hf
      have := findG_at (i := 0) (validB_iff.1 hv).2.2.2 hg (by simpa using hf) rfl
      rw [findS, if_pos hv, this]
      congr 1
      omega

theorem bear_l2 (l : List (List File)) (hg : goodL l) (key : ByteArray) (r7 : List Place) (hl : r7.length ≤ 9223372036854775000) (hm : ∀ q ∈ r7, ∃ f ∈ ofS l q.Level, f.Number = q.Number ∧ bearsB f key = true) (hpw : r7.Pairwise after) (J : Nat → Option Bool) (hJ : Ev J true) :
    ∀ (s p : List Place), r7 = p ++ s → Ev (fun k => l16_VersionBears.l2 l key r7 (J k) k p.length) true
  | [], p, hp => by
    refine Ev.succ ?_
    have e1 : decide ((p.length : Int) < (r7.length : Int)) = false := by rw [hp]; exact lt_end p
    simp only [l16_VersionBears.l2, e1, Bool.false_eq_true, if_false]
    exact hJ.shift
  | q :: s, p, hp => by
    have e1 : decide ((p.length : Int) < (r7.length : Int)) = true := by rw [hp]; exact lt_at p s q
    have e2 : idx r7 (p.length : Int) = some q := by rw [hp]; exact idx_at p q s
    have hst : w64 ((p.length : Int) + 1) = ((p ++ [q]).length : Int) := step_at p s q (by rw [← hp, maxLen_val]; omega)
    obtain ⟨f, hf, hn, hb⟩ := hm q (by rw [hp]; simp)
    obtain ⟨b1, b2⟩ := bears_iff.1 hb
    have ih := bear_l2 l hg key r7 hl hm hpw (fun k => J (k + 1)) hJ.shift s (p ++ [q]) (by simp [hp])
    refine Ev.succ ?_
    simp only [l16_VersionBears.l2, e1, e2, if_true, Option.bind_some]
    refine Ev.bind (find_ev l hg q.Number) ?_
    rw [← hn, findS_at hf]
    have c1 : sLt key f.Least = false := sLt_false.2 b1
    have c2 : sLt key f.Limit = true := sLt_iff.2 b2
    simp only [Jn, Bool.not_true, Bool.false_eq_true, if_false, bne_self_eq_false, Bool.false_or, c1, c2, hst]
    rcases nil_or_snoc p with rfl | ⟨p', x, rfl⟩
    · have h0 : decide ((0 : Int) < ((([] : List Place).length : Nat) : Int)) = false := by decide
      simp only [h0, Bool.false_eq_true, if_false]
      exact ih
    · have h0 : decide ((0 : Int) < (((p' ++ [x]).length : Nat) : Int)) = true := pos_snoc p' x
      have hbk : w64 (((p' ++ [x]).length : Int) - 1) = (p'.length : Int) := back_at p' s x q (by rw [← hp, maxLen_val]; omega)
      have e3 : idx r7 (p'.length : Int) = some x := by rw [hp, List.append_assoc]; exact idx_at p' x _
      have hax : after x q := by
        rw [hp] at hpw
        exact (List.pairwise_append.1 hpw).2.2 x (by simp) q (by simp)
      have c3 : decide (q.Level < x.Level) = false := decide_eq_false (by have := hax.1; omega)
      simp only [h0, if_true, hbk, e3, Option.bind_some, c3, Bool.false_eq_true, if_false]
      by_cases he : x.Level = q.Level
      · have h2 := hax.2 he
        have c4 : (x.Level == q.Level) = true := by simp [he]
        have c5 : decide (0 < q.Level) = false := decide_eq_false h2.1
        have c6 : decide (x.Number ≤ q.Number) = false := decide_eq_false (by omega)
        rw [← hn] at c6
        simp only [c4, c5, c6, if_true, Bool.false_eq_true, if_false, Option.bind_some, e2]
        exact ih
      · have c4 : (x.Level == q.Level) = false := by simp [he]
        simp only [c4, Bool.false_eq_true, if_false]
        exact ih

theorem bear_l0 (l : List (List File)) (hg : goodL l) (key : ByteArray) (hv : validB l = true) : ∀ (s p : List (List File)), l = p ++ s → Ev (fun k => l16_VersionBears.l0 l key (asksS l key) k ((cntB key p.flatten : Nat) : Int) p.length) true
  | [], p, hp => by
    have hc := asksS_cnt hv key
    have hlen := valid_len hv
    have hle : cntB key l.flatten ≤ l.flatten.length := List.countP_le_length
    refine Ev.succ ?_
    have e1 : decide ((p.length : Int) < (l.length : Int)) = false := by rw [hp]; exact lt_end p
    have hpl : p = l := by simpa using hp.symm
    simp only [l16_VersionBears.l0, e1, Bool.false_eq_true, if_false]
    simp only [hpl, hc, bne_self_eq_false, Jn, Bool.false_eq_true, if_false]
    exact bear_l2 l hg key (asksS l key) (by omega) (fun q hq => asksS_mem hq) (asksS_pw l key) (fun _ => some true) Ev.ret (asksS l key) [] (by simp)
  | fs :: s, p, hp => by
    have hfs := (hg.1 fs (by rw [hp]; simp)).1
    have hlen := valid_len hv
    have h7 := (validB_iff.1 hv).2.1
    have e1 : decide ((p.length : Int) < (l.length : Int)) = true := by rw [hp]; exact lt_at p s fs
    have hle : cntB key p.flatten ≤ p.flatten.length := List.countP_le_length
    have hll : p.flatten.length + fs.length ≤ l.flatten.length := by rw [hp, List.flatten_append, List.length_append, List.flatten_cons, List.length_append]; omega
    refine Ev.succ ?_
    simp only [l16_VersionBears.l0, e1, if_true, Jn, step_at p s fs (by rw [← hp, maxLen_val]; omega)]
    refine bear_l1 l key p s fs hp hfs fs [] _ (by simp) (by omega) (fun k i_456 => l16_VersionBears.l0 l key (asksS l key) k i_456 ((p ++ [fs]).length : Int)) true ?_
    have := bear_l0 l hg key hv s (p ++ [fs]) (by simp [hp])
    simpa [cntB] using this
theorem bears_ev (l : List (List File)) (hg : goodL l) (key : ByteArray) : Ev (fun k => l16_VersionBears k l key) true := by
  unfold l16_VersionBears
  refine Ev.bind one_ev ?_
  simp only [Bool.not_true, Bool.false_eq_true, if_false]
  refine Ev.bind (asks_ev l hg key) ?_
  refine Ev.bind (valid_ev l hg) ?_
  cases hv : validB l with
  | false =>
    simp only [Bool.not_false, if_true, asksS_bad hv]
    exact Ev.ret
  | true =>
    simp only [Bool.not_true, Bool.false_eq_true, if_false]
    exact bear_l0 l hg key hv l [] (by simp)
end Go.Proofs.Ytbbepmmelpabbaa.Mo

/- Copies, comparisons; Asks, Tells, Spans: the laws in plain words. -/
set_option maxRecDepth 100000
namespace Go.Proofs.Ytbbepmmelpabbaa.Mo
open Go Go.Proofs.Ytbbepmmelpabbaa.Sy

theorem copied_l0 (l : List (List File)) (hg : goodL l) (hl : l.length ≤ 5864062014805) : ∀ (s p : List (List File)), l = p ++ s → Ev (fun k => l16_copied.l0 l k p p.length) l
  | [], p, hp => by
    simp at hp
    subst hp
    refine Ev.succ ?_
    simp only [l16_copied.l0, decF (Nat.le_refl l.length), Bool.false_eq_true, if_false]
    exact Ev.ret
  | fs :: s, p, hp => by
    refine Ev.succ ?_
    have e1 : decide ((p.length : Int) < (l.length : Int)) = true := by rw [hp]; exact lt_at p s fs
    have e2 : idx l (p.length : Int) = some fs := by rw [hp]; exact idx_at p fs s
    have hfs := (hg.1 fs (by rw [hp]; simp)).1
    have hpl : p.length < l.length := by rw [hp]; simp
    simp only [l16_copied.l0, e1, if_true]
    refine Ev.bind0 e2 ?_
    refine Ev.bind0 (pushN_ok (by simp; omega)) ?_
    refine Ev.bind0 (push_ok (by omega)) ?_
    rw [List.nil_append, step_at p s fs (by rw [← hp, maxLen_val]; omega)]
    exact copied_l0 l hg hl s (p ++ [fs]) (by simp [hp])
theorem copied_ev (l : List (List File)) (hg : goodL l) (hl : l.length ≤ 5864062014805) : Ev (fun k => l16_copied k l) l := copied_l0 l hg hl l [] (by simp)

theorem files_l0 (a b : List File) (hab : a.length = b.length) (hl : a.length ≤ 9223372036854775000) : ∀ (u v p q : List File), a = p ++ u → b = q ++ v → p.length = q.length → Ev (fun k => l16_files.l0 a b k p.length) (eqlB u v)
  | [], v, p, q, hp, hq, he => by
    have : v = [] := by
      rw [hp, hq] at hab
      simp at hab
      exact List.eq_nil_of_length_eq_zero (by omega)
    subst this
    subst hp
    refine Ev.succ ?_
    simp only [l16_files.l0, lt_end, Bool.false_eq_true, if_false]
    exact Ev.ret
  | x :: u, [], p, q, hp, hq, he => by
    rw [hp, hq] at hab
    simp at hab
    omega
  | x :: u, y :: v, p, q, hp, hq, he => by
    have e1 : decide ((p.length : Int) < (a.length : Int)) = true := by rw [hp]; exact lt_at p u x
    have e2 : idx a (p.length : Int) = some x := by rw [hp]; exact idx_at p x u
    have e3 : idx b (p.length : Int) = some y := by rw [hq, he]; exact idx_at q y v
    refine Ev.succ ?_
    simp only [l16_files.l0, e1, e2, e3, if_true, Option.bind_some, step_at p u x (by rw [← hp, maxLen_val]; omega), eqlB]
    by_cases h : File.eqb x y = true
    · simp only [h, Bool.not_true, Bool.false_eq_true, if_false, Bool.true_and]
      exact files_l0 a b hab hl u v (p ++ [x]) (q ++ [y]) (by simp [hp]) (by simp [hq]) (by simp [he])
    · have h' := Bool.eq_false_iff.2 h
      simp only [h', Bool.not_false, if_true, Bool.false_and]
      exact Ev.ret
theorem len_bne {α β : Type} {a : List α} {b : List β} (h : ¬ a.length = b.length) : ((a.length : Int) != (b.length : Int)) = true := by
  rw [bne_iff_ne, ne_eq, Int.natCast_inj]; exact h
theorem len_beq {α β : Type} {a : List α} {b : List β} (h : a.length = b.length) : ((a.length : Int) != (b.length : Int)) = false := by
  rw [h, bne_self_eq_false]
theorem eqlB_len : ∀ {a b : List File}, ¬ a.length = b.length → eqlB a b = false := fun {a b} h => by
  cases e : eqlB a b with
  | false => rfl
  | true => exact absurd (congrArg List.length (eqlB_iff.1 e)) h
theorem eqlB_refl (a : List File) : eqlB a a = true := eqlB_iff.2 rfl
theorem lfiles_ev (a b : List File) (hl : a.length ≤ 9223372036854775000) : Ev (fun k => l16_files k a b) (eqlB a b) := by
  unfold l16_files
  by_cases h : a.length = b.length
  · simp only [len_beq h, Bool.false_eq_true, if_false]
    exact files_l0 a b h hl a b [] [] (by simp) (by simp) rfl
  · simp only [len_bne h, if_true, eqlB_len h]
    exact Ev.ret

/-! ### The same levels -/
def eqLL : List (List File) → List (List File) → Bool
  | [], [] => true
  | x :: u, y :: v => eqlB x y && eqLL u v
  | _, _ => false
theorem eqLL_iff : ∀ {u v : List (List File)}, eqLL u v = true ↔ u = v
  | [], [] => by simp [eqLL]
  | [], g :: v => by simp [eqLL]
  | f :: u, [] => by simp [eqLL]
  | f :: u, g :: v => by
    simp only [eqLL, Bool.and_eq_true, eqlB_iff, List.cons.injEq, eqLL_iff (u := u) (v := v)]
theorem eqLL_refl (a : List (List File)) : eqLL a a = true := eqLL_iff.2 rfl
theorem eqLL_len {a b : List (List File)} (h : ¬ a.length = b.length) : eqLL a b = false := by
  cases e : eqLL a b with
  | false => rfl
  | true => exact absurd (congrArg List.length (eqLL_iff.1 e)) h

theorem same_l1 (a b p0 s0 q0 t0 : List (List File)) (x y : List File) (ha : a = p0 ++ x :: s0) (hb : b = q0 ++ y :: t0) (h0 : p0.length = q0.length) (hxy : x.length = y.length) (hl : x.length ≤ 9223372036854775000) : ∀ (u v p q : List File), x = p ++ u → y = q ++ v → p.length = q.length → ∀ (J : Nat → Option Bool) r, Ev J r → Ev (fun k => r16_Same.l1 a b p0.length (J k) k p.length) (eqlB u v && r)
  | [], v, p, q, hp, hq, he, J, r, hJ => by
    have : v = [] := by
      rw [hp, hq] at hxy
      simp at hxy
      exact List.eq_nil_of_length_eq_zero (by omega)
    subst this
    have e1 : decide ((p.length : Int) < (x.length : Int)) = false := by rw [hp]; exact lt_end p
    refine Ev.succ ?_
    simp only [r16_Same.l1]
    refine Ev.bind0 (idx_l ha) ?_
    simp only [e1, Bool.false_eq_true, if_false, eqlB, Bool.true_and]
    exact hJ.shift
  | f :: u, [], p, q, hp, hq, he, J, r, hJ => by
    rw [hp, hq] at hxy
    simp at hxy
    omega
  | f :: u, g :: v, p, q, hp, hq, he, J, r, hJ => by
    have e1 : decide ((p.length : Int) < (x.length : Int)) = true := by rw [hp]; exact lt_at p u f
    have e2 : idx x (p.length : Int) = some f := by rw [hp]; exact idx_at p f u
    have e3 : idx y (p.length : Int) = some g := by rw [hq, he]; exact idx_at q g v
    have e4 : idx b (p0.length : Int) = some y := by rw [h0]; exact idx_l hb
    refine Ev.succ ?_
    simp only [r16_Same.l1]
    refine Ev.bind0 (idx_l ha) ?_
    simp only [e1, if_true]
    refine Ev.bind0 (idx_l ha) ?_
    refine Ev.bind0 e2 ?_
    refine Ev.bind0 e4 ?_
    refine Ev.bind0 e3 ?_
    rw [step_at p u f (by rw [← hp, maxLen_val]; omega)]
    by_cases h : File.eqb f g = true
    · simp only [h, Bool.not_true, Bool.false_eq_true, if_false, eqlB, Bool.true_and]
      exact same_l1 a b p0 s0 q0 t0 x y ha hb h0 hxy hl u v (p ++ [f]) (q ++ [g]) (by simp [hp]) (by simp [hq]) (by simp [he]) (fun k => J (k + 1)) r hJ.shift
    · have h' := Bool.eq_false_iff.2 h
      simp only [h', Bool.not_false, if_true, eqlB, Bool.false_and]
      exact Ev.ret
theorem same_l0 (a b : List (List File)) (hab : a.length = b.length) (hg : goodL a) : ∀ (u v p q : List (List File)), a = p ++ u → b = q ++ v → p.length = q.length → Ev (fun k => r16_Same.l0 a b k p.length) (eqLL u v)
  | [], v, p, q, hp, hq, he => by
    have : v = [] := by
      rw [hp, hq] at hab
      simp at hab
      exact List.eq_nil_of_length_eq_zero (by omega)
    subst this
    have e1 : decide ((p.length : Int) < (a.length : Int)) = false := by rw [hp]; exact lt_end p
    refine Ev.succ ?_
    simp only [r16_Same.l0, e1, Bool.false_eq_true, if_false]
    exact Ev.ret
  | x :: u, [], p, q, hp, hq, he => by
    rw [hp, hq] at hab
    simp at hab
    omega
  | x :: u, y :: v, p, q, hp, hq, he => by
    have hal := hg.2
    have hxl := (hg.1 x (by rw [hp]; simp)).1
    have e1 : decide ((p.length : Int) < (a.length : Int)) = true := by rw [hp]; exact lt_at p u x
    have e4 : idx b (p.length : Int) = some y := by rw [he]; exact idx_l hq
    have ih := same_l0 a b hab hg u v (p ++ [x]) (q ++ [y]) (by simp [hp]) (by simp [hq]) (by simp [he])
    refine Ev.succ ?_
    simp only [r16_Same.l0, e1, if_true, Jn, step_at p u x (by rw [← hp, maxLen_val]; omega)]
    refine Ev.bind0 (idx_l hp) ?_
    refine Ev.bind0 e4 ?_
    by_cases h : x.length = y.length
    · simp only [len_beq h, Bool.false_eq_true, if_false, eqLL]
      exact same_l1 a b p u q v x y hp hq he h (by omega) x y [] [] (by simp) (by simp) rfl _ _ ih
    · simp only [len_bne h, if_true, eqLL, eqlB_len h, Bool.false_and]
      exact Ev.ret
theorem rsameL_ev (a b : List (List File)) (hg : goodL a) : Ev (fun k => r16_Same k a b) (eqLL a b) := by
  unfold r16_Same
  by_cases h : a.length = b.length
  · simp only [len_beq h, Bool.false_eq_true, if_false]
    exact same_l0 a b h hg a b [] [] (by simp) (by simp) rfl
  · simp only [len_bne h, if_true, eqLL_len h]
    exact Ev.ret
theorem rsameL_refl (a : List (List File)) (hg : goodL a) : Ev (fun k => r16_Same k a a) true := (rsameL_ev a a hg).to (eqLL_refl a)

theorem wiped_l0 : ∀ (s p : List File), (p ++ s).length ≤ 9223372036854775000 → Ev (fun k => l16_wiped.l0 k (p ++ s) p.length) (p ++ s.map fun _ => (⟨(-7), 0, (ByteArray.mk #[]), (ByteArray.mk #[]), 0, 0⟩ : File))
  | [], p, hl => by
    refine Ev.succ ?_
    simp only [l16_wiped.l0, lt_end, Bool.false_eq_true, if_false, List.map_nil]
    exact Ev.ret
  | f :: s, p, hl => by
    refine Ev.succ ?_
    simp only [l16_wiped.l0, lt_at, idx_at, if_true, Option.bind_some, upd_at, step_at p s f (by rw [maxLen_val]; omega)]
    have := wiped_l0 s (p ++ [(⟨(-7), 0, (ByteArray.mk #[]), (ByteArray.mk #[]), 0, 0⟩ : File)]) (by simp at hl ⊢; omega)
    simpa using this
theorem wiped_ev (l : List File) (hl : l.length ≤ 9223372036854775000) : Ev (fun k => l16_wiped k l) (l.map fun _ => (⟨(-7), 0, (ByteArray.mk #[]), (ByteArray.mk #[]), 0, 0⟩ : File)) := wiped_l0 l [] (by simpa using hl)
end Go.Proofs.Ytbbepmmelpabbaa.Mo

/- Spans: the law. -/
set_option maxRecDepth 100000
namespace Go.Proofs.Ytbbepmmelpabbaa.Mo
open Go Go.Proofs.Ytbbepmmelpabbaa.Sy

theorem equal_l0 (a b : List File) (hab : a.length = b.length) (hl : a.length ≤ 9223372036854775000) : ∀ (u v p q : List File), a = p ++ u → b = q ++ v → p.length = q.length → Ev (fun k => slices_Equal_File.l0 a b k p.length) (eqlB u v)
  | [], v, p, q, hp, hq, he => by
    have : v = [] := by
      rw [hp, hq] at hab
      simp at hab
      exact List.eq_nil_of_length_eq_zero (by omega)
    subst this
    subst hp
    refine Ev.succ ?_
    simp only [slices_Equal_File.l0, lt_end, Bool.false_eq_true, if_false]
    exact Ev.ret
  | x :: u, [], p, q, hp, hq, he => by
    rw [hp, hq] at hab
    simp at hab
    omega
  | x :: u, y :: v, p, q, hp, hq, he => by
    have e1 : decide ((p.length : Int) < (a.length : Int)) = true := by rw [hp]; exact lt_at p u x
    have e2 : idx a (p.length : Int) = some x := by rw [hp]; exact idx_at p x u
    have e3 : idx b (p.length : Int) = some y := by rw [hq, he]; exact idx_at q y v
    refine Ev.succ ?_
    simp only [slices_Equal_File.l0, e1, e2, e3, if_true, Option.bind_some, step_at p u x (by rw [← hp, maxLen_val]; omega), eqlB]
    by_cases h : File.eqb x y = true
    · simp only [h, Bool.not_true, Bool.false_eq_true, if_false, Bool.true_and]
      exact equal_l0 a b hab hl u v (p ++ [x]) (q ++ [y]) (by simp [hp]) (by simp [hq]) (by simp [he])
    · have h' := Bool.eq_false_iff.2 h
      simp only [h', Bool.not_false, if_true, Bool.false_and]
      exact Ev.ret
theorem equalF_ev (a b : List File) (hl : a.length ≤ 9223372036854775000) : Ev (fun k => slices_Equal_File k a b) (eqlB a b) := by
  unfold slices_Equal_File
  by_cases h : a.length = b.length
  · simp only [len_beq h, Bool.false_eq_true, if_false]
    exact equal_l0 a b h hl a b [] [] (by simp) (by simp) rfl
  · simp only [len_bne h, if_true, eqlB_len h]
    exact Ev.ret
theorem vsame_l0 (a b : List (List File)) (hab : a.length = b.length) (hg : goodL a) : ∀ (u v p q : List (List File)), a = p ++ u → b = q ++ v → p.length = q.length → Ev (fun k => version_Same.l0 a b (fun b_17 => some b_17) k p.length) (eqLL u v)
  | [], v, p, q, hp, hq, he => by
    have : v = [] := by
      rw [hp, hq] at hab
      simp at hab
      exact List.eq_nil_of_length_eq_zero (by omega)
    subst this
    have e1 : decide ((p.length : Int) < (a.length : Int)) = false := by rw [hp]; exact lt_end p
    refine Ev.succ ?_
    simp only [version_Same.l0, e1, Bool.false_eq_true, if_false]
    exact Ev.ret
  | x :: u, [], p, q, hp, hq, he => by
    rw [hp, hq] at hab
    simp at hab
    omega
  | x :: u, y :: v, p, q, hp, hq, he => by
    have hal := hg.2
    have hxl := (hg.1 x (by rw [hp]; simp)).1
    have e1 : decide ((p.length : Int) < (a.length : Int)) = true := by rw [hp]; exact lt_at p u x
    have e4 : idx b (p.length : Int) = some y := by rw [he]; exact idx_l hq
    have ih := vsame_l0 a b hab hg u v (p ++ [x]) (q ++ [y]) (by simp [hp]) (by simp [hq]) (by simp [he])
    refine Ev.succ ?_
    simp only [version_Same.l0, e1, if_true, step_at p u x (by rw [← hp, maxLen_val]; omega)]
    refine Ev.bind0 (idx_l hp) ?_
    refine Ev.bind0 e4 ?_
    refine Ev.bind (Ev.bind (equalF_ev x y (by omega)) Ev.ret) ?_
    cases h : eqlB x y with
    | true =>
      simp only [Bool.not_true, Bool.false_eq_true, if_false, eqLL, h, Bool.true_and]
      exact ih
    | false =>
      simp only [Bool.not_false, if_true, eqLL, h, Bool.false_and]
      exact Ev.ret
theorem vsame_ev (a b : List (List File)) (hg : goodL a) : Ev (fun k => version_Same k a b) (eqLL a b) := by
  unfold version_Same
  by_cases h : a.length = b.length
  · simp only [len_beq h, Bool.false_eq_true, if_false, Jn]
    exact vsame_l0 a b h hg a b [] [] (by simp) (by simp) rfl
  · simp only [len_bne h, if_true, eqLL_len h, Jn]
    exact Ev.ret
theorem sEq_refl (a : ByteArray) : sEq a a = true := sEq_iff.2 rfl
theorem spans_law (f : List File) (hf : f.length ≤ 2199023255552) (a b : List (List File)) (ha : goodL a) (hl : a.length ≤ 5864062014805) (hb : goodL b) : Ev (fun k => l16_VersionSpans k f a b) true := by
  unfold l16_VersionSpans
  refine Ev.bind0 (pushN_ok (show ([] : List File).length + f.length ≤ 3518437208730 by rw [List.length_nil]; omega)) ?_
  rw [List.nil_append]
  refine Ev.bind (span_ev f (by omega)) ?_
  refine Ev.bind (rspan_ev f (by omega)) ?_
  refine Ev.bind one_ev ?_
  simp only [Jn, sEq_refl, beq_self_eq_true, Bool.and_self, if_true]
  refine Ev.bind (lfiles_ev f f (by omega)) ?_
  simp only [eqlB_refl, if_true]
  refine Ev.bind (copied_ev a ha hl) ?_
  refine Ev.bind (vsame_ev a b ha) ?_
  refine Ev.bind (rsameL_ev a b ha) ?_
  simp only [beq_self_eq_true, if_true]
  refine Ev.bind (copied_ev a ha hl) ?_
  refine Ev.bind (vsame_ev a a ha) ?_
  rw [eqLL_refl]
  exact Ev.ret
end Go.Proofs.Ytbbepmmelpabbaa.Mo

/- Apply: both ways come to the same levels. Part one: the pieces. -/
set_option maxRecDepth 100000
namespace Go.Proofs.Ytbbepmmelpabbaa.Mo
open Go Go.Proofs.Ytbbepmmelpabbaa.Sy

/-! ### The order of a level -/
def cK (i : Int) (a b : File) : Int :=
  if i = 0 then (if a.Number < b.Number then -1 else if b.Number < a.Number then 1 else 0) else (if slt a.Least b.Least then -1 else if slt b.Least a.Least then 1 else 0)
abbrev ltK (i : Int) : File → File → Prop := ltcFile (cK i)
theorem ltK_iff {i : Int} {a b : File} : ltK i a b ↔ if i = 0 then a.Number < b.Number else slt a.Least b.Least := by
  show cK i a b < 0 ↔ _
  unfold cK
  by_cases h : i = 0
  · simp only [h, if_true]
    split
    · simp [*]
    · split <;> simp [*]
  · simp only [h, if_false]
    split
    · simp [*]
    · split <;> simp [*]
theorem wo_key (i : Int) : Wo (ltK i) := by
  refine ⟨fun x y h k => ?_, fun x y z h k => ?_⟩
  · rw [ltK_iff] at h k
    by_cases e : i = 0
    · simp only [e, if_true] at h k; omega
    · simp only [e, if_false] at h k; exact slt_asymm h k
  · rw [ltK_iff] at h k ⊢
    by_cases e : i = 0
    · simp only [e, if_true] at h k ⊢; omega
    · simp only [e, if_false] at h k ⊢; exact sle_trans (a := z.Least) (b := y.Least) (c := x.Least) k h
theorem key_eq (i : Int) (a b : File) : version_sorted_1 a b i = some (cK i a b) := by
  unfold version_sorted_1 cK
  by_cases h : i = 0
  · subst h
    simp only [beq_self_eq_true, if_true, cmp_Compare_int, cmp_isNaN_int, bne_self_eq_false, Option.bind_some, Bool.false_eq_true, if_false, decide_eq_true_eq]
    split
    · rfl
    · split <;> rfl
  · have e : (i == 0) = false := by simp [h]
    simp only [e, Bool.false_eq_true, if_false, h, cmp_Compare_string, cmp_isNaN_string, sEq_refl, Bool.not_true, Option.bind_some, sLt_iff, sLe_dec]
    by_cases h1 : slt a.Least b.Least
    · simp only [h1, if_true, Option.bind_some]
    · simp only [h1, if_false]
      by_cases h2 : slt b.Least a.Least
      · have h3 : ¬ sle a.Least b.Least := fun h => h h2
        simp only [h2, h3, decide_false, Bool.not_false, if_true, Option.bind_some]
      · have h3 : sle a.Least b.Least := h2
        simp only [h2, h3, decide_true, Bool.not_true, Bool.false_eq_true, if_false, Option.bind_some]
theorem sorted_key (i : Int) (x : List File) (hx : x.length ≤ 1152921504606846976) : ∃ y, Srt (ltK i) y ∧ Sst (ltK i) x y ∧ Ev (fun k => version_sorted k i x) y := by
  obtain ⟨y, h1, h2, h3⟩ := stable_File (cmp := fun x0 x1 => version_sorted_1 x0 x1 i) (c := cK i) (fun a b => key_eq i a b) (wo_key i) x hx
  exact ⟨y, h1, h2, h3.bind Ev.ret⟩

/-! ### The document's insertion -/
theorem put_l0 (i : Int) (hi : 0 ≤ i) (f : File) : ∀ (n : Nat) (q s : List File), q.length = n → (q ++ f :: s).length ≤ 9223372036854775000 → Srt (ltK i) q → (∀ y ∈ s, ltK i f y) →
    ∃ q1 q2, q = q1 ++ q2 ∧ (∀ y ∈ q1, ¬ ltK i f y) ∧ (∀ y ∈ q2, ltK i f y) ∧ Ev (fun k => r16_put.l0 i f k (q ++ f :: s) q.length) (q1 ++ f :: (q2 ++ s)) := by
  intro n
  induction n with
  | zero =>
    intro q s hn hl hs hgt
    have : q = [] := List.eq_nil_of_length_eq_zero hn
    subst this
    refine ⟨[], [], rfl, by simp, by simp, Ev.succ ?_⟩
    have h0 : decide ((0 : Int) < ((([] : List File).length : Nat) : Int)) = false := by decide
    simp only [r16_put.l0, h0, Bool.false_eq_true, if_false, Jn]
    exact Ev.ret
  | succ n ih =>
    intro q s hn hl hs hgt
    rcases nil_or_snoc q with rfl | ⟨q, y, rfl⟩
    · simp at hn
    · have h0 : decide ((0 : Int) < (((q ++ [y]).length : Nat) : Int)) = true := pos_snoc q y
      have hbk : w64 (((q ++ [y]).length : Int) - 1) = (q.length : Int) := back_at q s y f (by rw [maxLen_val]; omega)
      have e1 : idx (q ++ [y] ++ f :: s) (q.length : Int) = some y := by rw [List.append_assoc]; exact idx_at q y _
      have e2 : idx (q ++ [y] ++ f :: s) ((q ++ [y]).length : Int) = some f := idx_at (q ++ [y]) f s
      have e3 : upd (q ++ [y] ++ f :: s) ((q ++ [y]).length : Int) y = some (q ++ [y] ++ y :: s) := upd_at (q ++ [y]) s f y
      have e4 : idx (q ++ [y] ++ y :: s) (q.length : Int) = some y := by rw [List.append_assoc]; exact idx_at q y _
      have e5 : upd (q ++ [y] ++ y :: s) (q.length : Int) f = some (q ++ f :: (y :: s)) := by rw [List.append_assoc]; exact upd_at q (y :: s) y f
      have hs' := Srt.app.1 hs
      by_cases hc : ltK i f y
      · obtain ⟨q1, q2, g1, g2, g3, g4⟩ := ih q (y :: s) (by simp at hn; omega) (by simp at hl ⊢; omega) hs'.1 (fun z hz => by
          rcases List.mem_cons.1 hz with rfl | hz
          · exact hc
          · exact hgt z hz)
        refine ⟨q1, q2 ++ [y], by rw [g1, List.append_assoc], g2, fun z hz => ?_, Ev.succ ?_⟩
        · rcases List.mem_append.1 hz with hz | hz
          · exact g3 z hz
          · simp at hz; subst hz; exact hc
        · have goal : Ev (fun k => (idx (q ++ [y] ++ f :: s) (w64 (((q ++ [y]).length : Int) - 1))).bind fun x350 => (idx (q ++ [y] ++ f :: s) ((q ++ [y]).length : Int)).bind fun x351 => (upd (q ++ [y] ++ f :: s) ((q ++ [y]).length : Int) x350).bind fun l352 => (idx l352 (w64 (((q ++ [y]).length : Int) - 1))).bind fun x354 => (upd l352 (w64 (((q ++ [y]).length : Int) - 1)) f).bind fun l355 => r16_put.l0 i f k l355 (w64 (((q ++ [y]).length : Int) - 1))) (q1 ++ f :: (q2 ++ [y] ++ s)) := by
            simp only [hbk, e1, e2, e3, e4, e5, Option.bind_some]
            rw [List.append_assoc]
            exact g4
          rw [ltK_iff] at hc
          by_cases hz : i = 0
          · subst hz
            simp only [if_true] at hc
            have c1 : decide (f.Number < y.Number) = true := decide_eq_true hc
            simp only [r16_put.l0, h0, if_true, Jn, beq_self_eq_true]
            simp only [hbk, e1, Option.bind_some, c1, if_true]
            simp only [hbk, e1, Option.bind_some] at goal
            exact goal
          · simp only [hz, if_false] at hc
            have c0 : (i == 0) = false := by simp [hz]
            have c1 : decide (0 < i) = true := decide_eq_true (by omega)
            have c2 : (!(sLt y.Least f.Least || sEq y.Least f.Least)) = true := by
              rw [sLe_dec, Bool.not_eq_true']; exact decide_eq_false (fun h => h hc)
            simp only [r16_put.l0, h0, if_true, Jn, c0, c1, Bool.false_eq_true, if_false]
            simp only [hbk, e1, Option.bind_some, c2, if_true]
            simp only [hbk, e1, Option.bind_some] at goal
            exact goal
      · refine ⟨q ++ [y], [], by simp, fun z hz => ?_, by simp, Ev.succ ?_⟩
        · rcases List.mem_append.1 hz with hz | hz
          · have := hs'.2.2 z hz y (by simp)
            exact fun h => hc ((wo_key i).lt_le h this)
          · simp at hz; subst hz; exact hc
        · rw [ltK_iff] at hc
          rw [List.nil_append]
          by_cases hz : i = 0
          · subst hz
            simp only [if_true] at hc
            have c1 : decide (f.Number < y.Number) = false := decide_eq_false hc
            have c2 : decide ((0 : Int) < 0) = false := by decide
            simp only [r16_put.l0, h0, if_true, Jn, beq_self_eq_true, hbk, e1, Option.bind_some, c1, c2, Bool.false_eq_true, if_false]
            exact Ev.ret
          · simp only [hz, if_false] at hc
            have c0 : (i == 0) = false := by simp [hz]
            have c1 : decide (0 < i) = true := decide_eq_true (by omega)
            have c2 : (!(sLt y.Least f.Least || sEq y.Least f.Least)) = false := by
              rw [sLe_dec, Bool.not_eq_false']; exact decide_eq_true hc
            simp only [r16_put.l0, h0, if_true, Jn, c0, c1, Bool.false_eq_true, if_false, hbk, e1, Option.bind_some, c2]
            exact Ev.ret
theorem put_ev (i : Int) (hi : 0 ≤ i) (f : File) (x : List File) (hx : x.length ≤ 3518437208000) (hs : Srt (ltK i) x) : ∃ y, Srt (ltK i) y ∧ Sst (ltK i) (x ++ [f]) y ∧ Ev (fun k => r16_put k x i f) y := by
  obtain ⟨q1, q2, g1, g2, g3, g4⟩ := put_l0 i hi f x.length x [] rfl (by simp; omega) hs (by simp)
  refine ⟨q1 ++ f :: q2, ins_srt (wo_key i) (by rw [← g1]; exact hs) g2 g3, by rw [g1]; exact ins_sst (wo_key i) g3, ?_⟩
  unfold r16_put
  simp only [Jn]
  refine Ev.bind0 (pushN_ok (by rw [List.length_nil]; omega)) ?_
  rw [List.nil_append]
  refine Ev.bind0 (push_ok (by omega)) ?_
  have hw : w64 (((x ++ [f]).length : Int) - 1) = (x.length : Int) := by
    rw [List.length_append, List.length_singleton, w64_of (by omega) (by omega)]; omega
  rw [hw]
  simpa using g4
end Go.Proofs.Ytbbepmmelpabbaa.Mo

/- Apply: both ways come to the same levels. Part two: the loops. -/
set_option maxRecDepth 100000
namespace Go.Proofs.Ytbbepmmelpabbaa.Mo
open Go Go.Proofs.Ytbbepmmelpabbaa.Sy

/-! ### One file goes -/
theorem first_num {n : Int} : ∀ {x : List File}, n ∈ nums x → ∃ p f s, x = p ++ f :: s ∧ f.Number = n ∧ ∀ y ∈ p, y.Number ≠ n
  | [], h => by simp [nums] at h
  | f :: x, h => by
    by_cases e : f.Number = n
    · exact ⟨[], f, x, rfl, e, by simp⟩
    · have : n ∈ nums x := by
        rcases List.mem_cons.1 (show n ∈ f.Number :: nums x from h) with h | h
        · exact absurd h.symm e
        · exact h
      obtain ⟨p, g, s, h1, h2, h3⟩ := first_num this
      exact ⟨f :: p, g, s, by rw [h1]; rfl, h2, fun y hy => by
        rcases List.mem_cons.1 hy with rfl | hy
        · exact e
        · exact h3 y hy⟩
def lessN (n : Int) (x : List File) : List File := x.filter fun f => f.Number != n
theorem lessN_at {n : Int} {p s : List File} {f : File} (hd : (nums (p ++ f :: s)).Nodup) (hn : f.Number = n) (hp : ∀ y ∈ p, y.Number ≠ n) : lessN n (p ++ f :: s) = p ++ s := by
  have hs : ∀ y ∈ s, y.Number ≠ n := fun y hy e => by
    have h1 : (nums p ++ f.Number :: nums s).Nodup := by simpa [nums] using hd
    have h2 := (List.nodup_cons.1 (List.nodup_append.1 h1).2.1).1
    exact h2 (by rw [hn, ← e]; exact List.mem_map_of_mem hy)
  have e1 : (p.filter fun f => f.Number != n) = p := List.filter_eq_self.2 fun y hy => by simpa using hp y hy
  have e2 : (s.filter fun f => f.Number != n) = s := List.filter_eq_self.2 fun y hy => by simpa using hs y hy
  have e3 : ¬ ((f.Number != n) = true) := by simp [hn]
  simp only [lessN, List.filter_append, List.filter_cons, e1, e2, if_neg e3]
theorem lessN_len {n : Int} {x : List File} : (lessN n x).length = x.length ↔ n ∉ nums x := by
  unfold lessN
  rw [List.length_filter_eq_length_iff]
  constructor
  · intro h hm
    obtain ⟨f, hf, e⟩ := List.mem_map.1 hm
    have := h f hf
    simp [e] at this
  · intro h f hf
    simp only [bne_iff_ne, ne_eq]
    exact fun e => h (by rw [← e]; exact List.mem_map_of_mem hf)
theorem lessN_sub (n : Int) (x : List File) : (lessN n x).Sublist x := List.filter_sublist
theorem lessN_nodup {n : Int} {x : List File} (h : (nums x).Nodup) : (nums (lessN n x)).Nodup := h.sublist ((lessN_sub n x).map _)

theorem index_l0 (g : Place) (x : List File) (hl : x.length ≤ 9223372036854775000) (f : File) (s : List File) (hf : f.Number = g.Number) : ∀ (m p : List File), x = p ++ m ++ f :: s → (∀ y ∈ m, y.Number ≠ g.Number) → Ev (fun k => slices_IndexFunc_File.l0 x (fun x0 => version_Apply_1 x0 g) k p.length) ((p ++ m).length : Int)
  | [], p, hp, hm => by
    rw [List.append_nil] at hp
    have e1 : decide ((p.length : Int) < (x.length : Int)) = true := by rw [hp]; exact lt_at p s f
    have e2 : idx x (p.length : Int) = some f := by rw [hp]; exact idx_at p f s
    have e3 : version_Apply_1 f g = some true := by simp [version_Apply_1, hf]
    refine Ev.succ ?_
    simp only [slices_IndexFunc_File.l0, e1, e2, if_true, Option.bind_some, e3, List.append_nil]
    exact Ev.ret
  | y :: m, p, hp, hm => by
    have hp' : x = p ++ y :: (m ++ f :: s) := by rw [hp]; simp
    have e1 : decide ((p.length : Int) < (x.length : Int)) = true := by rw [hp']; exact lt_at p _ y
    have e2 : idx x (p.length : Int) = some y := by rw [hp']; exact idx_at p y _
    have e3 : version_Apply_1 y g = some false := by simpa [version_Apply_1] using hm y (by simp)
    refine Ev.succ ?_
    simp only [slices_IndexFunc_File.l0, e1, e2, if_true, Option.bind_some, e3, Bool.false_eq_true, if_false, step_at p (m ++ f :: s) y (by rw [← hp', maxLen_val]; omega)]
    have := index_l0 g x hl f s hf m (p ++ [y]) (by rw [hp]; simp) (fun z hz => hm z (List.mem_cons_of_mem _ hz))
    simpa using this
theorem index_no (g : Place) (x : List File) (hl : x.length ≤ 9223372036854775000) : ∀ (m p : List File), x = p ++ m → (∀ y ∈ m, y.Number ≠ g.Number) → Ev (fun k => slices_IndexFunc_File.l0 x (fun x0 => version_Apply_1 x0 g) k p.length) (-1)
  | [], p, hp, hm => by
    have e1 : decide ((p.length : Int) < (x.length : Int)) = false := by rw [hp]; exact lt_end p
    refine Ev.succ ?_
    simp only [slices_IndexFunc_File.l0, e1, Bool.false_eq_true, if_false]
    exact Ev.ret
  | y :: m, p, hp, hm => by
    have e1 : decide ((p.length : Int) < (x.length : Int)) = true := by rw [hp]; exact lt_at p _ y
    have e2 : idx x (p.length : Int) = some y := by rw [hp]; exact idx_at p y _
    have e3 : version_Apply_1 y g = some false := by simpa [version_Apply_1] using hm y (by simp)
    refine Ev.succ ?_
    simp only [slices_IndexFunc_File.l0, e1, e2, if_true, Option.bind_some, e3, Bool.false_eq_true, if_false, step_at p m y (by rw [← hp, maxLen_val]; omega)]
    exact index_no g x hl m (p ++ [y]) (by rw [hp]; simp) (fun z hz => hm z (List.mem_cons_of_mem _ hz))

theorem cut_ok {α : Type} {l : List α} {i j : Nat} (h1 : i ≤ j) (h2 : j ≤ l.length) : cut l (i : Int) (j : Int) = some ((l.take j).drop i) := by
  unfold cut
  rw [if_pos ⟨by omega, by omega, by omega⟩]
  simp
theorem delete_at (p s : List File) (f : File) : slices_Delete_File (p ++ f :: s) (p.length : Int) ((p.length + 1 : Nat) : Int) = some (p ++ s) := by
  have hlen : (p ++ f :: s).length = p.length + 1 + s.length := by simp; omega
  have e0 : ((p.length : Int) == ((p.length + 1 : Nat) : Int)) = false := by rw [beq_eq_false_iff_ne]; omega
  have hlt : (p.length : Int) < ((p.length + 1 : Nat) : Int) := by omega
  have hsa : selfApp (p ++ f :: s) p.length (p.length + 1) = p ++ s ++ (p ++ f :: s).drop (p.length + s.length) := by
    unfold selfApp
    have : p.length + ((p ++ f :: s).length - (p.length + 1)) = p.length + s.length := by omega
    rw [this]
    congr 1
    rw [List.take_left]
    congr 1
    rw [show p.length + 1 = (p ++ [f]).length by simp, show p ++ f :: s = (p ++ [f]) ++ s by simp, List.drop_left]
  have hsl : (selfApp (p ++ f :: s) p.length (p.length + 1)).length = p.length + 1 + s.length := by
    rw [hsa]; simp; omega
  have en : p.length + ((p ++ f :: s).length - (p.length + 1)) = p.length + s.length := by omega
  have z0 : (0 : Int) = ((0 : Nat) : Int) := rfl
  have c1 : cut (p ++ f :: s) (p.length : Int) ((p.length + 1 : Nat) : Int) = some _ := cut_ok (by omega) (by omega)
  have c2 : cut (p ++ f :: s) 0 (p.length : Int) = some _ := cut_ok (i := 0) (by omega) (by omega)
  have c3 : cut (p ++ f :: s) ((p.length + 1 : Nat) : Int) ((p ++ f :: s).length : Int) = some _ := cut_ok (by omega) (by omega)
  have c4 : cut (selfApp (p ++ f :: s) p.length (p.length + 1)) 0 ((p.length + s.length : Nat) : Int) = some (p ++ s) := by
    rw [z0, cut_ok (by omega) (by omega), hsa]
    congr 1
    rw [List.drop_zero, show p.length + s.length = (p ++ s).length by simp, List.take_left]
  have c5 : cut (selfApp (p ++ f :: s) p.length (p.length + 1)) ((p ++ s).length : Int) ((p ++ f :: s).length : Int) = some _ := cut_ok (by simp) (by omega)
  have c6 : cut (clr (selfApp (p ++ f :: s) p.length (p.length + 1)) (p ++ s).length (p ++ f :: s).length (⟨0, 0, (ByteArray.mk #[]), (ByteArray.mk #[]), 0, 0⟩ : File)) 0 ((p.length + s.length : Nat) : Int) = some (p ++ s) := by
    rw [z0, cut_ok (by omega) (by unfold clr; simp only [List.length_append, List.length_take, List.length_drop, List.length_replicate, hsl]; simp; omega)]
    congr 1
    rw [List.drop_zero]
    unfold clr
    have e : List.take (p ++ s).length (selfApp (p ++ f :: s) p.length (p.length + 1)) = p ++ s := by
      rw [hsa, List.take_left]
    rw [e, List.append_assoc, show p.length + s.length = (p ++ s).length by simp, List.take_left]
  unfold slices_Delete_File
  simp only [c1, c2, c3, e0, Option.bind_some, Bool.false_eq_true, if_false, if_pos hlt, Int.toNat_natCast, en, c4, c5, c6]

/-! ### All that go -/
def gone1 (o : List (List File)) (g : Place) : Option (List (List File)) :=
  if (decide (g.Level < 0) || decide ((o.length : Int) ≤ g.Level)) = true then none else
  if g.Number ∈ nums (o.getD g.Level.toNat []) then some (o.set g.Level.toNat (lessN g.Number (o.getD g.Level.toNat []))) else none
def goneS : List (List File) → List Place → Option (List (List File))
  | o, [] => some o
  | o, g :: s => match gone1 o g with
    | none => none
    | some o' => goneS o' s
def okO (o : List (List File)) : Prop := (∀ x ∈ o, (nums x).Nodup ∧ x.length ≤ 2147483647 ∧ ∀ f ∈ x, goodF f) ∧ o.length ≤ 7
theorem okO_set {o : List (List File)} (h : okO o) {i : Nat} {y : List File} (hy : (nums y).Nodup ∧ y.length ≤ 2147483647 ∧ ∀ f ∈ y, goodF f) : okO (o.set i y) := by
  refine ⟨fun x hx => ?_, by rw [List.length_set]; exact h.2⟩
  rcases List.mem_or_eq_of_mem_set hx with hx | rfl
  · exact h.1 x hx
  · exact hy
theorem lessN_ok {x : List File} {n : Int} (h : (nums x).Nodup ∧ x.length ≤ 2147483647 ∧ ∀ f ∈ x, goodF f) : (nums (lessN n x)).Nodup ∧ (lessN n x).length ≤ 2147483647 ∧ ∀ f ∈ lessN n x, goodF f :=
  ⟨lessN_nodup h.1, Nat.le_trans (lessN_sub n x).length_le h.2.1, fun f hf => h.2.2 f ((lessN_sub n x).subset hf)⟩
/-- What stands at a level that there is. -/
theorem at_lev {o : List (List File)} {i : Int} (h : (decide (i < 0) || decide ((o.length : Int) ≤ i)) = false) : ∃ j : Nat, i = (j : Int) ∧ ∃ hj : j < o.length, o[j]? = some o[j] ∧ idx o i = some o[j] ∧ o.getD i.toNat [] = o[j] ∧ o[j] ∈ o ∧ ∀ y, upd o i y = some (o.set j y) := by
  simp only [Bool.or_eq_false_iff, decide_eq_false_iff_not, Int.not_lt, Int.not_le] at h
  obtain ⟨j, rfl⟩ := Int.eq_ofNat_of_zero_le h.1
  have hj : j < o.length := by omega
  refine ⟨j, rfl, hj, List.getElem?_eq_getElem hj, getD_idx hj, ?_, List.getElem_mem hj, fun y => ?_⟩
  · rw [List.getD_eq_getElem?_getD, Int.toNat_natCast, List.getElem?_eq_getElem hj]; rfl
  · unfold upd
    rw [if_pos ⟨by omega, by omega⟩]; rfl

theorem goneS_bad {o : List (List File)} {g : Place} {s : List Place} (hc : (decide (g.Level < 0) || decide ((o.length : Int) ≤ g.Level)) = true) : goneS o (g :: s) = none := by
  simp only [goneS, gone1, hc, if_true]
theorem goneS_no {o : List (List File)} {g : Place} {s : List Place} (hc : (decide (g.Level < 0) || decide ((o.length : Int) ≤ g.Level)) = false) (hm : g.Number ∉ nums (o.getD g.Level.toNat [])) : goneS o (g :: s) = none := by
  simp only [goneS, gone1, hc, Bool.false_eq_true, if_false, if_neg hm]
theorem goneS_go {o : List (List File)} {g : Place} {s : List Place} (hc : (decide (g.Level < 0) || decide ((o.length : Int) ≤ g.Level)) = false) (hm : g.Number ∈ nums (o.getD g.Level.toNat [])) : goneS o (g :: s) = goneS (o.set g.Level.toNat (lessN g.Number (o.getD g.Level.toNat []))) s := by
  simp only [goneS, gone1, hc, Bool.false_eq_true, if_false, if_pos hm]

theorem vgone (e : Edit) (hE : e.Gone.length ≤ 9223372036854775000) (r : List (List File) × Int) :
    ∀ (s p : List Place) (o : List (List File)), e.Gone = p ++ s → okO o → (goneS o s = none → r = ([], 160)) → (∀ o', goneS o s = some o' → okO o' → Ev (fun k => version_Apply.l2 e (fun (l_34 : (List (List File))) => version_Apply.l1 l_34 (fun (l_48 : (List (List File))) => (version_Valid k l_48).bind fun r715 => if (!r715) = true then (some ([], 160)) else (some (l_48, 0))) k l_34 0) k o' 0) r) → Ev (fun k => version_Apply.l0 e k o p.length) r
  | [], p, o, hp, ho, hn, hR => by
    have e1 : decide ((p.length : Int) < (e.Gone.length : Int)) = false := by rw [hp]; exact lt_end p
    refine Ev.succ ?_
    simp only [version_Apply.l0, e1, Bool.false_eq_true, if_false, Jn]
    exact hR o rfl ho
  | g :: s, p, o, hp, ho, hn, hR => by
    have e1 : decide ((p.length : Int) < (e.Gone.length : Int)) = true := by rw [hp]; exact lt_at p s g
    have e2 : idx e.Gone (p.length : Int) = some g := by rw [hp]; exact idx_at p g s
    refine Ev.succ ?_
    simp only [version_Apply.l0, e1, e2, if_true, Option.bind_some, step_at p s g (by rw [← hp, maxLen_val]; omega)]
    cases hc : (decide (g.Level < 0) || decide ((o.length : Int) ≤ g.Level)) with
    | true =>
      simp only [if_true]
      rw [hn (goneS_bad hc)]
      exact Ev.ret
    | false =>
      obtain ⟨j, hj, hjl, a1, a2, a3, a4, a5⟩ := at_lev hc
      have hok := ho.1 _ a4
      simp only [Bool.false_eq_true, if_false, a2, a5, Option.bind_some]
      by_cases hm : g.Number ∈ nums o[j]
      · obtain ⟨q, f, t, h1, h2, h3⟩ := first_num hm
        have hidx := index_l0 g o[j] (by omega) f t h2 q [] (by rw [h1]; simp) h3
        refine Ev.bind hidx ?_
        have hql : q.length + 1 ≤ 2147483647 := by
          have := hok.2.1
          rw [h1] at this
          simp at this
          omega
        have c1 : decide ((([] ++ q).length : Int) < 0) = false := decide_eq_false (by omega)
        have c2 : w64 ((([] ++ q).length : Int) + 1) = ((q.length + 1 : Nat) : Int) := by rw [List.nil_append, w64_of (by omega) (by omega)]; omega
        have hdel : slices_Delete_File o[j] (([] ++ q).length : Int) ((q.length + 1 : Nat) : Int) = some (q ++ t) := by rw [h1, List.nil_append]; exact delete_at q t f
        have hless : lessN g.Number o[j] = q ++ t := by
          have := lessN_at (n := g.Number) (p := q) (s := t) (f := f) (by rw [← h1]; exact hok.1) h2 h3
          rw [← this, ← h1]
        have ht : g.Level.toNat = j := by rw [hj]; simp
        have hgo := goneS_go (s := s) hc (by rw [a3]; exact hm)
        rw [a3, hless, ht] at hgo
        rw [hgo] at hn hR
        have ih := vgone e hE r s (p ++ [g]) (o.set j (q ++ t)) (by simp [hp]) (okO_set ho (by rw [← hless]; exact lessN_ok hok)) hn hR
        simp only [c1, Bool.false_eq_true, if_false, c2, hdel, Option.bind_some]
        exact ih
      · refine Ev.bind (index_no g o[j] (by omega) o[j] [] rfl (fun y hy h => hm (by rw [← h]; exact List.mem_map_of_mem hy))) ?_
        have c1 : decide ((-1 : Int) < 0) = true := by decide
        simp only [c1, if_true]
        rw [hn (goneS_no hc (by rw [a3]; exact hm))]
        exact Ev.ret

theorem rgone_l3 (o : List (List File)) (g : Place) (x : List File) (hx : idx o g.Level = some x) (hl : x.length ≤ 2147483647) : ∀ (s p : List File) (acc : List File), x = p ++ s → acc.length ≤ p.length → ∀ (J : Nat → List File → Option ((List (List File)) × Int)) r, Ev (fun k => J k (acc ++ lessN g.Number s)) r → Ev (fun k => r16_Apply.l3 o g (J k) k acc p.length) r
  | [], p, acc, hp, ha, J, r, hJ => by
    have e1 : decide ((p.length : Int) < (x.length : Int)) = false := by rw [hp]; exact lt_end p
    refine Ev.succ ?_
    simp only [r16_Apply.l3, hx, Option.bind_some, e1, Bool.false_eq_true, if_false]
    simpa [lessN] using hJ.shift
  | f :: s, p, acc, hp, ha, J, r, hJ => by
    have e1 : decide ((p.length : Int) < (x.length : Int)) = true := by rw [hp]; exact lt_at p s f
    have e2 : idx x (p.length : Int) = some f := by rw [hp]; exact idx_at p f s
    have hpl : p.length + 1 ≤ x.length := by rw [hp]; simp
    refine Ev.succ ?_
    simp only [r16_Apply.l3, hx, Option.bind_some, e1, e2, if_true, Jn, step_at p s f (by rw [← hp, maxLen_val]; omega)]
    by_cases h : (f.Number != g.Number) = true
    · have e : lessN g.Number (f :: s) = f :: lessN g.Number s := by simp only [lessN, List.filter_cons, if_pos h]
      rw [e] at hJ
      simp only [h, if_true, push_ok (show acc.length < 3518437208730 by omega), Option.bind_some]
      exact rgone_l3 o g x hx hl s (p ++ [f]) (acc ++ [f]) (by simp [hp]) (by simp; omega) (fun k => J (k + 1)) r (by simpa using hJ.shift)
    · have e : lessN g.Number (f :: s) = lessN g.Number s := by simp only [lessN, List.filter_cons, if_neg h]
      rw [e] at hJ
      simp only [h, if_false]
      exact rgone_l3 o g x hx hl s (p ++ [f]) acc (by simp [hp]) (by simp; omega) (fun k => J (k + 1)) r hJ.shift
theorem rgone (e : Edit) (hE : e.Gone.length ≤ 9223372036854775000) (r : List (List File) × Int) :
    ∀ (s p : List Place) (o : List (List File)) (J : Nat → List (List File) → Option ((List (List File)) × Int)), e.Gone = p ++ s → okO o → (goneS o s = none → r = ([], 160)) → (∀ o', goneS o s = some o' → okO o' → Ev (fun k => J k o') r) → Ev (fun k => r16_Apply.l2 e (J k) k o p.length) r
  | [], p, o, J, hp, ho, hn, hR => by
    have e1 : decide ((p.length : Int) < (e.Gone.length : Int)) = false := by rw [hp]; exact lt_end p
    refine Ev.succ ?_
    simp only [r16_Apply.l2, e1, Bool.false_eq_true, if_false]
    exact (hR o rfl ho).shift
  | g :: s, p, o, J, hp, ho, hn, hR => by
    have e1 : decide ((p.length : Int) < (e.Gone.length : Int)) = true := by rw [hp]; exact lt_at p s g
    have e2 : idx e.Gone (p.length : Int) = some g := by rw [hp]; exact idx_at p g s
    refine Ev.succ ?_
    simp only [r16_Apply.l2, e1, e2, if_true, Option.bind_some, Jn, step_at p s g (by rw [← hp, maxLen_val]; omega)]
    cases hc : (decide (g.Level < 0) || decide ((o.length : Int) ≤ g.Level)) with
    | true =>
      simp only [if_true]
      rw [hn (goneS_bad hc)]
      exact Ev.ret
    | false =>
      obtain ⟨j, hj, hjl, a1, a2, a3, a4, a5⟩ := at_lev hc
      have hok := ho.1 _ a4
      simp only [Bool.false_eq_true, if_false]
      refine rgone_l3 o g o[j] a2 hok.2.1 o[j] [] [] rfl (by simp) (fun k l_838 => (idx o g.Level).bind fun x4673 => if ((l_838.length : Int) == (x4673.length : Int)) = true then (some ([], 160)) else ((idx o g.Level).bind fun x4680 => (upd o g.Level l_838).bind fun l4686 => r16_Apply.l2 e (J (k + 1)) k l4686 ((p ++ [g]).length : Int))) _ ?_
      rw [List.nil_append]
      simp only [a2, a5, Option.bind_some]
      by_cases hm : g.Number ∈ nums o[j]
      · have hne : (((lessN g.Number o[j]).length : Int) == (o[j].length : Int)) = false := by
          rw [beq_eq_false_iff_ne, ne_eq, Int.natCast_inj, lessN_len]
          exact fun h => h hm
        have ht : g.Level.toNat = j := by rw [hj]; simp
        have hgo := goneS_go (s := s) hc (by rw [a3]; exact hm)
        rw [a3, ht] at hgo
        rw [hgo] at hn hR
        have ih := rgone e hE r s (p ++ [g]) (o.set j (lessN g.Number o[j])) (fun k => J (k + 1)) (by simp [hp]) (okO_set ho (lessN_ok hok)) hn (fun o' h1 h2 => (hR o' h1 h2).shift)
        simp only [hne, Bool.false_eq_true, if_false]
        exact ih
      · have heq : (((lessN g.Number o[j]).length : Int) == (o[j].length : Int)) = true := by
          rw [beq_iff_eq, Int.natCast_inj, lessN_len]
          exact hm
        simp only [heq, if_true]
        rw [hn (goneS_no hc (by rw [a3]; exact hm))]
        exact Ev.ret
end Go.Proofs.Ytbbepmmelpabbaa.Mo

/- Apply: both ways come to the same levels. Part three: what comes, and the whole. -/
set_option maxRecDepth 100000
namespace Go.Proofs.Ytbbepmmelpabbaa.Mo
open Go Go.Proofs.Ytbbepmmelpabbaa.Sy

/-! ### Sorted, each level -/
def RelG : Nat → List (List File) → List (List File) → Prop
  | _, [], [] => True
  | i, x :: u, y :: v => Srt (ltK (i : Int)) y ∧ Sst (ltK (i : Int)) x y ∧ RelG (i + 1) u v
  | _, _, _ => False
theorem RelG.len : ∀ {i : Nat} {u v : List (List File)}, RelG i u v → u.length = v.length
  | _, [], [], _ => rfl
  | _, x :: u, y :: v, h => by simp [RelG.len h.2.2]
  | _, [], y :: v, h => h.elim
  | _, x :: u, [], h => h.elim
theorem RelG.uniq : ∀ {i : Nat} {u v v' : List (List File)}, RelG i u v → RelG i u v' → v = v'
  | _, [], [], [], _, _ => rfl
  | i, x :: u, y :: v, y' :: v', h, h' => by
    rw [RelG.uniq h.2.2 h'.2.2, Sst.uniq (wo_key i) h.1 h'.1 (h.2.1.symm.trans h'.2.1)]
  | _, [], y :: v, _, h, _ => h.elim
  | _, x :: u, [], _, h, _ => h.elim
  | _, [], [], y :: v, _, h => h.elim
  | _, x :: u, y :: v, [], _, h => h.elim
theorem RelG.at : ∀ {i j : Nat} {u v : List (List File)} {x : List File}, RelG i u v → u[j]? = some x → ∃ y, v[j]? = some y ∧ Srt (ltK ((i + j : Nat) : Int)) y ∧ Sst (ltK ((i + j : Nat) : Int)) x y
  | i, 0, x :: u, y :: v, z, h, hj => by
    have : x = z := by simpa using hj
    subst this
    exact ⟨y, rfl, h.1, h.2.1⟩
  | i, j + 1, x :: u, y :: v, z, h, hj => by
    obtain ⟨y', h1, h2, h3⟩ := RelG.at (j := j) h.2.2 (by simpa using hj)
    rw [show i + 1 + j = i + (j + 1) by omega] at h2 h3
    exact ⟨y', by simpa using h1, h2, h3⟩
  | _, _, [], [], _, _, h => by simp at h
  | _, _, [], y :: v, _, h, _ => h.elim
  | _, _, x :: u, [], _, h, _ => h.elim
theorem RelG.set : ∀ {i j : Nat} {u v : List (List File)} {x y : List File}, RelG i u v → Srt (ltK ((i + j : Nat) : Int)) y → Sst (ltK ((i + j : Nat) : Int)) x y → RelG i (u.set j x) (v.set j y)
  | i, 0, x :: u, y :: v, _, _, h, h1, h2 => ⟨h1, h2, h.2.2⟩
  | i, j + 1, x :: u, y :: v, _, _, h, h1, h2 => ⟨h.1, h.2.1, RelG.set h.2.2 (by rw [show i + 1 + j = i + (j + 1) by omega]; exact h1) (by rw [show i + 1 + j = i + (j + 1) by omega]; exact h2)⟩
  | _, _, [], [], _, _, h, _, _ => by simpa using h
  | _, _, [], y :: v, _, _, h, _, _ => h.elim
  | _, _, x :: u, [], _, _, h, _, _ => h.elim
/-- A valid level stands in its order, each file above the one ahead of it. -/
theorem okF_strict {i : Nat} : ∀ {s : List File} {pv : Option File}, okF i pv s = true → (∀ q, pv = some q → slt q.Least q.Limit → ∀ f ∈ s, ltK (i : Int) q f) ∧ s.Pairwise fun a b => ltK (i : Int) a b
  | [], pv, _ => ⟨fun _ _ _ f h => absurd h (by simp), List.Pairwise.nil⟩
  | f :: s, pv, h => by
    simp only [okF, Bool.and_eq_true, Bool.not_eq_true'] at h
    obtain ⟨hm, hb, hs⟩ := h
    have hff : slt f.Least f.Limit := (may_iff.1 hm).2.2.2.1
    obtain ⟨h1, h2⟩ := okF_strict hs
    refine ⟨fun q hq hql g hg => ?_, List.pairwise_cons.2 ⟨fun g hg => h1 f rfl hff g hg, h2⟩⟩
    subst hq
    have hqf : ltK (i : Int) q f := by
      rw [ltK_iff]
      by_cases hi : i = 0
      · subst hi
        rw [if_pos (by rfl)]
        simp only [badO, bad, if_true] at hb
        simpa using hb
      · rw [if_neg (by omega)]
        simp only [badO, bad, if_neg hi, sLe_dec] at hb
        exact slt_of_lt_le hql (by simpa using hb)
    rcases List.mem_cons.1 hg with rfl | hg
    · exact hqf
    · have h3 := h1 f rfl hff g hg
      exact (wo_key (i : Int)).lt_le hqf ((wo_key (i : Int)).asymm _ _ h3)
theorem RelG.of_okL : ∀ {i : Nat} {l : List (List File)}, okL i l = true → RelG i l l
  | _, [], _ => trivial
  | i, x :: l, h => by
    simp only [okL, Bool.and_eq_true] at h
    exact ⟨(okF_strict h.1).2.imp fun {a b} hab => (wo_key (i : Int)).asymm _ _ hab, Sst.refl x, RelG.of_okL h.2⟩
theorem goneS_rel : ∀ {s : List Place} {o o' : List (List File)}, goneS o s = some o' → RelG 0 o o → RelG 0 o' o'
  | [], o, o', h, hr => by
    have : o = o' := by simpa [goneS] using h
    subst this
    exact hr
  | g :: s, o, o', h, hr => by
    cases hc : (decide (g.Level < 0) || decide ((o.length : Int) ≤ g.Level)) with
    | true => rw [goneS_bad hc] at h; cases h
    | false =>
      obtain ⟨j, hj, hjl, a1, a2, a3, a4, a5⟩ := at_lev hc
      by_cases hm : g.Number ∈ nums (o.getD g.Level.toNat [])
      · rw [goneS_go hc hm] at h
        refine goneS_rel h ?_
        have ht : g.Level.toNat = j := by rw [hj]; simp
        rw [a3, ht]
        obtain ⟨y, h1, h2, h3⟩ := hr.at a1
        have : o[j] = y := Option.some.inj (a1.symm.trans h1)
        rw [← this] at h2
        exact hr.set (h2.sublist (lessN_sub _ _)) (Sst.refl _)
      · rw [goneS_no hc hm] at h; cases h

/-! ### All that come -/
def comeV : List (List File) → List Added → Option (List (List File))
  | o, [] => some o
  | o, c :: s => if (decide (c.Level < 0) || decide ((o.length : Int) ≤ c.Level)) = true then none else comeV (o.set c.Level.toNat (o.getD c.Level.toNat [] ++ [c.File])) s
theorem comeV_bad {o : List (List File)} {g : Added} {s : List Added} (hc : (decide (g.Level < 0) || decide ((o.length : Int) ≤ g.Level)) = true) : comeV o (g :: s) = none := by
  simp only [comeV, hc, if_true]
theorem comeV_go {o : List (List File)} {g : Added} {s : List Added} (hc : (decide (g.Level < 0) || decide ((o.length : Int) ≤ g.Level)) = false) : comeV o (g :: s) = comeV (o.set g.Level.toNat (o.getD g.Level.toNat [] ++ [g.File])) s := by
  simp only [comeV, hc, Bool.false_eq_true, if_false]
def okC (n : Nat) (o : List (List File)) : Prop := (∀ x ∈ o, x.length ≤ 2147483647 + n ∧ ∀ f ∈ x, goodF f) ∧ o.length ≤ 7
def goodE (e : Edit) : Prop := e.Gone.length ≤ 8796093022207 ∧ e.Come.length ≤ 1954687338268 ∧ ∀ c ∈ e.Come, goodF c.File
theorem okC_set {n : Nat} {o : List (List File)} (h : okC n o) {j : Nat} {x : List File} {f : File} (hx : x ∈ o) (hf : goodF f) : okC (n + 1) (o.set j (x ++ [f])) := by
  refine ⟨fun y hy => ?_, by rw [List.length_set]; exact h.2⟩
  rcases List.mem_or_eq_of_mem_set hy with hy | rfl
  · exact ⟨by have := (h.1 y hy).1; omega, (h.1 y hy).2⟩
  · have := h.1 x hx
    refine ⟨by rw [List.length_append, List.length_singleton]; omega, fun g hg => ?_⟩
    rcases List.mem_append.1 hg with hg | hg
    · exact this.2 g hg
    · simp at hg; subst hg; exact hf

theorem vcome (e : Edit) (hE : goodE e) (J : Nat → List (List File) → Option ((List (List File)) × Int)) (r : List (List File) × Int) :
    ∀ (s p : List Added) (o : List (List File)) (J : Nat → List (List File) → Option ((List (List File)) × Int)), e.Come = p ++ s → okC p.length o → (comeV o s = none → r = ([], 160)) → (∀ o', comeV o s = some o' → okC e.Come.length o' → Ev (fun k => J k o') r) → Ev (fun k => version_Apply.l2 e (J k) k o p.length) r
  | [], p, o, J, hp, ho, hn, hR => by
    have e1 : decide ((p.length : Int) < (e.Come.length : Int)) = false := by rw [hp]; exact lt_end p
    have e2 : e.Come.length = p.length := by rw [hp]; simp
    refine Ev.succ ?_
    simp only [version_Apply.l2, e1, Bool.false_eq_true, if_false]
    exact (hR o rfl (by rw [e2]; exact ho)).shift
  | g :: s, p, o, J, hp, ho, hn, hR => by
    have e1 : decide ((p.length : Int) < (e.Come.length : Int)) = true := by rw [hp]; exact lt_at p s g
    have e2 : idx e.Come (p.length : Int) = some g := by rw [hp]; exact idx_at p g s
    have hpl : p.length + 1 ≤ e.Come.length := by rw [hp]; simp
    have hEc := hE.2.1
    have hgf : goodF g.File := hE.2.2 g (by rw [hp]; simp)
    refine Ev.succ ?_
    simp only [version_Apply.l2, e1, e2, if_true, Option.bind_some, step_at p s g (by rw [← hp, maxLen_val]; omega)]
    cases hc : (decide (g.Level < 0) || decide ((o.length : Int) ≤ g.Level)) with
    | true =>
      simp only [if_true]
      rw [hn (comeV_bad hc)]
      exact Ev.ret
    | false =>
      obtain ⟨j, hj, hjl, a1, a2, a3, a4, a5⟩ := at_lev hc
      have hok := ho.1 _ a4
      have ht : g.Level.toNat = j := by rw [hj]; simp
      have hgo := comeV_go (s := s) hc
      rw [a3, ht] at hgo
      rw [hgo] at hn hR
      simp only [Bool.false_eq_true, if_false, a2, a5, Option.bind_some, push_ok (show o[j].length < 3518437208730 by omega)]
      exact vcome e hE J r s (p ++ [g]) (o.set j (o[j] ++ [g.File])) (fun k => J (k + 1)) (by simp [hp]) (by rw [List.length_append, List.length_singleton]; exact okC_set ho a4 hgf) hn (fun o' h1 h2 => (hR o' h1 h2).shift)
theorem rcome (e : Edit) (hE : goodE e) (r : List (List File) × Int) :
    ∀ (s p : List Added) (o o' : List (List File)) (J : Nat → List (List File) → Option ((List (List File)) × Int)), e.Come = p ++ s → okC p.length o → RelG 0 o o' → (comeV o s = none → r = ([], 160)) → (∀ o1 o1', comeV o s = some o1 → okC e.Come.length o1 → RelG 0 o1 o1' → Ev (fun k => J k o1') r) → Ev (fun k => r16_Apply.l1 e (J k) k o' p.length) r
  | [], p, o, o', J, hp, ho, hr, hn, hR => by
    have e1 : decide ((p.length : Int) < (e.Come.length : Int)) = false := by rw [hp]; exact lt_end p
    have e2 : e.Come.length = p.length := by rw [hp]; simp
    refine Ev.succ ?_
    simp only [r16_Apply.l1, e1, Bool.false_eq_true, if_false]
    exact (hR o o' rfl (by rw [e2]; exact ho) hr).shift
  | g :: s, p, o, o', J, hp, ho, hr, hn, hR => by
    have e1 : decide ((p.length : Int) < (e.Come.length : Int)) = true := by rw [hp]; exact lt_at p s g
    have e2 : idx e.Come (p.length : Int) = some g := by rw [hp]; exact idx_at p g s
    have hpl : p.length + 1 ≤ e.Come.length := by rw [hp]; simp
    have hEc := hE.2.1
    have hgf : goodF g.File := hE.2.2 g (by rw [hp]; simp)
    have hlen := hr.len
    refine Ev.succ ?_
    simp only [r16_Apply.l1, e1, e2, if_true, Option.bind_some, step_at p s g (by rw [← hp, maxLen_val]; omega), ← hlen]
    cases hc : (decide (g.Level < 0) || decide ((o.length : Int) ≤ g.Level)) with
    | true =>
      simp only [if_true]
      rw [hn (comeV_bad hc)]
      exact Ev.ret
    | false =>
      obtain ⟨j, hj, hjl, a1, a2, a3, a4, a5⟩ := at_lev hc
      obtain ⟨j', hj', hjl', b1, b2, b3, b4, b5⟩ := at_lev (o := o') (by rw [← hlen]; exact hc)
      have hjj : j' = j := by omega
      subst hjj
      have hok := ho.1 _ a4
      have ht : g.Level.toNat = j' := by rw [hj]; simp
      have hgo := comeV_go (s := s) hc
      rw [a3, ht] at hgo
      rw [hgo] at hn hR
      obtain ⟨y, h1, h2, h3⟩ := hr.at a1
      have hy : o'[j'] = y := Option.some.inj (b1.symm.trans h1)
      rw [← hy] at h2 h3
      rw [Nat.zero_add] at h2 h3
      have hl3 := h3.len
      obtain ⟨z, z1, z2, z3⟩ := put_ev (j' : Int) (by omega) g.File o'[j'] (by omega) h2
      simp only [Bool.false_eq_true, if_false, b2, b5, Option.bind_some]
      rw [← hj] at z3
      refine Ev.bind z3 ?_
      refine rcome e hE r s (p ++ [g]) (o.set j' (o[j'] ++ [g.File])) (o'.set j' z) (fun k => J (k + 1)) (by simp [hp]) (by rw [List.length_append, List.length_singleton]; exact okC_set ho a4 hgf) ?_ hn (fun o1 o1' g1 g2 g3 => (hR o1 o1' g1 g2 g3).shift)
      refine hr.set (by rw [Nat.zero_add]; exact z1) ?_
      rw [Nat.zero_add]
      exact (h3.app (Sst.refl [g.File])).trans z2
theorem vsort (o : List (List File)) (n : Nat) (hn : n ≤ 1954687338268) (ho : okC n o) : ∀ (s p q : List (List File)), o = p ++ s → q.length = p.length → ∃ s', RelG p.length s s' ∧ ∀ (J : Nat → List (List File) → Option ((List (List File)) × Int)) r, Ev (fun k => J k (q ++ s')) r → Ev (fun k => version_Apply.l1 o (J k) k (q ++ s) p.length) r
  | [], p, q, hp, hq => by
    have e1 : decide ((p.length : Int) < (o.length : Int)) = false := by rw [hp]; exact lt_end p
    refine ⟨[], trivial, fun J r hJ => Ev.succ ?_⟩
    simp only [version_Apply.l1, e1, Bool.false_eq_true, if_false]
    exact hJ.shift
  | x :: s, p, q, hp, hq => by
    have e1 : decide ((p.length : Int) < (o.length : Int)) = true := by rw [hp]; exact lt_at p s x
    have hx := ho.1 x (by rw [hp]; simp)
    have ho7 := ho.2
    obtain ⟨y, y1, y2, y3⟩ := sorted_key (p.length : Int) x (by omega)
    obtain ⟨s', h1, h2⟩ := vsort o n hn ho s (p ++ [x]) (q ++ [y]) (by simp [hp]) (by simp [hq])
    rw [List.length_append, List.length_singleton] at h1
    refine ⟨y :: s', ⟨y1, y2, h1⟩, fun J r hJ => Ev.succ ?_⟩
    have e2 : idx (q ++ x :: s) (p.length : Int) = some x := by rw [← hq]; exact idx_at q x s
    have e3 : upd (q ++ x :: s) (p.length : Int) y = some (q ++ y :: s) := by rw [← hq]; exact upd_at q s x y
    simp only [version_Apply.l1, e1, if_true, e2, Option.bind_some, step_at p s x (by rw [← hp, maxLen_val]; omega)]
    refine Ev.bind y3 ?_
    simp only [e3, Option.bind_some]
    have := h2 (fun k => J (k + 1)) r (by simpa using hJ.shift)
    simpa using this

/-! ### Copies -/
theorem rep_at (p : List (List File)) (n : Nat) (y : List File) : upd (p ++ List.replicate (n + 1) []) (p.length : Int) y = some (p ++ [y] ++ List.replicate n []) := by
  rw [List.replicate_succ, upd_at, List.append_assoc]; rfl
theorem vcopy (l : List (List File)) (hg : goodL l) (h7 : l.length ≤ 7) : ∀ (s p : List (List File)), l = p ++ s → Ev (fun k => version_copied.l0 l k (p ++ List.replicate s.length []) p.length) l
  | [], p, hp => by
    have e1 : decide ((p.length : Int) < (l.length : Int)) = false := by rw [hp]; exact lt_end p
    refine Ev.succ ?_
    simp only [version_copied.l0, e1, Bool.false_eq_true, if_false, List.length_nil, List.replicate_zero]
    rw [← hp]
    exact Ev.ret
  | x :: s, p, hp => by
    have e1 : decide ((p.length : Int) < (l.length : Int)) = true := by rw [hp]; exact lt_at p s x
    have hx := (hg.1 x (by rw [hp]; simp)).1
    refine Ev.succ ?_
    have e2 : idx (p ++ List.replicate (s.length + 1) ([] : List File)) (p.length : Int) = some [] := by rw [List.replicate_succ]; exact idx_at p [] _
    simp only [version_copied.l0, e1, if_true, idx_l hp, Option.bind_some, slices_Clone_File, pushN_ok (show ([] : List File).length + x.length ≤ 3518437208730 by rw [List.length_nil]; omega), List.nil_append, List.length_cons, e2, rep_at, step_at p s x (by rw [← hp, maxLen_val]; omega)]
    exact vcopy l hg h7 s (p ++ [x]) (by simp [hp])
theorem mkS_ok {n : Nat} (h : n ≤ 7) : mkS 11728124029610 (n : Int) ([] : List File) = some (List.replicate n []) := by
  unfold mkS
  rw [if_pos ⟨by omega, by omega⟩, Int.toNat_natCast]
theorem vcopied_ev (l : List (List File)) (hg : goodL l) (h7 : l.length ≤ 7) : Ev (fun k => version_copied k l) l := by
  unfold version_copied
  refine Ev.bind0 (mkS_ok h7) ?_
  exact vcopy l hg h7 l [] rfl
theorem rcopy (l : List (List File)) (hg : goodL l) (h7 : l.length ≤ 7) (e : Edit) (r : List (List File) × Int) (hR : Ev (fun k => r16_Apply.l2 e (fun (l_433 : (List (List File))) => r16_Apply.l1 e (fun (l_447 : (List (List File))) => (r16_Valid k l_447).bind fun r2555 => if (!r2555) = true then (some ([], 160)) else (some (l_447, 0))) k l_433 0) k l 0) r) : ∀ (s p : List (List File)), l = p ++ s → Ev (fun k => r16_Apply.l0 l e k (p ++ List.replicate s.length []) p.length) r
  | [], p, hp => by
    have e1 : decide ((p.length : Int) < (l.length : Int)) = false := by rw [hp]; exact lt_end p
    refine Ev.succ ?_
    simp only [r16_Apply.l0, e1, Bool.false_eq_true, if_false, List.length_nil, List.replicate_zero, Jn]
    rw [← hp]
    exact hR
  | x :: s, p, hp => by
    have e1 : decide ((p.length : Int) < (l.length : Int)) = true := by rw [hp]; exact lt_at p s x
    have hx := (hg.1 x (by rw [hp]; simp)).1
    refine Ev.succ ?_
    have e2 : idx (p ++ List.replicate (s.length + 1) ([] : List File)) (p.length : Int) = some [] := by rw [List.replicate_succ]; exact idx_at p [] _
    simp only [r16_Apply.l0, e1, if_true, idx_l hp, Option.bind_some, pushN_ok (show ([] : List File).length + x.length ≤ 3518437208730 by rw [List.length_nil]; omega), List.nil_append, List.length_cons, e2, rep_at, step_at p s x (by rw [← hp, maxLen_val]; omega)]
    exact rcopy l hg h7 e r hR s (p ++ [x]) (by simp [hp])

/-! ### The whole -/
def Applied (l : List (List File)) (e : Edit) (r : List (List File) × Int) : Prop :=
  (validB l = false ∧ r = ([], 2)) ∨ (validB l = true ∧ ((goneS l e.Gone = none ∧ r = ([], 160)) ∨ ∃ o, goneS l e.Gone = some o ∧ ((comeV o e.Come = none ∧ r = ([], 160)) ∨ ∃ o1 o2, comeV o e.Come = some o1 ∧ RelG 0 o1 o2 ∧ goodL o2 ∧ r = if validB o2 = true then (o2, 0) else ([], 160))))
theorem RelG_good : ∀ {i : Nat} {u v : List (List File)}, RelG i u v → goodL u → goodL v := fun {i u v} h hg => by
  have aux : ∀ {i : Nat} {u v : List (List File)}, RelG i u v → (∀ y ∈ u, y.length ≤ 2199023255552 ∧ ∀ f ∈ y, goodF f) → ∀ y ∈ v, y.length ≤ 2199023255552 ∧ ∀ f ∈ y, goodF f := by
    intro i u
    induction u generalizing i with
    | nil =>
      intro v h hg y hy
      cases v with
      | nil => simp at hy
      | cons => exact h.elim
    | cons x u ih =>
      intro v h hg y hy
      cases v with
      | nil => exact h.elim
      | cons z v =>
        rcases List.mem_cons.1 hy with rfl | hy
        · have := hg x (by simp)
          refine ⟨by rw [← h.2.1.len]; exact this.1, fun f hf => this.2 f (h.2.1.1.mem_iff.2 hf)⟩
        · exact ih h.2.2 (fun z hz => hg z (List.mem_cons_of_mem _ hz)) y hy
  exact ⟨aux h hg.1, by rw [← h.len]; exact hg.2⟩
theorem okO_of {l : List (List File)} (hg : goodL l) (hv : validB l = true) : okO l := by
  refine ⟨fun x hx => ⟨?_, ?_, (hg.1 x hx).2⟩, (validB_iff.1 hv).2.1⟩
  · have h := (validB_iff.1 hv).2.2.2
    obtain ⟨a, b, rfl⟩ := List.append_of_mem hx
    rw [List.flatten_append, List.flatten_cons] at h
    unfold nums at h
    rw [List.map_append, List.map_append] at h
    exact (List.nodup_append.1 (List.nodup_append.1 h).2.1).1
  · exact Nat.le_trans (len_le_flatten hx) (valid_len hv)
theorem goneS_ok : ∀ {s : List Place} {o o' : List (List File)}, goneS o s = some o' → okO o → okO o'
  | [], o, o', h, hr => by
    have : o = o' := by simpa [goneS] using h
    subst this
    exact hr
  | g :: s, o, o', h, hr => by
    cases hc : (decide (g.Level < 0) || decide ((o.length : Int) ≤ g.Level)) with
    | true => rw [goneS_bad hc] at h; cases h
    | false =>
      obtain ⟨j, hj, hjl, a1, a2, a3, a4, a5⟩ := at_lev hc
      by_cases hm : g.Number ∈ nums (o.getD g.Level.toNat [])
      · rw [goneS_go hc hm, a3] at h
        exact goneS_ok h (okO_set hr (lessN_ok (hr.1 _ a4)))
      · rw [goneS_no hc hm] at h; cases h
theorem comeV_ok {e : Edit} (he : goodE e) {o1 : List (List File)} : ∀ {s p : List Added} {o : List (List File)}, e.Come = p ++ s → okC p.length o → comeV o s = some o1 → okC e.Come.length o1
  | [], p, o, hp, ho, h => by
    have : o = o1 := by simpa [comeV] using h
    subst this
    rw [hp, List.append_nil]
    exact ho
  | g :: s, p, o, hp, ho, h => by
    cases hc : (decide (g.Level < 0) || decide ((o.length : Int) ≤ g.Level)) with
    | true => rw [comeV_bad hc] at h; cases h
    | false =>
      obtain ⟨j, hj, hjl, a1, a2, a3, a4, a5⟩ := at_lev hc
      rw [comeV_go hc, a3] at h
      exact comeV_ok he (p := p ++ [g]) (by simp [hp]) (by rw [List.length_append, List.length_singleton]; exact okC_set ho a4 (he.2.2 g (by rw [hp]; simp))) h
theorem apply_ev (l : List (List File)) (hg : goodL l) (e : Edit) (he : goodE e) : ∃ r, Applied l e r ∧ Ev (fun k => version_Apply k l e) r ∧ Ev (fun k => r16_Apply k l e) r := by
  cases hv : validB l with
  | false =>
    refine ⟨([], 2), .inl ⟨hv, rfl⟩, ?_, ?_⟩
    · unfold version_Apply
      refine Ev.bind (valid_ev l hg) ?_
      simp only [hv, Bool.not_false, if_true]
      exact Ev.ret
    · unfold r16_Apply
      refine Ev.bind (rvalid_ev l hg) ?_
      simp only [hv, Bool.not_false, if_true]
      exact Ev.ret
  | true =>
    have h7 := (validB_iff.1 hv).2.1
    have hok := okO_of hg hv
    have hrel : RelG 0 l l := RelG.of_okL (validB_iff.1 hv).2.2.1
    have key : ∀ r, Applied l e r → (goneS l e.Gone = none → r = ([], 160)) → (∀ o', goneS l e.Gone = some o' → comeV o' e.Come = none → r = ([], 160)) → (∀ o' o1 o2, goneS l e.Gone = some o' → comeV o' e.Come = some o1 → RelG 0 o1 o2 → r = if validB o2 = true then (o2, 0) else ([], 160)) → ∃ r, Applied l e r ∧ Ev (fun k => version_Apply k l e) r ∧ Ev (fun k => r16_Apply k l e) r := by
      intro r hA h1 h2 h3
      have hend : ∀ o1 o2, okC e.Come.length o1 → RelG 0 o1 o2 → (r = if validB o2 = true then (o2, 0) else ([], 160)) → Ev (fun k => (version_Valid k o2).bind fun r715 => if (!r715) = true then (some ([], 160)) else (some (o2, 0))) r ∧ Ev (fun k => (r16_Valid k o2).bind fun r715 => if (!r715) = true then (some ([], 160)) else (some (o2, 0))) r := by
        intro o1 o2 hc hr hre
        have hg2 : goodL o2 := RelG_good hr ⟨fun y hy => ⟨by have := (hc.1 y hy).1; have := he.2.1; omega, (hc.1 y hy).2⟩, by have := hc.2; omega⟩
        refine ⟨Ev.bind (valid_ev o2 hg2) ?_, Ev.bind (rvalid_ev o2 hg2) ?_⟩ <;> cases hv2 : validB o2 <;> simp only [hv2, Bool.not_false, Bool.not_true, Bool.false_eq_true, if_false, if_true] at hre ⊢ <;> rw [hre] <;> exact Ev.ret
      refine ⟨r, hA, ?_, ?_⟩
      · unfold version_Apply
        refine Ev.bind (valid_ev l hg) ?_
        simp only [hv, Bool.not_true, Bool.false_eq_true, if_false]
        refine Ev.bind (vcopied_ev l hg h7) ?_
        refine vgone e (by have := he.1; omega) r e.Gone [] l rfl hok h1 (fun o' g1 g2 => ?_)
        refine vcome e he (fun _ _ => none) r e.Come [] o' (fun k l_34 => version_Apply.l1 l_34 (fun (l_48 : (List (List File))) => (version_Valid k l_48).bind fun r715 => if (!r715) = true then (some ([], 160)) else (some (l_48, 0))) k l_34 0) rfl ⟨fun x hx => ⟨by have := (g2.1 x hx).2.1; simpa using this, (g2.1 x hx).2.2⟩, g2.2⟩ (h2 o' g1) (fun o1 c1 c2 => ?_)
        obtain ⟨o2, k1, k2⟩ := vsort o1 _ he.2.1 c2 o1 [] [] rfl rfl
        exact k2 (fun k l_48 => (version_Valid k l_48).bind fun r715 => if (!r715) = true then (some ([], 160)) else (some (l_48, 0))) r (hend o1 o2 c2 k1 (h3 o' o1 o2 g1 c1 k1)).1
      · unfold r16_Apply
        refine Ev.bind (rvalid_ev l hg) ?_
        simp only [hv, Bool.not_true, Bool.false_eq_true, if_false]
        refine Ev.bind0 (mkS_ok h7) ?_
        refine rcopy l hg h7 e r ?_ l [] rfl
        refine rgone e (by have := he.1; omega) r e.Gone [] l (fun k l_433 => r16_Apply.l1 e (fun (l_447 : (List (List File))) => (r16_Valid k l_447).bind fun r2555 => if (!r2555) = true then (some ([], 160)) else (some (l_447, 0))) k l_433 0) rfl hok h1 (fun o' g1 g2 => ?_)
        exact rcome e he r e.Come [] o' o' (fun k l_447 => (r16_Valid k l_447).bind fun r2555 => if (!r2555) = true then (some ([], 160)) else (some (l_447, 0))) rfl ⟨fun x hx => ⟨by have := (g2.1 x hx).2.1; simpa using this, (g2.1 x hx).2.2⟩, g2.2⟩ (goneS_rel g1 hrel) (h2 o' g1) (fun o1 o2 c1 c2 c3 => (hend o1 o2 c2 c3 (h3 o' o1 o2 g1 c1 c3)).2)
    cases hgo : goneS l e.Gone with
    | none =>
      exact key ([], 160) (.inr ⟨hv, .inl ⟨hgo, rfl⟩⟩) (fun _ => rfl) (fun o' h _ => by cases hgo.symm.trans h) (fun o' _ _ h _ _ => by cases hgo.symm.trans h)
    | some o =>
      have hoo := goneS_ok hgo hok
      have hoc : okC ([] : List Added).length o := ⟨fun x hx => ⟨by have := (hoo.1 x hx).2.1; simpa using this, (hoo.1 x hx).2.2⟩, hoo.2⟩
      cases hco : comeV o e.Come with
      | none =>
        exact key ([], 160) (.inr ⟨hv, .inr ⟨o, hgo, .inl ⟨hco, rfl⟩⟩⟩) (fun h => by cases hgo.symm.trans h) (fun _ _ _ => rfl) (fun o' _ _ h h' _ => by
          rw [hgo] at h; injection h with h; subst h; cases hco.symm.trans h')
      | some o1 =>
        have hc1 := comeV_ok he (p := []) rfl hoc hco
        obtain ⟨o2, k1, _⟩ := vsort o1 _ he.2.1 hc1 o1 [] [] rfl rfl
        have k1' : RelG 0 o1 o2 := k1
        have hg2 : goodL o2 := RelG_good k1' ⟨fun y hy => ⟨by have := (hc1.1 y hy).1; have := he.2.1; omega, (hc1.1 y hy).2⟩, by have := hc1.2; omega⟩
        refine key (if validB o2 = true then (o2, 0) else ([], 160)) (.inr ⟨hv, .inr ⟨o, hgo, .inr ⟨o1, o2, hco, k1', hg2, rfl⟩⟩⟩) (fun h => by cases hgo.symm.trans h) (fun o' h h' => by
          rw [hgo] at h; injection h with h; subst h; cases hco.symm.trans h') (fun o' p1 p2 h h' hr => ?_)
        rw [hgo] at h
        injection h with h
        subst h
        rw [hco] at h'
        injection h' with h'
        subst h'
        rw [RelG.uniq hr k1']
end Go.Proofs.Ytbbepmmelpabbaa.Mo

/- Back: there and back again, in plain words. -/
set_option maxRecDepth 100000
namespace Go.Proofs.Ytbbepmmelpabbaa.Mo
open Go Go.Proofs.Ytbbepmmelpabbaa.Sy

def toPl (d : Added) : Place := ⟨d.Level, d.File.Number⟩
def lv (i : Nat) (D : List Added) : List File := (D.filter fun d => d.Level == (i : Int)).map (·.File)
theorem lv_nil (i : Nat) : lv i [] = [] := rfl
theorem lv_hit {i : Nat} {d : Added} {D : List Added} (h : d.Level = (i : Int)) : lv i (d :: D) = d.File :: lv i D := by
  simp [lv, h]
theorem lv_miss {i : Nat} {d : Added} {D : List Added} (h : ¬ d.Level = (i : Int)) : lv i (d :: D) = lv i D := by
  simp [lv, h]
theorem getD_set_eq {o : List (List File)} {j : Nat} {y : List File} (hj : j < o.length) : (o.set j y).getD j [] = y := by
  rw [List.getD_eq_getElem?_getD, List.getElem?_set_self hj]; rfl
theorem getD_set_ne {o : List (List File)} {i j : Nat} {y : List File} (h : j ≠ i) : (o.set j y).getD i [] = o.getD i [] := by
  rw [List.getD_eq_getElem?_getD, List.getD_eq_getElem?_getD, List.getElem?_set_ne h]

theorem goneS_back : ∀ {s : List Place} {o o' : List (List File)}, okO o → goneS o s = some o' → ∃ D : List Added, D.map toPl = s ∧ o'.length = o.length ∧ (∀ i, (o.getD i []).Perm (o'.getD i [] ++ lv i D)) ∧ ∀ d ∈ D, (decide (d.Level < 0) || decide ((o.length : Int) ≤ d.Level)) = false
  | [], o, o', ho, h => by
    have : o = o' := by simpa [goneS] using h
    subst this
    exact ⟨[], rfl, rfl, fun i => by rw [lv_nil, List.append_nil], by simp⟩
  | g :: s, o, o', ho, h => by
    cases hc : (decide (g.Level < 0) || decide ((o.length : Int) ≤ g.Level)) with
    | true => rw [goneS_bad hc] at h; cases h
    | false =>
      obtain ⟨j, hj, hjl, a1, a2, a3, a4, a5⟩ := at_lev hc
      have ht : g.Level.toNat = j := by rw [hj]; simp
      by_cases hm : g.Number ∈ nums (o.getD g.Level.toNat [])
      · rw [goneS_go hc hm, a3, ht] at h
        rw [a3] at hm
        obtain ⟨D, d1, d2, d3, d4⟩ := goneS_back (okO_set ho (lessN_ok (ho.1 _ a4))) h
        obtain ⟨q, f, t, h1, h2, h3⟩ := first_num hm
        have hless : lessN g.Number o[j] = q ++ t := by
          have := lessN_at (n := g.Number) (p := q) (s := t) (f := f) (by rw [← h1]; exact (ho.1 _ a4).1) h2 h3
          rw [← this, ← h1]
        refine ⟨⟨g.Level, f⟩ :: D, by rw [List.map_cons, d1, toPl, h2], by rw [d2, List.length_set], fun i => ?_, fun d hd => ?_⟩
        · have hi := d3 i
          by_cases e : j = i
          · subst e
            rw [getD_set_eq hjl, hless] at hi
            rw [lv_hit hj]
            rw [ht] at a3
            rw [a3, h1]
            exact (List.perm_middle.trans (hi.cons f)).trans List.perm_middle.symm
          · rw [getD_set_ne e] at hi
            rw [lv_miss (by show ¬ g.Level = (i : Int); omega)]
            exact hi
        · rcases List.mem_cons.1 hd with rfl | hd
          · exact hc
          · have := d4 d hd
            rwa [List.length_set] at this
      · rw [goneS_no hc hm] at h; cases h

theorem goneS_can : ∀ {D : List Added} {o : List (List File)} (R : Nat → List File), okO o → (∀ i, (o.getD i []).Perm (R i ++ lv i D)) → (∀ d ∈ D, (decide (d.Level < 0) || decide ((o.length : Int) ≤ d.Level)) = false) →
    ∃ o', goneS o (D.map toPl) = some o' ∧ o'.length = o.length ∧ ∀ i, (o'.getD i []).Perm (R i)
  | [], o, R, ho, hp, hr => ⟨o, rfl, rfl, fun i => by have := hp i; rwa [lv_nil, List.append_nil] at this⟩
  | d :: D, o, R, ho, hp, hr => by
    have hc : (decide ((toPl d).Level < 0) || decide ((o.length : Int) ≤ (toPl d).Level)) = false := hr d (by simp)
    obtain ⟨j, hj, hjl, a1, a2, a3, a4, a5⟩ := at_lev hc
    have ht : (toPl d).Level.toNat = j := by rw [hj]; simp
    have hj' : d.Level = (j : Int) := hj
    have hpj := hp j
    rw [lv_hit hj', ← ht, a3, ht] at hpj
    have hm : d.File ∈ o[j] := hpj.mem_iff.2 (by simp)
    have hnod : (nums (R j ++ d.File :: lv j D)).Nodup := (hpj.map (fun f : File => f.Number)).nodup_iff.1 (show (o[j].map fun f : File => f.Number).Nodup from (ho.1 _ a4).1)
    have hne : ∀ y ∈ R j, y.Number ≠ d.File.Number := fun y hy e => by
      have h1 : (nums (R j) ++ d.File.Number :: nums (lv j D)).Nodup := by simpa [nums] using hnod
      exact (List.nodup_append.1 h1).2.2 y.Number (List.mem_map_of_mem hy) d.File.Number (by simp) e
    have hless : (lessN d.File.Number o[j]).Perm (R j ++ lv j D) := by
      rw [← lessN_at hnod rfl hne]
      exact hpj.filter _
    obtain ⟨o', h1, h2, h3⟩ := goneS_can (D := D) (o := o.set j (lessN d.File.Number o[j])) R (okO_set ho (lessN_ok (ho.1 _ a4))) (fun i => by
      by_cases e : j = i
      · subst e
        rw [getD_set_eq hjl]
        exact hless
      · rw [getD_set_ne e]
        have := hp i
        rwa [lv_miss (by omega)] at this) (fun d' hd' => by rw [List.length_set]; exact hr d' (List.mem_cons_of_mem _ hd'))
    refine ⟨o', ?_, by rw [h2, List.length_set], h3⟩
    rw [List.map_cons, goneS_go hc (by rw [a3]; exact List.mem_map_of_mem hm), a3, ht]
    exact h1

theorem comeV_back : ∀ {s : List Added} {o o1 : List (List File)}, comeV o s = some o1 → o1.length = o.length ∧ (∀ i, o1.getD i [] = o.getD i [] ++ lv i s) ∧ ∀ d ∈ s, (decide (d.Level < 0) || decide ((o.length : Int) ≤ d.Level)) = false
  | [], o, o1, h => by
    have : o = o1 := by simpa [comeV] using h
    subst this
    exact ⟨rfl, fun i => by rw [lv_nil, List.append_nil], by simp⟩
  | g :: s, o, o1, h => by
    cases hc : (decide (g.Level < 0) || decide ((o.length : Int) ≤ g.Level)) with
    | true => rw [comeV_bad hc] at h; cases h
    | false =>
      obtain ⟨j, hj, hjl, a1, a2, a3, a4, a5⟩ := at_lev hc
      have ht : g.Level.toNat = j := by rw [hj]; simp
      rw [comeV_go hc, a3, ht] at h
      obtain ⟨h1, h2, h3⟩ := comeV_back h
      rw [List.length_set] at h1 h3
      refine ⟨h1, fun i => ?_, fun d hd => ?_⟩
      · have hi := h2 i
        by_cases e : j = i
        · subst e
          rw [getD_set_eq hjl] at hi
          rw [ht] at a3
          rw [lv_hit hj, hi, a3, List.append_assoc]; rfl
        · rw [getD_set_ne e] at hi
          rw [lv_miss (by omega), hi]
      · rcases List.mem_cons.1 hd with rfl | hd
        · exact hc
        · exact h3 d hd
theorem comeV_can : ∀ {s : List Added} {o : List (List File)}, (∀ d ∈ s, (decide (d.Level < 0) || decide ((o.length : Int) ≤ d.Level)) = false) → ∃ o1, comeV o s = some o1
  | [], o, _ => ⟨o, rfl⟩
  | g :: s, o, h => by
    rw [comeV_go (h g (by simp))]
    exact comeV_can fun d hd => by rw [List.length_set]; exact h d (List.mem_cons_of_mem _ hd)

/-! ### How many -/
theorem set_len : ∀ {o : List (List File)} {j : Nat} (hj : j < o.length) (y : List File), (o.set j y).flatten.length + o[j].length = o.flatten.length + y.length
  | x :: o, 0, _, y => by simp only [List.set_cons_zero, List.flatten_cons, List.length_append, List.getElem_cons_zero]; omega
  | x :: o, j + 1, hj, y => by
    have := set_len (o := o) (j := j) (by simpa using hj) y
    simp only [List.set_cons_succ, List.flatten_cons, List.length_append, List.getElem_cons_succ]; omega
theorem goneS_len : ∀ {s : List Place} {o o' : List (List File)}, okO o → goneS o s = some o' → o.flatten.length = o'.flatten.length + s.length
  | [], o, o', ho, h => by
    have : o = o' := by simpa [goneS] using h
    subst this; rfl
  | g :: s, o, o', ho, h => by
    cases hc : (decide (g.Level < 0) || decide ((o.length : Int) ≤ g.Level)) with
    | true => rw [goneS_bad hc] at h; cases h
    | false =>
      obtain ⟨j, hj, hjl, a1, a2, a3, a4, a5⟩ := at_lev hc
      have ht : g.Level.toNat = j := by rw [hj]; simp
      by_cases hm : g.Number ∈ nums (o.getD g.Level.toNat [])
      · rw [goneS_go hc hm, a3, ht] at h
        rw [a3] at hm
        have ih := goneS_len (okO_set ho (lessN_ok (ho.1 _ a4))) h
        have h1 := set_len hjl (lessN g.Number o[j])
        obtain ⟨q, f, t, g1, g2, g3⟩ := first_num hm
        have hless : lessN g.Number o[j] = q ++ t := by
          have := lessN_at (n := g.Number) (p := q) (s := t) (f := f) (by rw [← g1]; exact (ho.1 _ a4).1) g2 g3
          rw [← this, ← g1]
        have h2 : o[j].length = (lessN g.Number o[j]).length + 1 := by
          rw [hless]
          have := congrArg List.length g1
          simp only [List.length_append, List.length_cons] at this ⊢
          omega
        simp only [List.length_cons]
        omega
      · rw [goneS_no hc hm] at h; cases h
theorem comeV_len : ∀ {s : List Added} {o o1 : List (List File)}, comeV o s = some o1 → o1.flatten.length = o.flatten.length + s.length
  | [], o, o1, h => by
    have : o = o1 := by simpa [comeV] using h
    subst this; rfl
  | g :: s, o, o1, h => by
    cases hc : (decide (g.Level < 0) || decide ((o.length : Int) ≤ g.Level)) with
    | true => rw [comeV_bad hc] at h; cases h
    | false =>
      obtain ⟨j, hj, hjl, a1, a2, a3, a4, a5⟩ := at_lev hc
      have ht : g.Level.toNat = j := by rw [hj]; simp
      rw [comeV_go hc, a3, ht] at h
      have ih := comeV_len h
      have h1 := set_len hjl (o[j] ++ [g.File])
      simp only [List.length_append, List.length_cons, List.length_nil] at h1 ⊢
      omega
theorem RelG.flen : ∀ {i : Nat} {u v : List (List File)}, RelG i u v → u.flatten.length = v.flatten.length
  | _, [], [], _ => rfl
  | _, x :: u, y :: v, h => by
    have := RelG.flen h.2.2
    have := h.2.1.len
    simp only [List.flatten_cons, List.length_append]; omega
  | _, [], y :: v, h => h.elim
  | _, x :: u, [], h => h.elim
theorem RelG.perm {u v : List (List File)} (h : RelG 0 u v) (i : Nat) : (u.getD i []).Perm (v.getD i []) := by
  rw [List.getD_eq_getElem?_getD, List.getD_eq_getElem?_getD]
  cases e : u[i]? with
  | none =>
    have : v[i]? = none := by rw [List.getElem?_eq_none_iff] at e ⊢; rw [← h.len]; exact e
    rw [this]
  | some x =>
    obtain ⟨y, h1, _, h3⟩ := h.at e
    rw [h1]
    exact h3.1

/-! ### The same files in a strict order are the same list -/
theorem sst_strict {i : Int} {a b : List File} (hb : b.Pairwise fun x y => ltK i x y) (h : a.Perm b) : Sst (ltK i) a b := by
  refine ⟨h, fun z => ?_⟩
  have h1 : (a.filter (Eqv (ltK i) z)).Perm (b.filter (Eqv (ltK i) z)) := h.filter _
  have h2 : (b.filter (Eqv (ltK i) z)).length ≤ 1 := by
    have hp : (b.filter (Eqv (ltK i) z)).Pairwise fun x y => False := by
      rw [List.pairwise_filter]
      refine hb.imp fun {x y} hxy hx hy => ?_
      rw [Eqv_iff] at hx hy
      exact (wo_key i).neg x z y hx.2 hy.1 hxy
    cases hq : b.filter (Eqv (ltK i) z) with
    | nil => simp
    | cons x r =>
      rw [hq] at hp
      cases r with
      | nil => simp
      | cons y r => exact ((List.pairwise_cons.1 hp).1 y (by simp)).elim
  cases hq : b.filter (Eqv (ltK i) z) with
  | nil => rw [hq] at h1; exact List.perm_nil.1 h1
  | cons x r =>
    rw [hq] at h1 h2
    have : r = [] := by
      cases r with
      | nil => rfl
      | cons => simp at h2
    subst this
    exact List.perm_singleton.1 h1
theorem RelG.of_perm : ∀ {i : Nat} {u v : List (List File)}, u.length = v.length → (∀ j, (u.getD j []).Perm (v.getD j [])) → okL i v = true → RelG i u v
  | _, [], [], _, _, _ => trivial
  | i, x :: u, y :: v, hl, hp, ho => by
    simp only [okL, Bool.and_eq_true] at ho
    have hs := (okF_strict ho.1).2
    refine ⟨hs.imp fun {a b} hab => (wo_key (i : Int)).asymm _ _ hab, sst_strict hs (hp 0), RelG.of_perm (by simpa using hl) (fun j => by simpa using hp (j + 1)) ho.2⟩
  | _, [], y :: v, hl, _, _ => by simp at hl
  | _, x :: u, [], hl, _, _ => by simp at hl
end Go.Proofs.Ytbbepmmelpabbaa.Mo

/- Back: the law. -/
set_option maxRecDepth 100000
namespace Go.Proofs.Ytbbepmmelpabbaa.Mo
open Go Go.Proofs.Ytbbepmmelpabbaa.Sy

theorem back_l1 (l : List (List File)) (hg : goodL l) (e : Edit) (D : List Added) (hD : D.map toPl = e.Gone) (hf : ∀ d ∈ D, d.File ∈ ofS l d.Level) (hlen : D.length ≤ 2147483647) : ∀ (s p : List Added), D = p ++ s → ∀ (J : Nat → List Added → Option Bool) r, Ev (fun k => J k D) r → Ev (fun k => l16_VersionBack.l1 l e (J k) k p p.length) r
  | [], p, hp, J, r, hJ => by
    have hgl : e.Gone.length = p.length := by rw [← hD, List.length_map, hp, List.append_nil]
    have e1 : decide ((p.length : Int) < (e.Gone.length : Int)) = false := decF (by omega)
    refine Ev.succ ?_
    simp only [l16_VersionBack.l1, e1, Bool.false_eq_true, if_false]
    rw [List.append_nil] at hp
    rw [← hp]
    exact hJ.shift
  | d :: s, p, hp, J, r, hJ => by
    have hG : e.Gone = p.map toPl ++ toPl d :: s.map toPl := by rw [← hD, hp, List.map_append, List.map_cons]
    have hpl : p.length + 1 ≤ D.length := by rw [hp]; simp
    have e1 : decide ((p.length : Int) < (e.Gone.length : Int)) = true := decT (by rw [← hD, List.length_map]; omega)
    have e2 : idx e.Gone (p.length : Int) = some (toPl d) := by
      have := idx_at (p.map toPl) (toPl d) (s.map toPl)
      rw [List.length_map] at this
      rw [hG]; exact this
    have hfd := findS_at (hf d (by rw [hp]; simp))
    have hst : w64 ((p.length : Int) + 1) = ((p ++ [d]).length : Int) := step_at p s d (by rw [← hp, maxLen_val]; omega)
    refine Ev.succ ?_
    simp only [l16_VersionBack.l1, e1, e2, if_true, Option.bind_some]
    refine Ev.bind (find_ev l hg (toPl d).Number) ?_
    have hn : findS l (toPl d).Number = (d.Level, d.File, true) := hfd
    rw [hn]
    have hlv : (toPl d).Level = d.Level := rfl
    simp only [Jn, Bool.not_true, Bool.false_eq_true, if_false, hlv, bne_self_eq_false, push_ok (show p.length < 3127499741075 by omega), Option.bind_some, hst]
    exact back_l1 l hg e D hD hf hlen s (p ++ [d]) (by simp [hp]) (fun k => J (k + 1)) r hJ.shift
theorem back_l0 (l : List (List File)) (hg : goodL l) (e : Edit) (he : goodE e) (q : List (List File) × Int) (D : List Added) (hD : D.map toPl = e.Gone) (hf : ∀ d ∈ D, d.File ∈ ofS l d.Level) (hlen : D.length ≤ 2147483647)
    (hfin : Ev (fun k => version_Apply k q.1 (⟨0, 0, 0, e.Come.map toPl, D⟩ : Edit)) (l, 0)) : ∀ (s p : List Added), e.Come = p ++ s → Ev (fun k => l16_VersionBack.l0 l e q k (p.map toPl) p.length) true
  | [], p, hp => by
    have e1 : decide ((p.length : Int) < (e.Come.length : Int)) = false := by rw [hp]; exact lt_end p
    refine Ev.succ ?_
    simp only [l16_VersionBack.l0, e1, Bool.false_eq_true, if_false, Jn]
    rw [List.append_nil] at hp
    rw [← hp]
    refine back_l1 l hg e D hD hf hlen D [] rfl (fun k l_102 => (version_Apply k q.1 (⟨0, 0, 0, e.Come.map toPl, l_102⟩ : Edit)).bind fun r339 => if (r339.2 == 0) = true then ((version_Same k r339.1 l).bind fun r346 => some r346) else (some false)) true ?_
    refine Ev.bind hfin ?_
    simp only [beq_self_eq_true, if_true]
    refine Ev.bind (vsame_ev l l hg) ?_
    rw [eqLL_refl]
    exact Ev.ret
  | c :: s, p, hp => by
    have hE := he.2.1
    have hpl : p.length + 1 ≤ e.Come.length := by rw [hp]; simp
    have e1 : decide ((p.length : Int) < (e.Come.length : Int)) = true := by rw [hp]; exact lt_at p s c
    have e2 : idx e.Come (p.length : Int) = some c := by rw [hp]; exact idx_at p c s
    refine Ev.succ ?_
    simp only [l16_VersionBack.l0, e1, e2, if_true, Option.bind_some, push_ok (show (p.map toPl).length < 14073748835379 by rw [List.length_map]; omega), step_at p s c (by rw [← hp, maxLen_val]; omega)]
    have := back_l0 l hg e he q D hD hf hlen hfin s (p ++ [c]) (by simp [hp])
    rw [List.map_append] at this
    exact this

theorem getD_mem {o : List (List File)} {i : Int} (h : (decide (i < 0) || decide ((o.length : Int) ≤ i)) = false) (hv : validB o = true) : ∃ j : Nat, i = (j : Int) ∧ ofS o i = o.getD j [] := by
  obtain ⟨j, hj, hjl, a1, a2, a3, a4, a5⟩ := at_lev h
  refine ⟨j, hj, ?_⟩
  rw [hj, ofS_valid hv a1, ← a3, hj, Int.toNat_natCast]

/-- The edit taken back. -/
theorem back_again (l : List (List File)) (hg : goodL l) (hv : validB l = true) (e : Edit) (he : goodE e) (o o1 o2 : List (List File)) (h1 : goneS l e.Gone = some o) (h2 : comeV o e.Come = some o1) (h3 : RelG 0 o1 o2) (hg2 : goodL o2) (hv2 : validB o2 = true) :
    ∃ D : List Added, D.map toPl = e.Gone ∧ (∀ d ∈ D, d.File ∈ ofS l d.Level) ∧ D.length ≤ 2147483647 ∧ Ev (fun k => version_Apply k o2 (⟨0, 0, 0, e.Come.map toPl, D⟩ : Edit)) (l, 0) := by
  obtain ⟨D, d1, d2, d3, d4⟩ := goneS_back (okO_of hg hv) h1
  obtain ⟨c1, c2, c3⟩ := comeV_back h2
  have hin : ∀ d ∈ D, d.File ∈ ofS l d.Level := fun d hd => by
    obtain ⟨j, hj, he⟩ := getD_mem (d4 d hd) hv
    rw [he]
    refine (d3 j).mem_iff.2 (List.mem_append_right _ ?_)
    exact List.mem_map.2 ⟨d, List.mem_filter.2 ⟨hd, by simp [hj]⟩, rfl⟩
  have hDl : D.length ≤ 2147483647 := by
    have := goneS_len (okO_of hg hv) h1
    have := valid_len hv
    rw [← d1, List.length_map] at *
    omega
  have hgD : ∀ d ∈ D, goodF d.File := fun d hd => by
    obtain ⟨j, hj, he⟩ := getD_mem (d4 d hd) hv
    have hm := hin d hd
    rw [he, List.getD_eq_getElem?_getD] at hm
    cases hx : l[j]? with
    | none => rw [hx] at hm; simp at hm
    | some x => rw [hx] at hm; exact (hg.1 x (List.mem_of_getElem? hx)).2 _ (by simpa using hm)
  refine ⟨D, d1, hin, hDl, ?_⟩
  have he' : goodE (⟨0, 0, 0, e.Come.map toPl, D⟩ : Edit) := ⟨by show (e.Come.map toPl).length ≤ _; rw [List.length_map]; have := he.2.1; omega, by show D.length ≤ _; omega, hgD⟩
  obtain ⟨r, r1, r2, _⟩ := apply_ev o2 hg2 _ he'
  have hlen2 : o2.length = o.length := by rw [← h3.len, c1]
  obtain ⟨o3, g1, g2, g3⟩ := goneS_can (D := e.Come) (o := o2) (fun i => o.getD i []) (okO_of hg2 hv2) (fun i => by
    have := (h3.perm i).symm
    rwa [c2 i] at this) (fun d hd => by rw [hlen2]; exact c3 d hd)
  obtain ⟨o4, k1⟩ := comeV_can (s := D) (o := o3) (fun d hd => by rw [g2, hlen2, d2]; exact d4 d hd)
  obtain ⟨m1, m2, _⟩ := comeV_back k1
  have hrel : RelG 0 o4 l := RelG.of_perm (by rw [m1, g2, hlen2, d2]) (fun j => by
    rw [m2 j]
    exact ((g3 j).append_right _).trans (d3 j).symm) (validB_iff.1 hv).2.2.1
  have : r = (l, 0) := by
    rcases r1 with ⟨hb, _⟩ | ⟨_, ⟨hb, _⟩ | ⟨o', hb, ⟨hc, _⟩ | ⟨p1, p2, hc, hr, _, hre⟩⟩⟩
    · rw [hv2] at hb; cases hb
    · cases g1.symm.trans hb
    · injection g1.symm.trans hb with hb
      subst hb
      cases k1.symm.trans hc
    · injection g1.symm.trans hb with hb
      subst hb
      injection k1.symm.trans hc with hc
      subst hc
      have : p2 = l := RelG.uniq hr hrel
      subst this
      rw [hre, if_pos hv]
  rw [this] at r2
  exact r2

theorem back_law (l : List (List File)) (hg : goodL l) (e : Edit) (he : goodE e) : Ev (fun k => l16_VersionBack k l e) true := by
  unfold l16_VersionBack
  refine Ev.bind one_ev ?_
  simp only [Bool.not_true, Bool.false_eq_true, if_false]
  obtain ⟨r, r1, r2, _⟩ := apply_ev l hg e he
  refine Ev.bind r2 ?_
  have hbad : ∀ x : Int, r = ([], x) → (x != 0) = true → (x == 160) = validB l → Ev (fun k => if (r.2 != 0) = true then (Jn (fun (b_4 : Bool) => some b_4) (fun J_5 => if ((r.1.length : Int) == 0) = true then ((version_Valid k l).bind fun r23 => J_5 ((r.2 == 160) == r23)) else (J_5 false))) else ((version_Valid k r.1).bind fun r38 => Jn (fun (b_10 : Bool) => if b_10 = true then (some false) else (l16_VersionBack.l0 l e r k ([]) 0)) (fun J_11 => if (!r38) = true then (J_11 true) else ((version_Files k r.1).bind fun r478 => (version_Files k l).bind fun r480 => J_11 (r478 != (w64 ((w64 (r480 - (e.Gone.length : Int))) + (e.Come.length : Int)))))))) true := by
    intro x hr hx hxv
    subst hr
    have h0 : (((([] : List (List File)).length : Nat) : Int) == 0) = true := rfl
    simp only [hx, if_true, Jn, h0]
    refine Ev.bind (valid_ev l hg) ?_
    rw [hxv, beq_self_eq_true]
    exact Ev.ret
  rcases r1 with ⟨hv, hr⟩ | ⟨hv, ⟨_, hr⟩ | ⟨o, h1, ⟨_, hr⟩ | ⟨o1, o2, h2, h3, hg2, hr⟩⟩⟩
  · exact hbad 2 hr rfl (by rw [hv]; rfl)
  · exact hbad 160 hr rfl (by rw [hv]; rfl)
  · exact hbad 160 hr rfl (by rw [hv]; rfl)
  · by_cases hv2 : validB o2 = true
    · rw [if_pos hv2] at hr
      subst hr
      obtain ⟨D, t1, t2, t3, t4⟩ := back_again l hg hv e he o o1 o2 h1 h2 h3 hg2 hv2
      have n1 := goneS_len (okO_of hg hv) h1
      have n2 := comeV_len h2
      have n3 := h3.flen
      have n4 := valid_len hv
      have n5 := valid_len hv2
      have c0 : ((0 : Int) != 0) = false := rfl
      simp only [c0, Bool.false_eq_true, if_false]
      refine Ev.bind (valid_ev o2 hg2) ?_
      simp only [hv2, Jn, Bool.not_true, Bool.false_eq_true, if_false]
      refine Ev.bind (files_ev o2 hg2) ?_
      refine Ev.bind (files_ev l hg) ?_
      simp only [hv2, hv, if_true]
      have hw1 : w64 ((l.flatten.length : Int) - (e.Gone.length : Int)) = (l.flatten.length : Int) - (e.Gone.length : Int) := w64_of (by omega) (by omega)
      have hw2 : w64 ((l.flatten.length : Int) - (e.Gone.length : Int) + (e.Come.length : Int)) = (o2.flatten.length : Int) := by rw [w64_of (by omega) (by omega)]; omega
      rw [hw1, hw2]
      simp only [bne_self_eq_false, Bool.false_eq_true, if_false]
      exact back_l0 l hg e he (o2, 0) D t1 t2 t3 t4 e.Come [] rfl
    · rw [if_neg hv2] at hr
      exact hbad 160 hr rfl (by rw [hv]; rfl)
end Go.Proofs.Ytbbepmmelpabbaa.Mo
