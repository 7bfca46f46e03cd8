/- The document's answers for versions, in plain words: they are the program's. -/
import Derived.Test.YtbbepmmelpabbaaVvm
set_option linter.unusedVariables false
set_option linter.unusedSimpArgs false
set_option maxRecDepth 100000
namespace Go.Proofs.Ytbbepmmelpabbaa.Mo
open Go Go.Proofs.Ytbbepmmelpabbaa.Sy

theorem upd_at {α : Type} (p r : List α) (y z : α) : upd (p ++ y :: r) (p.length : Int) z = some (p ++ z :: r) := by
  unfold upd
  rw [if_pos (by simp; omega)]
  simp

/-! ### Numbers, sorted -/
def Rises : List Int → Prop := List.Pairwise (· ≤ ·)

theorem sorted_l1 : ∀ (n : Nat) (p q : List Int) (x : Int), p.length = n → Rises p → Rises q → (∀ y ∈ q, x < y) → (∀ a ∈ p, ∀ b ∈ q, a ≤ b) → (p ++ x :: q).length ≤ 9223372036854775000 →
    ∃ r, r.Perm (p ++ x :: q) ∧ Rises r ∧ ∀ (J : Nat → List Int → Option (List Int)) b, Ev (fun k => J k r) b → Ev (fun k => r16_sorted.l1 (J k) k (p ++ x :: q) p.length) b
  | 0, p, q, x, hn, hp, hq, hx, hpq, hl => by
    obtain rfl := List.eq_nil_of_length_eq_zero hn
    refine ⟨x :: q, List.Perm.refl _, List.pairwise_cons.2 ⟨fun y hy => Int.le_of_lt (hx y hy), hq⟩, fun J b hJ => Ev.succ ?_⟩
    have e : decide ((0 : Int) < (([] : List Int).length : Int)) = false := by decide
    simp only [r16_sorted.l1, Jn, e, Bool.false_eq_true, if_false]
    exact hJ.shift
  | n + 1, p, q, x, hn, hp, hq, hx, hpq, hl => by
    rcases nil_or_snoc p with rfl | ⟨p0, y, rfl⟩
    · simp at hn
    have hbk : w64 (((p0 ++ [y]).length : Int) - 1) = (p0.length : Int) := back_at p0 q y x (by rw [maxLen_val]; omega)
    have i1 : idx (p0 ++ [y] ++ x :: q) (p0.length : Int) = some y := by
      have := idx_at p0 y (x :: q)
      simpa using this
    have i2 : idx (p0 ++ [y] ++ x :: q) ((p0 ++ [y]).length : Int) = some x := idx_at (p0 ++ [y]) x q
    have e := pos_snoc p0 y
    obtain ⟨hp0, _, hpy⟩ := List.pairwise_append.1 hp
    by_cases h : x < y
    · obtain ⟨r, r1, r2, r3⟩ := sorted_l1 n p0 (y :: q) x (by simpa using hn) hp0
        (List.pairwise_cons.2 ⟨fun z hz => hpq y (by simp) z hz, hq⟩)
        (fun z hz => by
          rcases List.mem_cons.1 hz with rfl | hz
          · exact h
          · exact hx z hz)
        (fun a ha b hb => by
          rcases List.mem_cons.1 hb with rfl | hb
          · exact hpy a ha b (by simp)
          · exact hpq a (by simp [ha]) b hb) (by simp at hl ⊢; omega)
      refine ⟨r, r1.trans ?_, r2, fun J b hJ => Ev.succ ?_⟩
      · rw [List.append_assoc]
        exact List.Perm.append_left p0 (List.Perm.swap y x q)
      · have u1 : upd (p0 ++ [y] ++ x :: q) (p0.length : Int) x = some (p0 ++ [x] ++ x :: q) := by
          have := upd_at p0 (x :: q) y x
          simpa using this
        have i3 : idx (p0 ++ [x] ++ x :: q) ((p0 ++ [y]).length : Int) = some x := by
          have := idx_at (p0 ++ [x]) x q
          simpa using this
        have u2 : upd (p0 ++ [x] ++ x :: q) ((p0 ++ [y]).length : Int) y = some (p0 ++ x :: y :: q) := by
          have := upd_at (p0 ++ [x]) q x y
          simpa using this
        simp only [r16_sorted.l1, Jn, e, if_true, hbk, i1, i2, Option.bind_some, h, decide_true, u1, i3, u2]
        exact r3 (fun k => J (k + 1)) b hJ.shift
    · refine ⟨p0 ++ [y] ++ x :: q, List.Perm.refl _, ?_, fun J b hJ => Ev.succ ?_⟩
      · refine List.pairwise_append.2 ⟨hp, List.pairwise_cons.2 ⟨fun z hz => Int.le_of_lt (hx z hz), hq⟩, fun a ha b hb => ?_⟩
        rcases List.mem_cons.1 hb with rfl | hb
        · rcases List.mem_append.1 ha with ha | ha
          · have := hpy a ha y (by simp)
            omega
          · simp at ha; omega
        · exact hpq a ha b hb
      · simp only [r16_sorted.l1, Jn, e, if_true, hbk, i1, i2, Option.bind_some, h, decide_false, Bool.false_eq_true, if_false]
        exact hJ.shift

theorem sorted_l0 (l : List Int) (hl : l.length ≤ 20000000000000) : ∀ (s p acc : List Int), l = p ++ s → acc.Perm p → Rises acc → ∃ r, r.Perm (p ++ s) ∧ Rises r ∧ Ev (fun k => r16_sorted.l0 l k acc p.length) r
  | [], p, acc, hp, h1, h2 => by
    subst hp
    refine ⟨acc, by simpa using h1, h2, Ev.succ ?_⟩
    simp only [r16_sorted.l0, lt_end, Bool.false_eq_true, if_false]
    exact Ev.ret
  | x :: s, p, acc, hp, h1, h2 => by
    have hal : acc.length = p.length := h1.length_eq
    have hpl : p.length + 1 ≤ l.length := by rw [hp]; simp
    obtain ⟨r, r1, r2, r3⟩ := sorted_l1 acc.length acc [] x rfl h2 List.Pairwise.nil (by simp) (by simp) (by simp; omega)
    obtain ⟨r', k1, k2, k3⟩ := sorted_l0 l hl s (p ++ [x]) r (by simp [hp]) (r1.trans (by simpa using h1.append_right [x])) r2
    refine ⟨r', by simpa using k1, k2, Ev.succ ?_⟩
    have e1 : decide ((p.length : Int) < (l.length : Int)) = true := by rw [hp]; exact lt_at p s x
    have e2 : idx l (p.length : Int) = some x := by rw [hp]; exact idx_at p x s
    simp only [r16_sorted.l0, e1, e2, if_true, Option.bind_some, Jn, push_ok (show acc.length < 28147497670912 by omega), step_at p s x (by rw [← hp, maxLen_val]; omega)]
    exact r3 (fun k l_377 => r16_sorted.l0 l k l_377 ((p ++ [x]).length : Int)) r' k3
theorem sorted_ev (l : List Int) (hl : l.length ≤ 20000000000000) : ∃ r, r.Perm l ∧ Rises r ∧ Ev (fun k => r16_sorted k l) r := by
  have := sorted_l0 l hl l [] [] (by simp) (List.Perm.refl _) List.Pairwise.nil
  simpa [r16_sorted] using this

theorem idx_l {l : List (List File)} {p s : List (List File)} {fs : List File} (hp : l = p ++ fs :: s) : idx l (p.length : Int) = some fs := by rw [hp]; exact idx_at p fs s
theorem numbers_l1 (l p0 s0 : List (List File)) (fs : List File) (hp0 : l = p0 ++ fs :: s0) (hf : fs.length ≤ 2199023255552) : ∀ (s p : List File) (acc : List Int), fs = p ++ s → acc.length + s.length ≤ 20000000000000 →
    ∀ (J : Nat → List Int → Option (List Int)) b, Ev (fun k => J k (acc ++ nums s)) b → Ev (fun k => r16_numbers.l1 l p0.length (J k) k acc p.length) b
  | [], p, acc, hp, hb, J, b, hJ => by
    refine Ev.succ ?_
    subst hp
    simp only [r16_numbers.l1]
    refine Ev.bind0 (idx_l hp0) ?_
    simp only [lt_end, Bool.false_eq_true, if_false]
    simpa [nums] using hJ.shift
  | f :: s, p, acc, hp, hb, J, b, hJ => by
    refine Ev.succ ?_
    subst hp
    simp only [r16_numbers.l1]
    refine Ev.bind0 (idx_l hp0) ?_
    simp only [lt_at, if_true]
    refine Ev.bind0 (idx_l hp0) ?_
    refine Ev.bind0 (idx_at p f s) ?_
    refine Ev.bind0 (push_ok (by simp at hb; omega)) ?_
    rw [step_at p s f (by rw [maxLen_val]; omega)]
    refine numbers_l1 l p0 s0 (p ++ f :: s) hp0 hf s (p ++ [f]) (acc ++ [f.Number]) (by simp) (by simp at hb ⊢; omega) (fun k => J (k + 1)) b ?_
    simpa [nums] using hJ.shift
theorem numbers_l0 (l : List (List File)) (hg : goodL l) (h7 : l.length ≤ 7) : ∀ (s p : List (List File)) (acc : List Int), l = p ++ s → acc.length + s.length * 2199023255552 ≤ 16000000000000 →
    ∃ r, r.Perm (acc ++ nums s.flatten) ∧ Rises r ∧ Ev (fun k => r16_numbers.l0 l k acc p.length) r
  | [], p, acc, hp, hb => by
    obtain ⟨r, r1, r2, r3⟩ := sorted_ev acc (by simp at hb; omega)
    refine ⟨r, by simpa [nums] using r1, r2, Ev.succ ?_⟩
    subst hp
    simp only [r16_numbers.l0, lt_end, Bool.false_eq_true, if_false]
    refine Ev.bind r3 Ev.ret
  | fs :: s, p, acc, hp, hb => by
    have hfs := (hg.1 fs (by rw [hp]; simp)).1
    obtain ⟨r, r1, r2, r3⟩ := numbers_l0 l hg h7 s (p ++ [fs]) (acc ++ nums fs) (by simp [hp]) (by simp [nums] at hb ⊢; omega)
    refine ⟨r, by simpa [nums, List.append_assoc] using r1, r2, Ev.succ ?_⟩
    have e1 : decide ((p.length : Int) < (l.length : Int)) = true := by rw [hp]; exact lt_at p s fs
    simp only [r16_numbers.l0, e1, if_true, Jn, step_at p s fs (by rw [← hp, maxLen_val]; omega)]
    exact numbers_l1 l p s fs hp hfs fs [] acc (by simp) (by simp at hb; omega) (fun k l_224 => r16_numbers.l0 l k l_224 ((p ++ [fs]).length : Int)) r r3
theorem numbers_ev (l : List (List File)) (hg : goodL l) (h7 : l.length ≤ 7) : ∃ r, r.Perm (nums l.flatten) ∧ Rises r ∧ Ev (fun k => r16_numbers k l) r := by
  have := numbers_l0 l hg h7 l [] [] (by simp) (by simp; omega)
  simpa [r16_numbers] using this

/-- Twice the same number beside itself? -/
def apartB : List Int → Bool
  | [] => true
  | [_] => true
  | x :: y :: r => !(x == y) && apartB (y :: r)
theorem apartB_nodup : ∀ {l : List Int}, Rises l → (apartB l = true ↔ l.Nodup)
  | [], _ => by simp [apartB]
  | [x], _ => by simp [apartB]
  | x :: y :: r, h => by
    have h' := List.pairwise_cons.1 h
    have h2 := List.pairwise_cons.1 h'.2
    simp only [apartB, Bool.and_eq_true, Bool.not_eq_true', beq_eq_false_iff_ne]
    rw [apartB_nodup h'.2, List.nodup_cons (a := x)]
    constructor
    · rintro ⟨a, b⟩
      refine ⟨fun hm => ?_, b⟩
      rcases List.mem_cons.1 hm with e | hm
      · exact a e
      · have := h2.1 x hm
        have := h'.1 y (by simp)
        omega
    · rintro ⟨a, b⟩
      exact ⟨fun e => a (by simp [e]), b⟩
theorem twice_l2 (n : List Int) (hl : n.length ≤ 9223372036854775000) : ∀ (s p : List Int) (x : Int), n = p ++ x :: s → ∀ (J : Nat → Option Bool) b, Ev J b → Ev (fun k => r16_Valid.l2 n (J k) k ((p ++ [x]).length : Int)) (if apartB (x :: s) = true then b else false)
  | [], p, x, hp, J, b, hJ => by
    refine Ev.succ ?_
    have e : decide (((p ++ [x]).length : Int) < (n.length : Int)) = false := by rw [hp]; simp
    simp only [r16_Valid.l2, e, Bool.false_eq_true, if_false, apartB, if_true]
    exact hJ.shift
  | y :: s, p, x, hp, J, b, hJ => by
    refine Ev.succ ?_
    have hp' : n = (p ++ [x]) ++ y :: s := by simp [hp]
    have e : decide (((p ++ [x]).length : Int) < (n.length : Int)) = true := by rw [hp']; exact lt_at (p ++ [x]) s y
    have hbk : w64 (((p ++ [x]).length : Int) - 1) = (p.length : Int) := back_at p s x y (by rw [← hp', maxLen_val]; omega)
    have i1 : idx n (p.length : Int) = some x := by rw [hp]; exact idx_at p x (y :: s)
    have i2 : idx n ((p ++ [x]).length : Int) = some y := by rw [hp']; exact idx_at (p ++ [x]) y s
    have hst := step_at (p ++ [x]) s y (by rw [← hp', maxLen_val]; omega)
    simp only [r16_Valid.l2, e, if_true, hbk, i1, i2, Option.bind_some, hst, apartB]
    by_cases h : (x == y) = true
    · simp only [h, if_true, Bool.not_true, Bool.false_and, Bool.false_eq_true, if_false]
      exact Ev.ret
    · have h' := Bool.eq_false_iff.2 h
      simp only [h', Bool.false_eq_true, if_false, Bool.not_false, Bool.true_and]
      exact twice_l2 n hl s (p ++ [x]) y hp' (fun k => J (k + 1)) b hJ.shift

theorem rvalid_l1 (l p0 s0 : List (List File)) (fs : List File) (hp0 : l = p0 ++ fs :: s0) (hf : fs.length ≤ 2199023255552) : ∀ (s p : List File), fs = p ++ s → ∀ (J : Nat → Option Bool) b, Ev J b →
    Ev (fun k => r16_Valid.l1 l p0.length (J k) k p.length) (if okF p0.length p.getLast? s = true then b else false)
  | [], p, hp, J, b, hJ => by
    refine Ev.succ ?_
    subst hp
    simp only [r16_Valid.l1]
    refine Ev.bind0 (idx_l hp0) ?_
    simp only [lt_end, Bool.false_eq_true, if_false, okF, if_true]
    exact hJ.shift
  | f :: s, p, hp, J, b, hJ => by
    refine Ev.succ ?_
    have hst := step_at p s f (by rw [← hp, maxLen_val]; omega)
    have e1 : decide ((p.length : Int) < (fs.length : Int)) = true := by rw [hp]; exact lt_at p s f
    have i1 : idx fs (p.length : Int) = some f := by rw [hp]; exact idx_at p f s
    have next := rvalid_l1 l p0 s0 fs hp0 hf s (p ++ [f]) (by simp [hp]) (fun k => J (k + 1)) b hJ.shift
    rw [last_snoc] at next
    simp only [r16_Valid.l1]
    refine Ev.bind0 (idx_l hp0) ?_
    simp only [e1, if_true, hst]
    refine Ev.bind0 (idx_l hp0) ?_
    refine Ev.bind0 i1 ?_
    refine Ev.bind0 (may_eq' f) ?_
    by_cases hm : mayB f = true
    · simp only [hm, Bool.not_true, Bool.false_eq_true, if_false, Jn]
      have hok : okF p0.length p.getLast? (f :: s) = (!badO p0.length p.getLast? f && okF p0.length (some f) s) := by simp [okF, hm]
      rw [hok]
      rcases nil_or_snoc p with rfl | ⟨p1, q, rfl⟩
      · have z : decide ((0 : Int) < (([] : List File).length : Int)) = false := by decide
        simp only [z, Bool.false_and, Bool.false_eq_true, if_false, List.getLast?_nil, badO, Bool.not_false, Bool.true_and]
        exact next
      · have z := pos_snoc p1 q
        have hbk : w64 (((p1 ++ [q]).length : Int) - 1) = (p1.length : Int) := back_at p1 s q f (by rw [← hp, maxLen_val]; omega)
        have i2 : idx fs (p1.length : Int) = some q := by
          have := idx_at p1 q (f :: s)
          rw [hp]
          simpa using this
        rw [last_snoc]
        by_cases h0 : p0.length = 0
        · have z0 : ((p0.length : Int) == 0) = true := by rw [h0]; rfl
          have z1 : decide ((0 : Int) < (p0.length : Int)) = false := by rw [h0]; rfl
          simp only [z, z0, z1, Bool.true_and, Bool.and_false, Bool.and_true, if_true, hbk]
          refine Ev.bind0 (idx_l hp0) ?_
          refine Ev.bind0 i2 ?_
          refine Ev.bind0 (idx_l hp0) ?_
          refine Ev.bind0 i1 ?_
          have hb : badO p0.length (some q) f = decide (f.Number ≤ q.Number) := by simp [badO, bad, h0]
          rw [hb]
          by_cases hc : f.Number ≤ q.Number
          · simp only [hc, decide_true, if_true, Bool.not_true, Bool.false_and, Bool.false_eq_true, if_false]
            exact Ev.ret
          · simp only [hc, decide_false, Bool.false_eq_true, if_false, Bool.not_false, Bool.true_and]
            exact next
        · have z0 : ((p0.length : Int) == 0) = false := beq_eq_false_iff_ne.2 (by omega)
          have z1 : decide ((0 : Int) < (p0.length : Int)) = true := decide_eq_true (by omega)
          simp only [z, z0, z1, Bool.true_and, Bool.and_false, Bool.and_true, Bool.false_eq_true, if_true, if_false, hbk]
          refine Ev.bind0 (idx_l hp0) ?_
          refine Ev.bind0 i2 ?_
          refine Ev.bind0 (idx_l hp0) ?_
          refine Ev.bind0 i1 ?_
          have hb : badO p0.length (some q) f = (!(sLt q.Limit f.Least || sEq q.Limit f.Least)) := by simp [badO, bad, h0]
          rw [hb]
          by_cases hc : (!(sLt q.Limit f.Least || sEq q.Limit f.Least)) = true
          · simp only [hc, if_true, Bool.not_true, Bool.false_and, Bool.false_eq_true, if_false]
            exact Ev.ret
          · have hc' := Bool.eq_false_iff.2 hc
            simp only [hc', Bool.false_eq_true, if_false, Bool.not_false, Bool.true_and]
            exact next
    · have hm' := Bool.eq_false_iff.2 hm
      simp only [hm', Bool.not_false, if_true, okF, Bool.false_and, Bool.false_eq_true, if_false]
      exact Ev.ret

theorem rvalid_l0 (l : List (List File)) (hg : goodL l) (h7 : l.length ≤ 7) : ∀ (s p : List (List File)), l = p ++ s → Ev (fun k => r16_Valid.l0 l k p.length) (if okL p.length s = true then decide (nums l.flatten).Nodup else false)
  | [], p, hp => by
    refine Ev.succ ?_
    have e1 : decide ((p.length : Int) < (l.length : Int)) = false := by rw [hp]; exact lt_end p
    obtain ⟨r, r1, r2, r3⟩ := numbers_ev l hg h7
    simp only [r16_Valid.l0, e1, Bool.false_eq_true, if_false, okL, if_true, Jn]
    refine Ev.bind r3 ?_
    have hd : decide (nums l.flatten).Nodup = apartB r := by
      rw [Bool.eq_iff_iff, decide_eq_true_iff, apartB_nodup r2]
      exact r1.symm.nodup_iff
    rw [hd]
    have hrl : r.length ≤ 9223372036854775000 := by
      rw [r1.length_eq]
      have : ∀ m : List (List File), (∀ y ∈ m, y.length ≤ 2199023255552) → (nums m.flatten).length ≤ m.length * 2199023255552 := by
        intro m
        induction m with
        | nil => simp [nums]
        | cons y m ih =>
          intro h
          have h1 := h y (by simp)
          have h2 := ih fun z hz => h z (by simp [hz])
          simp [nums] at h2 ⊢
          omega
      have := this l fun y hy => (hg.1 y hy).1
      omega
    cases r with
    | nil =>
      refine Ev.succ ?_
      simp only [r16_Valid.l2, apartB]
      exact Ev.ret
    | cons x r =>
      have := twice_l2 (x :: r) hrl r [] x (by simp) (fun _ => some true) true Ev.ret
      refine this.to ?_
      cases apartB (x :: r) <;> rfl
  | fs :: s, p, hp => by
    refine Ev.succ ?_
    have e1 : decide ((p.length : Int) < (l.length : Int)) = true := by rw [hp]; exact lt_at p s fs
    have hfs := (hg.1 fs (by rw [hp]; simp)).1
    have next := rvalid_l0 l hg h7 s (p ++ [fs]) (by simp [hp])
    simp only [r16_Valid.l0, e1, if_true, Jn, step_at p s fs (by rw [← hp, maxLen_val]; omega)]
    have := rvalid_l1 l p s fs hp hfs fs [] (by simp) (fun k => r16_Valid.l0 l k ((p ++ [fs]).length : Int)) _ next
    refine this.to ?_
    have hl1 : (p ++ [fs]).length = p.length + 1 := by simp
    rw [hl1]
    simp only [okL, List.getLast?_nil]
    by_cases hx : okF p.length none fs = true <;> simp [hx]
theorem rvalid_ev (l : List (List File)) (hg : goodL l) : Ev (fun k => r16_Valid k l) (validB l) := by
  unfold r16_Valid
  by_cases h1 : 1 ≤ l.length ∧ l.length ≤ 7
  · have e : ((decide ((l.length : Int) < 1)) || (decide (7 < (l.length : Int)))) = false := by simp; omega
    simp only [e, Bool.false_eq_true, if_false]
    have := rvalid_l0 l hg h1.2 l [] (by simp)
    refine this.to ?_
    unfold validB
    rw [goL_eq]
    simp only [h1.1, h1.2, decide_true, Bool.true_and, List.length_nil]
    cases okL 0 l <;> simp
  · have e : ((decide ((l.length : Int) < 1)) || (decide (7 < (l.length : Int)))) = true := by simp; omega
    simp only [e, if_true]
    refine Ev.ret.to ?_
    symm
    unfold validB
    by_cases h2 : 1 ≤ l.length
    · have : ¬ l.length ≤ 7 := fun h => h1 ⟨h2, h⟩
      simp [this]
    · simp [h2]

/-! ### Levels and their files -/
theorem level_ev (l : List (List File)) (hg : goodL l) (i : Int) : Ev (fun k => r16_level k l i) (ofS l i) := by
  unfold r16_level ofS
  refine Ev.bind (rvalid_ev l hg) ?_
  by_cases h : ((!validB l || decide (i < 0)) || decide ((l.length : Int) ≤ i)) = true
  · simp only [if_pos h]; exact Ev.ret
  · simp only [if_neg h]
    simp only [Bool.or_eq_true, not_or, decide_eq_true_eq] at h
    obtain ⟨n, rfl⟩ : ∃ n : Nat, i = n := ⟨i.toNat, by omega⟩
    refine Ev.bind0 (getD_idx2 [] (show n < l.length by omega)) ?_
    exact Ev.ret
theorem rsize_l0 (fs : List File) (hl : fs.length ≤ 2199023255552) : ∀ (s p : List File) (n : Int), fs = p ++ s → Ev (fun k => r16_Size.l0 fs k n p.length) (s.foldl (fun n f => w64 (n + f.Size)) n)
  | [], p, n, hp => by
    subst hp
    refine Ev.succ ?_
    simp only [r16_Size.l0, lt_end, Bool.false_eq_true, if_false]
    exact Ev.ret
  | f :: s, p, n, hp => by
    refine Ev.succ ?_
    subst hp
    simp only [r16_Size.l0, lt_at, idx_at, if_true, Option.bind_some, step_at p s f (by rw [maxLen_val]; omega)]
    have := rsize_l0 (p ++ f :: s) hl s (p ++ [f]) (w64 (n + f.Size)) (by simp)
    simpa using this
theorem rsize_ev (l : List (List File)) (hg : goodL l) (i : Int) : Ev (fun k => r16_Size k l i) (sizeS (ofS l i)) := by
  unfold r16_Size
  refine Ev.bind (level_ev l hg i) ?_
  exact rsize_l0 (ofS l i) (ofS_len l hg i) (ofS l i) [] 0 (by simp)
theorem rspan_l0 (fs : List File) (hl : fs.length ≤ 9223372036854775000) : ∀ (s p : List File) (a b : ByteArray), fs = p ++ s → Ev (fun k => r16_Span.l0 fs k a b p.length) (leastG a s, limitG b s, true)
  | [], p, a, b, hp => by
    subst hp
    refine Ev.succ ?_
    simp only [r16_Span.l0, lt_end, Bool.false_eq_true, if_false]
    exact Ev.ret
  | f :: s, p, a, b, hp => by
    refine Ev.succ ?_
    subst hp
    simp only [r16_Span.l0, lt_at, idx_at, if_true, Option.bind_some, step_at p s f (by rw [maxLen_val]; omega)]
    exact rspan_l0 (p ++ f :: s) hl s (p ++ [f]) (minS a f.Least) (maxS b f.Limit) (by simp)
theorem rspan_ev (fs : List File) (hl : fs.length ≤ 9223372036854775000) : Ev (fun k => r16_Span k fs) (spanS fs) := by
  unfold r16_Span
  cases fs with
  | nil => exact Ev.ret
  | cons f s =>
    have e : (((f :: s).length : Int) == 0) = false := by simp; omega
    have i0 : idx (f :: s) 0 = some f := by simp [idx]
    simp only [e, Bool.false_eq_true, if_false, i0, Option.bind_some]
    exact rspan_l0 (f :: s) hl s [f] f.Least f.Limit (by simp)
theorem rover_l0 (a b : ByteArray) (fs : List File) (hl : fs.length ≤ 2199023255552) : ∀ (s p acc : List File), fs = p ++ s → acc.length ≤ p.length → Ev (fun k => r16_Over.l0 a b fs k acc p.length) (acc ++ s.filter fun f => ovB f a b)
  | [], p, acc, hp, ha => by
    subst hp
    refine Ev.succ ?_
    simp only [r16_Over.l0, lt_end, Bool.false_eq_true, if_false]
    simpa using Ev.ret
  | f :: s, p, acc, hp, ha => by
    refine Ev.succ ?_
    subst hp
    simp only [r16_Over.l0, lt_at, idx_at, if_true, Option.bind_some, step_at p s f (by rw [maxLen_val]; omega), Jn, ov_eq']
    have hpl : acc.length < 3518437208730 := by simp at hl; omega
    by_cases h : ovB f a b = true
    · simp only [h, if_true, push_ok hpl, Option.bind_some]
      have := rover_l0 a b (p ++ f :: s) hl s (p ++ [f]) (acc ++ [f]) (by simp) (by simp; omega)
      simpa [h] using this
    · simp only [h, if_false]
      have := rover_l0 a b (p ++ f :: s) hl s (p ++ [f]) acc (by simp) (by simp; omega)
      simpa [h] using this
theorem rover_ev (l : List (List File)) (hg : goodL l) (i : Int) (a b : ByteArray) : Ev (fun k => r16_Over k l i a b) (overS l i a b) := by
  unfold r16_Over
  refine Ev.bind (level_ev l hg i) ?_
  have := rover_l0 a b (ofS l i) (ofS_len l hg i) (ofS l i) [] [] (by simp) (by simp)
  rw [List.nil_append] at this
  exact this
end Go.Proofs.Ytbbepmmelpabbaa.Mo
