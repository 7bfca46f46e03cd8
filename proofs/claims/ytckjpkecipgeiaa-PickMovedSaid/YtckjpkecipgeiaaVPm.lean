import Derived.Test.YtckjpkecipgeiaaVPl
set_option linter.unusedVariables false
set_option linter.unusedSimpArgs false
set_option maxRecDepth 100000
namespace Go.Proofs.Ytckjpkecipgeiaa.Mo
open Go Go.Proofs.Ytckjpkecipgeiaa.Sy
def okF (i : Nat) : Option File → List File → Bool
  | _, [] => true
  | pv, f :: r => mayB f && (!badO i pv f && okF i (some f) r)
def okL : Nat → List (List File) → Bool
  | _, [] => true
  | i, fs :: r => okF i none fs && okL (i + 1) r
def nums (fs : List File) : List Int := fs.map (·.Number)
theorem goF_eq (i : Nat) : ∀ (s : List File) (pv : Option File) (seen : List Int), goF i pv seen s = if okF i pv s = true ∧ (nums s).Nodup ∧ (∀ x ∈ nums s, x ∉ seen) then some ((nums s).reverse ++ seen) else none
  | [], pv, seen => by simp [goF, okF, nums]
  | f :: s, pv, seen => by
    simp only [goF]
    rw [goF_eq i s (some f) (f.Number :: seen)]
    by_cases h1 : mayB f = true
    · by_cases h2 : f.Number ∈ seen
      · rw [if_pos (by simp [h2])]
        rw [if_neg]
        rintro ⟨_, _, h⟩
        exact h f.Number (by simp [nums]) h2
      · rw [if_neg (by simp [h1, h2])]
        by_cases h3 : badO i pv f = true
        · rw [if_pos h3, if_neg]
          rintro ⟨h, _⟩
          simp [okF, h3] at h
        · rw [if_neg h3]
          have e : (okF i (some f) s = true ∧ (nums s).Nodup ∧ (∀ x ∈ nums s, x ∉ f.Number :: seen)) ↔ (okF i pv (f :: s) = true ∧ (nums (f :: s)).Nodup ∧ (∀ x ∈ nums (f :: s), x ∉ seen)) := by
            have h3' : badO i pv f = false := by simpa using h3
            have ho : okF i pv (f :: s) = okF i (some f) s := by simp [okF, h1, h3']
            rw [ho]
            constructor
            · rintro ⟨a, b, c⟩
              refine ⟨a, List.nodup_cons.2 ⟨fun hm => (c _ hm) (List.mem_cons_self ..), b⟩, ?_⟩
              intro x hx
              rcases List.mem_cons.1 hx with rfl | hx
              · exact h2
              · exact fun hs => c x hx (List.mem_cons_of_mem _ hs)
            · rintro ⟨a, bc, d⟩
              obtain ⟨b, c⟩ := List.nodup_cons.1 bc
              refine ⟨a, c, fun x hx hs => ?_⟩
              rcases List.mem_cons.1 hs with rfl | hs
              · exact b hx
              · exact d x (List.mem_cons_of_mem _ hx) hs
          by_cases h4 : okF i (some f) s = true ∧ (nums s).Nodup ∧ (∀ x ∈ nums s, x ∉ f.Number :: seen)
          · rw [if_pos h4, if_pos (e.1 h4)]
            simp [nums]
          · rw [if_neg h4, if_neg (fun h => h4 (e.2 h))]
    · rw [if_pos (by simp [h1]), if_neg]
      rintro ⟨h, _⟩
      simp [okF, h1] at h
theorem goL_eq : ∀ (l : List (List File)) (i : Nat) (seen : List Int), goL i seen l = decide (okL i l = true ∧ (nums l.flatten).Nodup ∧ ∀ x ∈ nums l.flatten, x ∉ seen)
  | [], i, seen => by simp [goL, okL, nums]
  | fs :: r, i, seen => by
    simp only [goL]
    rw [goF_eq]
    by_cases h : okF i none fs = true ∧ (nums fs).Nodup ∧ (∀ x ∈ nums fs, x ∉ seen)
    · rw [if_pos h]
      show goL (i + 1) _ r = _
      rw [goL_eq r (i + 1)]
      apply decide_eq_decide.2
      simp only [okL, h.1, Bool.true_and, List.flatten_cons, nums, List.map_append, List.nodup_append, List.mem_append, List.mem_reverse]
      constructor
      · rintro ⟨a, b, c⟩
        refine ⟨a, ⟨h.2.1, b, fun x hx y hy e => c y hy (.inl (e ▸ hx))⟩, ?_⟩
        rintro x (hx | hx)
        · exact h.2.2 x hx
        · exact fun k => c x hx (.inr k)
      · rintro ⟨a, ⟨_, b, c⟩, d⟩
        refine ⟨a, b, fun x hx => ?_⟩
        rintro (k | k)
        · exact c x k x hx rfl
        · exact d x (.inr hx) k
    · rw [if_neg h]
      symm
      apply decide_eq_false
      rintro ⟨a, b, c⟩
      simp only [okL, Bool.and_eq_true] at a
      simp only [List.flatten_cons, nums, List.map_append, List.nodup_append, List.mem_append] at b c
      exact h ⟨a.1, b.1, fun x hx => c x (.inl hx)⟩
theorem validB_iff {l : List (List File)} : validB l = true ↔ 1 ≤ l.length ∧ l.length ≤ 7 ∧ okL 0 l = true ∧ (nums l.flatten).Nodup := by
  unfold validB
  rw [goL_eq]
  simp [and_assoc]
theorem okF_may {i : Nat} : ∀ {s : List File} {pv : Option File}, okF i pv s = true → ∀ f ∈ s, mayB f = true
  | [], _, _, f, hf => by simp at hf
  | x :: s, pv, h, f, hf => by
    simp only [okF, Bool.and_eq_true] at h
    rcases List.mem_cons.1 hf with rfl | hf
    · exact h.1
    · exact okF_may h.2.2 f hf
theorem okL_get : ∀ {l : List (List File)} {i j : Nat} {fs : List File}, okL i l = true → l[j]? = some fs → okF (i + j) none fs = true
  | [], i, j, fs, _, h => by simp at h
  | y :: l, i, 0, fs, h, hj => by
    simp at hj; subst hj
    simp only [okL, Bool.and_eq_true] at h
    exact h.1
  | y :: l, i, j + 1, fs, h, hj => by
    simp only [okL, Bool.and_eq_true] at h
    have := okL_get h.2 (by simpa using hj)
    rwa [show i + 1 + j = i + (j + 1) by omega] at this
theorem may_iff {f : File} : mayB f = true ↔ (1 ≤ f.Number ∧ f.Number ≤ 2147483647) ∧ (1 ≤ f.Size ∧ f.Size ≤ 268435456) ∧ (1 ≤ f.Least.size ∧ f.Least.size ≤ 1024) ∧ slt f.Least f.Limit ∧ f.Limit.size ≤ 1025 ∧ 1 ≤ f.Low ∧ f.Low ≤ f.High ∧ f.High ≤ 72057594037927935 := by
  simp only [mayB, version_may, Option.getD_some, Bool.and_eq_true, decide_eq_true_eq, sLt_iff]
  constructor
  · rintro ⟨⟨⟨⟨⟨⟨⟨⟨⟨⟨h1, h2⟩, h3⟩, h4⟩, h5⟩, h6⟩, h7⟩, h8⟩, h9⟩, h10⟩, h11⟩
    exact ⟨⟨h1, h2⟩, ⟨h3, h4⟩, ⟨by omega, by omega⟩, h7, by omega, h9, h10, h11⟩
  · rintro ⟨⟨h1, h2⟩, ⟨h3, h4⟩, ⟨h5, h6⟩, h7, h8, h9, h10, h11⟩
    exact ⟨⟨⟨⟨⟨⟨⟨⟨⟨⟨h1, h2⟩, h3⟩, h4⟩, by omega⟩, by omega⟩, h7⟩, by omega⟩, h9⟩, h10⟩, h11⟩
/-- Level 0: rising numbers: no more than there are numbers. -/
theorem okF_zero_len : ∀ {s : List File} {pv : Option File}, okF 0 pv s = true → ∀ q, pv = some q → 1 ≤ q.Number → q.Number + s.length ≤ 2147483647 ∨ s = []
  | [], _, _, _, _, _ => .inr rfl
  | x :: s, pv, h, q, hq, h1 => by
    subst hq
    simp only [okF, badO, bad, Bool.and_eq_true, Bool.not_eq_true', if_true, decide_eq_false_iff_not] at h
    have hm := may_iff.1 h.1
    rcases okF_zero_len h.2.2 x rfl hm.1.1 with h3 | rfl
    · left; simp; omega
    · left; simp; omega
theorem level0_len {s : List File} (h : okF 0 none s = true) : s.length ≤ 2147483647 := by
  cases s with
  | nil => simp
  | cons x s =>
    simp only [okF, Bool.and_eq_true] at h
    have hm := may_iff.1 h.1
    rcases okF_zero_len h.2.2 x rfl hm.1.1 with h3 | rfl
    · simp; omega
    · simp
def ofS (l : List (List File)) (i : Int) : List File := if ((!validB l || decide (i < 0)) || decide ((l.length : Int) ≤ i)) = true then [] else l.getD i.toNat []
theorem of_ev (l : List (List File)) (hg : goodL l) (i : Int) : Ev (fun k => version_of k l i) (ofS l i) := by
  unfold version_of ofS
  refine Ev.bind (valid_ev l hg) ?_
  by_cases h : ((!validB l || decide (i < 0)) || decide ((l.length : Int) ≤ i)) = true
  · simp only [if_pos h]; exact Ev.ret
  · simp only [if_neg h]
    simp only [Bool.or_eq_true, not_or, decide_eq_true_eq] at h
    obtain ⟨n, rfl⟩ : ∃ n : Nat, i = n := ⟨i.toNat, by omega⟩
    have hn : n < l.length := by omega
    refine Ev.bind0 (getD_idx hn) ?_
    simp [List.getD_eq_getElem?_getD, hn]
    exact Ev.ret
theorem ofS_len (l : List (List File)) (hg : goodL l) (i : Int) : (ofS l i).length ≤ 2199023255552 := by
  unfold ofS
  split
  · simp
  · rw [List.getD_eq_getElem?_getD]
    cases h : l[i.toNat]? with
    | none => simp
    | some y => exact (hg.1 y (List.mem_of_getElem? h)).1
theorem ofS_valid {l : List (List File)} {i : Nat} {fs : List File} (hv : validB l = true) (h : l[i]? = some fs) : ofS l i = fs := by
  unfold ofS
  have hi := (List.getElem?_eq_some_iff.1 h).1
  rw [if_neg (by simp [hv]; omega), List.getD_eq_getElem?_getD, Int.toNat_natCast, h]
  rfl
def sizeS (fs : List File) : Int := fs.foldl (fun n f => w64 (n + f.Size)) 0
theorem size_l0 (fs : List File) (hl : fs.length ≤ 2199023255552) : ∀ (s p : List File) (n : Int), fs = p ++ s → Ev (fun k => version_Size.l0 fs k n p.length) (s.foldl (fun n f => w64 (n + f.Size)) n) := by
  intro s
  induction s with
  | nil =>
    intro p n hp
    subst hp
    refine Ev.succ ?_
    simp only [version_Size.l0, lt_end, Bool.false_eq_true, if_false]
    exact Ev.ret
  | cons f s ih =>
    intro p n hp
    refine Ev.succ ?_
    subst hp
    simp only [version_Size.l0, lt_at, idx_at, if_true, Option.bind_some, step_at p s f (by rw [maxLen_val]; omega)]
    have := ih (p ++ [f]) (w64 (n + f.Size)) (by simp)
    simpa using this
theorem size_ev (l : List (List File)) (hg : goodL l) (i : Int) : Ev (fun k => version_Size k l i) (sizeS (ofS l i)) := by
  unfold version_Size
  refine Ev.bind (of_ev l hg i) ?_
  exact size_l0 (ofS l i) (ofS_len l hg i) (ofS l i) [] 0 (by simp)
def leastG (m : ByteArray) (r : List File) : ByteArray := r.foldl (fun m f => minS m f.Least) m
def limitG (m : ByteArray) (r : List File) : ByteArray := r.foldl (fun m f => maxS m f.Limit) m
def spanS : List File → ByteArray × ByteArray × Bool
  | [] => (ByteArray.mk #[], ByteArray.mk #[], false)
  | f :: r => (leastG f.Least r, limitG f.Limit r, true)
theorem minS_alt (a b : ByteArray) : (if sLt b a = true then b else a) = minS a b := by
  rcases minS_cases a b with ⟨h, e⟩ | ⟨h, e⟩ <;> rw [e]
  · rw [if_neg (by rw [sLt_iff]; exact h)]
  · rw [if_pos (sLt_iff.2 h)]
theorem maxS_alt (a b : ByteArray) : (if (!(sLt b a || sEq b a)) = true then b else a) = maxS a b := by
  rw [sLe_dec]
  rcases maxS_cases a b with ⟨h, e⟩ | ⟨h, e⟩ <;> rw [e]
  · rw [if_pos (by simp [sle, h])]
  · rw [if_neg (by simp [h])]
theorem span_l0 (fs : List File) (hl : fs.length ≤ 9223372036854775000) : ∀ (s p : List File) (a b : ByteArray), fs = p ++ s → p ≠ [] → Ev (fun k => version_Span.l0 fs k a b p.length) (leastG a s, limitG b s, true) := by
  intro s
  induction s with
  | nil =>
    intro p a b hp hne
    have : decide ((0 : Int) < (fs.length : Int)) = true := by
      rw [hp]
      cases p with
      | nil => exact absurd rfl hne
      | cons => simp
    subst hp
    refine Ev.succ ?_
    simp only [version_Span.l0, lt_end, Bool.false_eq_true, if_false, this]
    exact Ev.ret
  | cons f s ih =>
    intro p a b hp hne
    refine Ev.succ ?_
    subst hp
    have hz : ((p.length : Int) == 0) = false := by
      cases p with
      | nil => exact absurd rfl hne
      | cons => simp; omega
    simp only [version_Span.l0, lt_at, idx_at, if_true, Option.bind_some, step_at p s f (by rw [maxLen_val]; omega), hz, Bool.false_or, Jn]
    have key := ih (p ++ [f]) (minS a f.Least) (maxS b f.Limit) (by simp) (by simp)
    refine Ev.congr (fun k => ?_) key
    rw [← minS_alt, ← maxS_alt]
    split <;> split <;> rfl
theorem span_ev (fs : List File) (hl : fs.length ≤ 9223372036854775000) : Ev (fun k => version_Span k fs) (spanS fs) := by
  unfold version_Span
  cases fs with
  | nil =>
    refine Ev.succ ?_
    simp [version_Span.l0, spanS]
    exact Ev.ret
  | cons f s =>
    refine Ev.succ ?_
    have key := span_l0 (f :: s) hl s [f] f.Least f.Limit (by simp) (by simp)
    refine Ev.congr (fun k => ?_) key
    have e2 : idx (f :: s) 0 = some f := by simp [idx]
    have e3 : w64 (0 + 1) = 1 := by decide
    have e4 : w64 1 = 1 := by decide
    simp [version_Span.l0, e2, e4, Jn]
def overS (l : List (List File)) (i : Int) (a b : ByteArray) : List File := (ofS l i).filter fun f => ovB f a b
theorem over_l0 (a b : ByteArray) (fs : List File) (hl : fs.length ≤ 2199023255552) : ∀ (s p acc : List File), fs = p ++ s → acc.length ≤ p.length → Ev (fun k => version_Over.l0 a b fs k acc p.length) (acc ++ s.filter fun f => ovB f a b) := by
  intro s
  induction s with
  | nil =>
    intro p acc hp ha
    subst hp
    refine Ev.succ ?_
    simp only [version_Over.l0, lt_end, Bool.false_eq_true, if_false]
    simpa using Ev.ret
  | cons f s ih =>
    intro p acc hp ha
    refine Ev.succ ?_
    subst hp
    simp only [version_Over.l0, lt_at, idx_at, if_true, Option.bind_some, step_at p s f (by rw [maxLen_val]; omega), Jn, ov_eq]
    have hpl : acc.length < 3518437208730 := by simp at hl; omega
    by_cases h : ovB f a b = true
    · simp only [h, if_true, push_ok hpl, Option.bind_some]
      have := ih (p ++ [f]) (acc ++ [f]) (by simp) (by simp; omega)
      simpa [h] using this
    · simp only [h, if_false]
      have := ih (p ++ [f]) acc (by simp) (by simp; omega)
      simpa [h] using this
theorem over_ev (l : List (List File)) (hg : goodL l) (i : Int) (a b : ByteArray) : Ev (fun k => version_Over k l i a b) (overS l i a b) := by
  unfold version_Over
  refine Ev.bind (of_ev l hg i) ?_
  have := over_l0 a b (ofS l i) (ofS_len l hg i) (ofS l i) [] [] (by simp) (by simp)
  rw [List.nil_append] at this
  exact this
end Go.Proofs.Ytckjpkecipgeiaa.Mo
