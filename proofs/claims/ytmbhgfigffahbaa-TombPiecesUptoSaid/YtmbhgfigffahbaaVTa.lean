/- Tombs in plain words: valid ones, covers, fragments. (Template: CmU, CmS: the modules of unlike at numbers and at texts.) -/
import Derived.Test.YtmbhgfigffahbaaCmU
import Derived.Test.YtmbhgfigffahbaaCmS
set_option linter.unusedVariables false
set_option linter.unusedSectionVars false
set_option linter.unusedSimpArgs false
set_option maxRecDepth 100000
namespace Go.Proofs.Ytmbhgfigffahbaa.Mo
open Go Go.Proofs.Ytmbhgfigffahbaa.Sy

/-- A valid tomb. -/
def okT (x : Tomb) : Bool := (tomb_Valid x).getD false
theorem valid_eq (x : Tomb) : tomb_Valid x = some (okT x) := rfl
theorem okT_lt {x : Tomb} (h : okT x = true) : slt x.Begin x.End := by
  simp only [okT, tomb_Valid, Option.getD_some, Bool.and_eq_true] at h
  exact sLt_iff.1 h.1.2

theorem valid_l0 (l : List Tomb) (h : l.length < 5629499534059) : ∀ s p acc, l = p ++ s → acc.length ≤ p.length → Ev (fun k => tomb_valid.l0 l k acc (p.length : Int)) (acc ++ s.filter okT) := by
  intro s
  induction s with
  | nil =>
    intro p acc hl ha
    subst hl
    refine Ev.succ ?_
    simp only [tomb_valid.l0, lt_end, Bool.false_eq_true, if_false]
    simpa using Ev.ret
  | cons x s ih =>
    intro p acc hl ha
    have hm : (p ++ x :: s).length ≤ maxLen := by rw [maxLen_val, ← hl]; omega
    have hp : p.length < 5629499534059 := by rw [hl] at h; simp at h; omega
    refine Ev.succ ?_
    subst hl
    simp only [tomb_valid.l0, lt_at, if_true, Jn, idx_at, Option.bind_some, valid_eq, step_at p s x hm]
    by_cases hx : okT x = true
    · simp only [hx, if_true, push_ok (xs := acc) (x := x) (Nat.lt_of_le_of_lt ha hp), Option.bind_some]
      exact (ih (p ++ [x]) (acc ++ [x]) (by simp) (by simp; omega)).to (by simp [hx])
    · simp only [hx, if_false]
      exact (ih (p ++ [x]) acc (by simp) (by simp; omega)).to (by simp [hx])
theorem valid_ev (l : List Tomb) (h : l.length < 5629499534059) : Ev (fun k => tomb_valid k l) (l.filter okT) := by
  have := valid_l0 l h l [] [] rfl (Nat.le_refl _)
  simpa [tomb_valid] using this

/-! ### Covers -/
def cov (key : ByteArray) (n : Int) (x : Tomb) : Bool := okT x && decide (x.Seq ≤ n) && (sLt x.Begin key || sEq x.Begin key) && sLt key x.End
def covers (key : ByteArray) (n : Int) : List Tomb → Int × Bool → Int × Bool
  | [], c => c
  | x :: s, c => covers key n s (if cov key n x = true then (maxI c.1 x.Seq, true) else c)
theorem cover_l0 (key : ByteArray) (n : Int) (l : List Tomb) (h : l.length < 5629499534059) : ∀ s p c, l = p ++ s → Ev (fun k => tomb_Cover.l0 l key n k c.1 c.2 (p.length : Int)) (covers key n s c) := by
  intro s
  induction s with
  | nil =>
    intro p c hl
    subst hl
    refine Ev.succ ?_
    simp only [tomb_Cover.l0, lt_end, Bool.false_eq_true, if_false]
    exact Ev.ret
  | cons x s ih =>
    intro p c hl
    have hm : (p ++ x :: s).length ≤ maxLen := by rw [maxLen_val, ← hl]; omega
    refine Ev.succ ?_
    subst hl
    simp only [tomb_Cover.l0, lt_at, if_true, Jn, idx_at, Option.bind_some, valid_eq, step_at p s x hm]
    by_cases hx : cov key n x = true
    · have hx' := hx
      simp only [cov] at hx'
      simp only [hx', if_true]
      exact (ih (p ++ [x]) (maxI c.1 x.Seq, true) (by simp)).to (by simp [covers, hx])
    · have hx' := hx
      simp only [cov] at hx'
      simp only [hx', if_false]
      exact (ih (p ++ [x]) c (by simp)).to (by simp [covers, hx])
theorem cover_ev (key : ByteArray) (n : Int) (l : List Tomb) (h : l.length < 5629499534059) : Ev (fun k => tomb_Cover k l key n) (covers key n l (0, false)) := by
  have := cover_l0 key n l h l [] (0, false) rfl
  simpa [tomb_Cover] using this
theorem covers_ok (key : ByteArray) (n : Int) : ∀ (l : List Tomb) (c : Int × Bool), ((covers key n l c).2 = true ↔ c.2 = true ∨ ∃ x ∈ l, cov key n x = true)
  | [], c => by simp [covers]
  | x :: s, c => by
    rw [covers, covers_ok key n s]
    by_cases h : cov key n x = true <;> simp [h]
theorem covers_max (key : ByteArray) (n : Int) : ∀ (l : List Tomb) (c : Int × Bool), c.1 ≤ (covers key n l c).1 ∧ (∀ x ∈ l, cov key n x = true → x.Seq ≤ (covers key n l c).1) ∧ ((covers key n l c).1 = c.1 ∨ ∃ x ∈ l, cov key n x = true ∧ (covers key n l c).1 = x.Seq)
  | [], c => by simp [covers]
  | x :: s, c => by
    rw [covers]
    by_cases h : cov key n x = true
    · simp only [h, if_true]
      obtain ⟨h1, h2, h3⟩ := covers_max key n s (maxI c.1 x.Seq, true)
      have hm : c.1 ≤ maxI c.1 x.Seq ∧ x.Seq ≤ maxI c.1 x.Seq ∧ (maxI c.1 x.Seq = c.1 ∨ maxI c.1 x.Seq = x.Seq) := by unfold maxI; split <;> omega
      refine ⟨Int.le_trans hm.1 h1, fun y hy k => ?_, ?_⟩
      · rcases List.mem_cons.1 hy with e | e
        · subst e; exact Int.le_trans hm.2.1 h1
        · exact h2 y e k
      · rcases h3 with e | ⟨y, hy, k, e⟩
        · rcases hm.2.2 with e2 | e2
          · exact .inl (e.trans e2)
          · exact .inr ⟨x, by simp, h, e.trans e2⟩
        · exact .inr ⟨y, by simp [hy], k, e⟩
    · simp only [h, if_false]
      obtain ⟨h1, h2, h3⟩ := covers_max key n s c
      refine ⟨h1, fun y hy k => ?_, ?_⟩
      · rcases List.mem_cons.1 hy with e | e
        · subst e; exact absurd k h
        · exact h2 y e k
      · rcases h3 with e | ⟨y, hy, k, e⟩
        · exact .inl e
        · exact .inr ⟨y, by simp [hy], k, e⟩

/-! ### Reverse, Equal -/
theorem reverse_l0 : ∀ (n : Nat) (m p s : List Int), m.length ≤ n → (p ++ m ++ s).length ≤ 1152921504606846976 → Ev (fun k => slices_Reverse_uint64.l0 k (p ++ m ++ s) (p.length : Int) (((p ++ m).length : Int) - 1)) (p ++ m.reverse ++ s) := by
  intro n
  induction n with
  | zero =>
    intro m p s hm hl
    obtain rfl : m = [] := List.eq_nil_of_length_eq_zero (by omega)
    refine Ev.succ ?_
    have h : decide ((p.length : Int) < ((p ++ ([] : List Int)).length : Int) - 1) = false := decide_eq_false (by simp; omega)
    simp only [slices_Reverse_uint64.l0, h, Bool.false_eq_true, if_false]
    simpa using Ev.ret
  | succ n ih =>
    intro m p s hm hl
    cases m with
    | nil =>
      refine Ev.succ ?_
      have h : decide ((p.length : Int) < ((p ++ ([] : List Int)).length : Int) - 1) = false := decide_eq_false (by simp; omega)
      simp only [slices_Reverse_uint64.l0, h, Bool.false_eq_true, if_false]
      simpa using Ev.ret
    | cons x m =>
      rcases nil_or_snoc m with rfl | ⟨m, y, rfl⟩
      · refine Ev.succ ?_
        have h : decide ((p.length : Int) < ((p ++ [x]).length : Int) - 1) = false := decide_eq_false (by simp)
        simp only [slices_Reverse_uint64.l0, h, Bool.false_eq_true, if_false]
        simpa using Ev.ret
      · have hl' := hl
        simp only [List.length_append, List.length_cons, List.length_nil] at hl' hm
        have h : decide ((p.length : Int) < ((p ++ x :: (m ++ [y])).length : Int) - 1) = true := decide_eq_true (by simp; omega)
        have hj : ((p ++ x :: (m ++ [y])).length : Int) - 1 = ((p ++ x :: m).length : Int) := by simp; omega
        rw [hj] at h ⊢
        have e1 : idx (p ++ x :: (m ++ [y]) ++ s) ((p ++ x :: m).length : Int) = some y := idx_as (p := p ++ x :: m) (s := s) (by simp) rfl
        have e2 : idx (p ++ x :: (m ++ [y]) ++ s) (p.length : Int) = some x := idx_as (p := p) (s := m ++ [y] ++ s) (by simp) rfl
        have e3 : upd (p ++ x :: (m ++ [y]) ++ s) (p.length : Int) y = some (p ++ y :: (m ++ [y] ++ s)) := upd_as (p := p) (x := x) (s := m ++ [y] ++ s) y (by simp) rfl
        have e4 : idx (p ++ y :: (m ++ [y] ++ s)) ((p ++ x :: m).length : Int) = some y := idx_as (p := p ++ y :: m) (s := s) (by simp) (by simp)
        have e5 : upd (p ++ y :: (m ++ [y] ++ s)) ((p ++ x :: m).length : Int) x = some (p ++ y :: m ++ x :: s) := upd_as (p := p ++ y :: m) (x := y) (s := s) x (by simp) (by simp)
        have w1 : w64 ((p.length : Int) + 1) = ((p ++ [y]).length : Int) := by simp only [List.length_append, List.length_cons, List.length_nil]; rw [w64_of (by omega) (by omega)]; omega
        have w2 : w64 (((p ++ x :: m).length : Int) - 1) = ((p ++ [y] ++ m).length : Int) - 1 := by simp only [List.length_append, List.length_cons, List.length_nil]; rw [w64_of (by omega) (by omega)]; omega
        have := ih m (p ++ [y]) (x :: s) (by omega) (by simp; omega)
        refine Ev.succ ?_
        simp only [slices_Reverse_uint64.l0, h, if_true, e1, e2, e3, e4, e5, Option.bind_some, w1, w2]
        have e6 : p ++ y :: m ++ x :: s = p ++ [y] ++ m ++ x :: s := by simp
        rw [e6]
        exact this.to (by simp)
theorem reverse_ev (m : List Int) (hl : m.length ≤ 1152921504606846976) : Ev (fun k => slices_Reverse_uint64 k m) m.reverse := by
  have := reverse_l0 m.length m [] [] (Nat.le_refl _) (by simpa using hl)
  simp only [List.nil_append, List.append_nil, List.length_nil] at this
  have w : w64 ((m.length : Int) - 1) = (m.length : Int) - 1 := w64_of (by omega) (by omega)
  simp only [slices_Reverse_uint64, w]
  exact this
theorem equal_l0 (a b : List Int) (hab : a.length = b.length) (hl : a.length ≤ 1152921504606846976) : ∀ s p t, a = p ++ s → b = p ++ t → Ev (fun k => slices_Equal_uint64.l0 a b k (p.length : Int)) (decide (s = t)) := by
  intro s
  induction s with
  | nil =>
    intro p t ha hb
    obtain rfl : t = [] := by rw [ha, hb] at hab; simpa using hab
    subst ha
    refine Ev.succ ?_
    simp only [slices_Equal_uint64.l0, lt_end, Bool.false_eq_true, if_false]
    exact Ev.ret.to (by simp)
  | cons x s ih =>
    intro p t ha hb
    cases t with
    | nil => rw [ha, hb] at hab; simp at hab
    | cons y t =>
      have e1 : idx a (p.length : Int) = some x := by rw [ha]; exact idx_at _ _ _
      have e2 : idx b (p.length : Int) = some y := by rw [hb]; exact idx_at _ _ _
      have hd : decide ((p.length : Int) < (a.length : Int)) = true := by rw [ha]; exact lt_at _ _ _
      have hw : w64 ((p.length : Int) + 1) = ((p ++ [x]).length : Int) := by rw [ha] at hl; simp at hl; rw [wS (by omega)]; simp
      refine Ev.succ ?_
      simp only [slices_Equal_uint64.l0, hd, if_true, e1, e2, Option.bind_some]
      by_cases hxy : x = y
      · subst hxy
        simp only [bne_self_eq_false, Bool.false_eq_true, if_false, hw]
        exact (ih (p ++ [x]) t (by simp [ha]) (by simp [hb])).to (by simp)
      · have hb : (x != y) = true := by simpa using hxy
        simp only [hb, if_true]
        exact Ev.ret.to (by simp [hxy])
theorem equal_ev (a b : List Int) (hl : b.length ≤ 1152921504606846976) : Ev (fun k => slices_Equal_uint64 k a b) (decide (a = b)) := by
  by_cases h : a.length = b.length
  · have hb : ((a.length : Int) != (b.length : Int)) = false := by simp [h]
    simp only [slices_Equal_uint64, hb, Bool.false_eq_true, if_false]
    exact equal_l0 a b h (by omega) a [] b rfl rfl
  · have hb : ((a.length : Int) != (b.length : Int)) = true := by simp; omega
    simp only [slices_Equal_uint64, hb, if_true]
    exact Ev.ret.to (by simp; intro e; subst e; exact h rfl)

theorem unlikeU_ev (a0 : List Int) (hl : a0.length ≤ 1152921504606846976) : Ev (fun k => tomb_unlike_uint64 k a0) (uq (fun x y : Int => x < y) a0) := by
  refine Ev.congr (fun k => ?_) (unlike_uint64 a0 hl)
  simp only [tomb_unlike_uint64]
  cases slices_Sort_uint64 k a0 with
  | none => rfl
  | some r => simp only [Option.bind_some]; cases slices_Compact_uint64 k r <;> rfl
theorem unlikeS_ev (a0 : List ByteArray) (hl : a0.length ≤ 1152921504606846976) : Ev (fun k => tomb_unlike_string k a0) (uq slt a0) := by
  refine Ev.congr (fun k => ?_) (unlike_string a0 hl)
  simp only [tomb_unlike_string]
  cases slices_Sort_string k a0 with
  | none => rfl
  | some r => simp only [Option.bind_some]; cases slices_Compact_string k r <;> rfl

/-! ### Fragments -/
def onSeg (b e : ByteArray) (t : Tomb) : Bool := decide (sle t.Begin b) && decide (sle e t.End)
def seqsOf (l : List Tomb) (b e : ByteArray) : List Int := (uq (fun x y : Int => x < y) ((l.filter (onSeg b e)).map (·.Seq))).reverse
def addF (out : List Fragment) (b e : ByteArray) (s : List Int) : List Fragment :=
  if s = [] then out else
  match out.getLast? with
  | some f => if f.End = b ∧ f.Seqs = s then out.dropLast ++ [⟨f.Begin, e, f.Seqs⟩] else out ++ [⟨b, e, s⟩]
  | none => out ++ [⟨b, e, s⟩]
def build (l : List Tomb) : ByteArray → List ByteArray → List Fragment → List Fragment
  | _, [], out => out
  | b, e :: r, out => build l e r (addF out b e (seqsOf l b e))
def endsOf (l : List Tomb) : List ByteArray := l.flatMap fun t => [t.Begin, t.End]
def fragsU (l : List Tomb) : List ByteArray → List Fragment
  | [] => []
  | b :: r => build l b r []
def frags (l : List Tomb) : List Fragment := fragsU l (uq slt (endsOf l))

theorem addF_len (out : List Fragment) (b e : ByteArray) (s : List Int) : (addF out b e s).length ≤ out.length + 1 := by
  unfold addF
  split
  · omega
  · split
    · split
      · simp
      · simp
    · simp

theorem frag_l2 (r1 : List Tomb) (b e : ByteArray) (h : r1.length < 28147497670912) : ∀ s p acc, r1 = p ++ s → acc.length ≤ p.length → EvC (fun J k => tomb_Fragments.l2 r1 b e J k acc (p.length : Int)) (acc ++ (s.filter (onSeg b e)).map (·.Seq)) := by
  intro s
  induction s with
  | nil =>
    intro p acc hl ha
    subst hl
    refine EvC.succ ?_
    simp only [tomb_Fragments.l2, lt_end, Bool.false_eq_true, if_false]
    simpa using EvC.ret
  | cons x s ih =>
    intro p acc hl ha
    have hm : (p ++ x :: s).length ≤ maxLen := by rw [maxLen_val, ← hl]; omega
    have hp : p.length < 28147497670912 := by rw [hl] at h; simp at h; omega
    subst hl
    by_cases hx : onSeg b e x = true
    · have hx' := hx
      simp only [onSeg, Bool.and_eq_true, ← sLe_dec] at hx'
      refine EvC.succ ?_
      simp only [tomb_Fragments.l2, lt_at, if_true, Jn, idx_at, Option.bind_some, step_at p s x hm, hx'.1, hx'.2, Bool.and_self, push_ok (xs := acc) (x := x.Seq) (Nat.lt_of_le_of_lt ha hp)]
      exact (ih (p ++ [x]) (acc ++ [x.Seq]) (by simp) (by simp; omega)).to (by simp [hx])
    · have hx' : ((sLt x.Begin b || sEq x.Begin b) && (sLt e x.End || sEq e x.End)) = false := by
        rw [sLe_dec, sLe_dec]; simpa [onSeg] using hx
      refine EvC.succ ?_
      simp only [tomb_Fragments.l2, lt_at, if_true, Jn, idx_at, Option.bind_some, step_at p s x hm, hx', Bool.false_eq_true, if_false]
      exact (ih (p ++ [x]) acc (by simp) (by simp; omega)).to (by simp [hx])

theorem frag_l1 (r1 : List Tomb) (us : List ByteArray) (h : r1.length < 1099511627776) (hu : us.length < 2199023255552) : ∀ s p b acc, us = p ++ b :: s → acc.length ≤ p.length →
    EvC (fun J k => tomb_Fragments.l1 r1 us J k acc ((p.length + 1 : Nat) : Int)) (build r1 b s acc) := by
  intro s
  induction s with
  | nil =>
    intro p b acc hl ha
    refine EvC.succ ?_
    have hd : decide (((p.length + 1 : Nat) : Int) < (us.length : Int)) = false := decide_eq_false (by rw [hl]; simp)
    simp only [tomb_Fragments.l1, hd, Bool.false_eq_true, if_false]
    exact EvC.ret
  | cons e s ih =>
    intro p b acc hl ha
    have hlen : us.length = p.length + 2 + s.length := by rw [hl]; simp; omega
    have hd : decide (((p.length + 1 : Nat) : Int) < (us.length : Int)) = true := decide_eq_true (by omega)
    have i1 : idx us ((p.length : Nat) : Int) = some b := by rw [hl]; exact idx_at _ _ _
    have i2 : idx us ((p.length + 1 : Nat) : Int) = some e := idx_as (p := p ++ [b]) (s := s) (by simp [hl]) (by simp)
    have w1 : w64 (((p.length + 1 : Nat) : Int) - 1) = (p.length : Int) := by rw [wP (by omega) (by omega)]; rfl
    have w2 : w64 (((p.length + 1 : Nat) : Int) + 1) = ((p.length + 1 + 1 : Nat) : Int) := wS (by omega)
    obtain ⟨n2, h2⟩ := frag_l2 r1 b e (by omega) r1 [] [] rfl (Nat.le_refl _)
    dsimp only at h2
    simp only [List.nil_append, List.length_nil, Int.natCast_zero] at h2
    obtain ⟨vals, hv⟩ : ∃ vals, vals = (r1.filter (onSeg b e)).map (·.Seq) := ⟨_, rfl⟩
    have hvl : vals.length ≤ r1.length := by rw [hv, List.length_map]; exact List.length_filter_le _ _
    rw [← hv] at h2
    have hsq : seqsOf r1 b e = (uq (fun x y : Int => x < y) vals).reverse := by unfold seqsOf; rw [hv]
    have hih := ih (p ++ [b]) e (addF acc b e (seqsOf r1 b e)) (by simp [hl]) (by have := addF_len acc b e (seqsOf r1 b e); simp; omega)
    simp only [List.length_append, List.length_singleton] at hih
    obtain ⟨n3, h3⟩ := hih
    dsimp only at h3
    by_cases hnil : vals = []
    · have ha2 : addF acc b e (seqsOf r1 b e) = acc := by unfold addF; rw [if_pos (by rw [hsq, hnil]; rfl)]
      rw [ha2] at h3
      refine ⟨max n2 n3 + 1, fun k hk J => ?_⟩
      obtain ⟨k, rfl⟩ : ∃ j, k = j + 1 := ⟨k - 1, by omega⟩
      simp only [tomb_Fragments.l1, hd, if_true, Jn, i1, i2, w1, w2, Option.bind_some, h2 k (by omega), hnil, List.length_nil, Int.natCast_zero, beq_self_eq_true, build, ha2]
      exact h3 k (by omega) J
    · have hne : ((vals.length : Int) == 0) = false := by simp; exact hnil
      obtain ⟨n4, h4⟩ := unlikeU_ev vals (by omega)
      obtain ⟨n5, h5⟩ := reverse_ev (uq (fun x y : Int => x < y) vals) (Nat.le_trans (uq_len _) (by omega))
      dsimp only at h4 h5
      rw [← hsq] at h5
      have hs0 : seqsOf r1 b e ≠ [] := by
        rw [hsq]
        intro h0
        obtain ⟨x, hx⟩ := List.exists_mem_of_ne_nil _ hnil
        have := (mem_uq so_int).2 hx
        rw [List.reverse_eq_nil_iff.1 h0] at this
        simp at this
      obtain ⟨sq, hsq'⟩ : ∃ sq, sq = seqsOf r1 b e := ⟨_, rfl⟩
      rw [← hsq'] at h5 hs0 h3
      rcases nil_or_snoc acc with rfl | ⟨acc, f, rfl⟩
      · have ha2 : addF [] b e sq = [⟨b, e, sq⟩] := by unfold addF; rw [if_neg hs0]; rfl
        rw [ha2] at h3
        refine ⟨max n2 (max n3 (max n4 n5)) + 1, fun k hk J => ?_⟩
        obtain ⟨k, rfl⟩ : ∃ j, k = j + 1 := ⟨k - 1, by omega⟩
        have hz : decide ((0 : Int) < ((([] : List Fragment).length : Nat) : Int)) = false := by decide
        simp only [tomb_Fragments.l1, hd, if_true, Jn, i1, i2, w1, w2, Option.bind_some, h2 k (by omega), hne, Bool.false_eq_true, if_false, h4 k (by omega), h5 k (by omega), hz, push_ok (xs := ([] : List Fragment)) (x := (⟨b, e, sq⟩ : Fragment)) (N := 4021071095713) (by simp), List.nil_append, build, ← hsq', ha2]
        exact h3 k (by omega) J
      · simp only [List.length_append, List.length_singleton] at ha
        have hz : decide ((0 : Int) < (((acc ++ [f]).length : Nat) : Int)) = true := decide_eq_true (by simp)
        have wl : w64 (((acc ++ [f]).length : Int) - 1) = (acc.length : Int) := by
          simp only [List.length_append, List.length_singleton]; rw [wP (by omega) (by omega)]; rfl
        have il : idx (acc ++ [f]) (acc.length : Int) = some f := idx_at acc f []
        obtain ⟨n7, h7⟩ := equal_ev f.Seqs sq (by rw [hsq', hsq, List.length_reverse]; exact Nat.le_trans (uq_len _) (by omega))
        dsimp only at h7
        by_cases he : f.End = b
        · by_cases hq : f.Seqs = sq
          · have ha2 : addF (acc ++ [f]) b e sq = acc ++ [⟨f.Begin, e, f.Seqs⟩] := by unfold addF; rw [if_neg hs0]; simp [he, hq]
            rw [ha2] at h3
            refine ⟨max n2 (max n3 (max n4 (max n5 n7))) + 1, fun k hk J => ?_⟩
            obtain ⟨k, rfl⟩ : ∃ j, k = j + 1 := ⟨k - 1, by omega⟩
            simp only [tomb_Fragments.l1, hd, if_true, Jn, i1, i2, w1, w2, Option.bind_some, h2 k (by omega), hne, Bool.false_eq_true, if_false, h4 k (by omega), h5 k (by omega), hz, wl, il, sEq_iff.2 he, h7 k (by omega), decide_eq_true hq, upd_at, build, ← hsq', ha2]
            exact h3 k (by omega) J
          · have ha2 : addF (acc ++ [f]) b e sq = acc ++ [f] ++ [⟨b, e, sq⟩] := by unfold addF; rw [if_neg hs0]; simp [hq]
            rw [ha2] at h3
            refine ⟨max n2 (max n3 (max n4 (max n5 n7))) + 1, fun k hk J => ?_⟩
            obtain ⟨k, rfl⟩ : ∃ j, k = j + 1 := ⟨k - 1, by omega⟩
            simp only [tomb_Fragments.l1, hd, if_true, Jn, i1, i2, w1, w2, Option.bind_some, h2 k (by omega), hne, Bool.false_eq_true, if_false, h4 k (by omega), h5 k (by omega), hz, wl, il, sEq_iff.2 he, h7 k (by omega), decide_eq_false hq, push_ok (xs := acc ++ [f]) (x := (⟨b, e, sq⟩ : Fragment)) (N := 4021071095713) (by simp; omega), build, ← hsq', ha2]
            exact h3 k (by omega) J
        · have ha2 : addF (acc ++ [f]) b e sq = acc ++ [f] ++ [⟨b, e, sq⟩] := by unfold addF; rw [if_neg hs0]; simp [he]
          rw [ha2] at h3
          refine ⟨max n2 (max n3 (max n4 n5)) + 1, fun k hk J => ?_⟩
          obtain ⟨k, rfl⟩ : ∃ j, k = j + 1 := ⟨k - 1, by omega⟩
          simp only [tomb_Fragments.l1, hd, if_true, Jn, i1, i2, w1, w2, Option.bind_some, h2 k (by omega), hne, Bool.false_eq_true, if_false, h4 k (by omega), h5 k (by omega), hz, wl, il, sEq_false.2 he, push_ok (xs := acc ++ [f]) (x := (⟨b, e, sq⟩ : Fragment)) (N := 4021071095713) (by simp; omega), build, ← hsq', ha2]
          exact h3 k (by omega) J

theorem frag_l0 (r1 : List Tomb) (h : r1.length < 1099511627776) : ∀ s p acc, r1 = p ++ s → acc.length = 2 * p.length → Ev (fun k => tomb_Fragments.l0 r1 k acc (p.length : Int)) (fragsU r1 (uq slt (acc ++ endsOf s))) := by
  intro s
  induction s with
  | nil =>
    intro p acc hl ha
    have hpl : r1.length = p.length := by rw [hl]; simp
    refine Ev.succ ?_
    have hd : decide ((p.length : Int) < (r1.length : Int)) = false := decide_eq_false (by omega)
    simp only [tomb_Fragments.l0, hd, Bool.false_eq_true, if_false]
    have hz : endsOf [] = [] := rfl
    rw [hz, List.append_nil]
    refine Ev.bind (unlikeS_ev acc (by omega)) ?_
    have hul : (uq slt acc).length < 2199023255552 := Nat.lt_of_le_of_lt (uq_len _) (by omega)
    obtain ⟨us, hus⟩ : ∃ us, us = uq slt acc := ⟨_, rfl⟩
    rw [← hus] at hul ⊢
    simp only [Jn]
    cases us with
    | nil =>
      refine Ev.succ ?_
      have hd : decide ((1 : Int) < ((([] : List ByteArray).length : Nat) : Int)) = false := by decide
      simp only [tomb_Fragments.l1, hd, Bool.false_eq_true, if_false]
      exact Ev.ret
    | cons b r =>
      have := frag_l1 r1 (b :: r) h hul r [] b [] rfl (Nat.le_refl _)
      exact this.ev (J := fun _ l => some l) Ev.ret
  | cons x s ih =>
    intro p acc hl ha
    have hpl : r1.length = p.length + 1 + s.length := by rw [hl]; simp; omega
    have hm : (p ++ x :: s).length ≤ maxLen := by rw [maxLen_val, ← hl]; omega
    refine Ev.succ ?_
    have e1 : idx r1 (p.length : Int) = some x := by rw [hl]; exact idx_at _ _ _
    have hd : decide ((p.length : Int) < (r1.length : Int)) = true := decide_eq_true (by omega)
    simp only [tomb_Fragments.l0, hd, if_true, e1, Option.bind_some, pushN_ok (xs := acc) (zs := [x.Begin, x.End]) (N := 14073748835379) (by simp; omega), step_at p s x hm]
    exact (ih (p ++ [x]) (acc ++ [x.Begin, x.End]) (by simp [hl]) (by simp; omega)).to (by simp [endsOf])

theorem frags_ev (l : List Tomb) (h : l.length < 1099511627776) : Ev (fun k => tomb_Fragments k l) (frags (l.filter okT)) := by
  simp only [tomb_Fragments]
  refine Ev.bind (valid_ev l (by omega)) ?_
  have := frag_l0 (l.filter okT) (Nat.lt_of_le_of_lt (List.length_filter_le _ _) h) (l.filter okT) [] [] rfl rfl
  simpa [frags] using this
end Go.Proofs.Ytmbhgfigffahbaa.Mo
