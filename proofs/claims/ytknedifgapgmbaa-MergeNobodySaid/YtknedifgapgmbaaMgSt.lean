import Derived.Test.YtknedifgapgmbaaMgTw
import Derived.Test.YtknedifgapgmbaaSySt
set_option linter.unusedVariables false
set_option linter.unusedSectionVars false
set_option linter.unusedSectionVars false
set_option linter.unusedSimpArgs false
set_option maxRecDepth 100000
namespace Go.Proofs.Ytknedifgapgmbaa.Mo
open Go Go.Proofs.Ytknedifgapgmbaa.Sy
abbrev ltcEntry (c : Entry → Entry → Int) : Entry → Entry → Prop := fun x y => c x y < 0
section
variable {cmp : Entry → Entry → Option Int} {c : Entry → Entry → Int}
theorem ins_l1_Entry (hc : ∀ x y, cmp x y = some (c x y)) (hw : Wo (ltcEntry c)) : ∀ (n : Nat) (q p s : List Entry) (x : Entry), q.length = n → Srt (ltcEntry c) q → (p ++ q ++ x :: s).length ≤ 1152921504606846976 →
    ∃ q1 q2, q = q1 ++ q2 ∧ (∀ y ∈ q1, ¬ ltcEntry c x y) ∧ (∀ y ∈ q2, ltcEntry c x y) ∧ EvC (fun J k => slices_insertionSortCmpFunc_Entry.l1 (p.length : Int) cmp J k (p ++ q ++ x :: s) ((p ++ q).length : Int)) (p ++ q1 ++ x :: q2 ++ s) := by
  intro n
  induction n with
  | zero =>
    intro q p s x hq hs hb
    obtain rfl : q = [] := List.eq_nil_of_length_eq_zero hq
    refine ⟨[], [], rfl, by simp, by simp, EvC.succ ?_⟩
    have h1 : decide ((p.length : Int) < ((p ++ ([] : List Entry)).length : Int)) = false := by simp
    simp only [slices_insertionSortCmpFunc_Entry.l1, Jn, h1, Bool.false_eq_true, if_false]
    simpa using EvC.ret
  | succ n ih =>
    intro q p s x hq hs hb
    rcases nil_or_snoc q with rfl | ⟨q, y, rfl⟩
    · simp at hq
    have hb' := hb
    simp only [List.length_append, List.length_cons, List.length_nil] at hb' hq
    have h1 : decide ((p.length : Int) < ((p ++ (q ++ [y])).length : Int)) = true := by simp only [List.length_append, List.length_cons, List.length_nil]; exact decide_eq_true (by omega)
    have hi : w64 (((p ++ (q ++ [y])).length : Int) - 1) = ((p ++ q).length : Int) := by
      simp only [List.length_append, List.length_cons, List.length_nil]
      rw [w64_of (by omega) (by omega)]
      omega
    have hx : idx (p ++ (q ++ [y]) ++ x :: s) ((p ++ (q ++ [y])).length : Int) = some x := idx_at _ _ _
    have hy : idx (p ++ (q ++ [y]) ++ x :: s) ((p ++ q).length : Int) = some y := idx_as (p := p ++ q) (s := x :: s) (by simp) rfl
    rw [Srt.app] at hs
    by_cases hlt : c x y < 0
    · have hu : upd (p ++ (q ++ [y]) ++ x :: s) ((p ++ (q ++ [y])).length : Int) y = some (p ++ (q ++ [y]) ++ y :: s) := upd_at _ _ _ _
      have hy2 : idx (p ++ (q ++ [y]) ++ y :: s) ((p ++ q).length : Int) = some y := idx_as (p := p ++ q) (s := y :: s) (by simp) rfl
      have hu2 : upd (p ++ (q ++ [y]) ++ y :: s) ((p ++ q).length : Int) x = some (p ++ q ++ x :: (y :: s)) := upd_as (p := p ++ q) (x := y) (s := y :: s) x (by simp) rfl
      obtain ⟨q1, q2, rfl, g1, g2, g3⟩ := ih q p (y :: s) x (by omega) hs.1 (by simp only [List.length_append, List.length_cons]; simp only [List.length_append, List.length_cons, List.length_nil] at hb; omega)
      refine ⟨q1, q2 ++ [y], by simp, g1, fun z hz => ?_, EvC.succ ?_⟩
      · rcases List.mem_append.1 hz with h | h
        · exact g2 z h
        · simp at h; subst h; exact hlt
      · simp only [slices_insertionSortCmpFunc_Entry.l1, Jn, h1, if_true, hi, hx, hy, hc, Option.bind_some, decide_eq_true hlt, hu, hy2, hu2]
        exact g3.to (by simp)
    · refine ⟨q ++ [y], [], by simp, fun z hz => ?_, by simp, EvC.succ ?_⟩
      · rcases List.mem_append.1 hz with h | h
        · have := hs.2.2 z h y (by simp)
          exact hw.neg x y z hlt this
        · simp at h; subst h; exact hlt
      · simp only [slices_insertionSortCmpFunc_Entry.l1, Jn, h1, if_true, hi, hx, hy, hc, Option.bind_some, decide_eq_false hlt, Bool.false_eq_true, if_false]
        exact EvC.ret.to (by simp)
theorem ins_l0_Entry (hc : ∀ x y, cmp x y = some (c x y)) (hw : Wo (ltcEntry c)) (a b : Nat) : ∀ (m q p s : List Entry), Srt (ltcEntry c) q → p.length = a → (p ++ q ++ m).length = b → (p ++ q ++ m ++ s).length ≤ 1152921504606846976 →
    ∃ m', Srt (ltcEntry c) m' ∧ Sst (ltcEntry c) (q ++ m) m' ∧ Ev (fun k => slices_insertionSortCmpFunc_Entry.l0 (a : Int) (b : Int) cmp k (p ++ q ++ m ++ s) ((p ++ q).length : Int)) (p ++ m' ++ s) := by
  intro m
  induction m with
  | nil =>
    intro q p s hs ha hb hl
    refine ⟨q, hs, by simpa using Sst.refl q, Ev.succ ?_⟩
    subst hb
    have h1 : decide (((p ++ q).length : Int) < ((p ++ q ++ ([] : List Entry)).length : Int)) = false := by simp
    simp only [slices_insertionSortCmpFunc_Entry.l0, h1, Bool.false_eq_true, if_false]
    simpa using Ev.ret
  | cons x m ih =>
    intro q p s hs ha hb hl
    have hl' := hl
    simp only [List.length_append, List.length_cons] at hl' hb
    obtain ⟨q1, q2, rfl, g1, g2, g3⟩ := ins_l1_Entry hc hw q.length q p (m ++ s) x rfl hs (by simp only [List.length_append, List.length_cons]; omega)
    obtain ⟨m', k1, k2, k3⟩ := ih (q1 ++ x :: q2) p s (ins_srt hw hs g1 g2) ha (by simp only [List.length_append, List.length_cons] at hb ⊢; omega) (by simp only [List.length_append, List.length_cons] at hl ⊢; omega)
    refine ⟨m', k1, Sst.trans ?_ k2, Ev.succ ?_⟩
    · have := (ins_sst (q1 := q1) hw g2).app (Sst.refl (lt := ltcEntry c) m)
      simpa using this
    · have h1 : decide (((p ++ (q1 ++ q2)).length : Int) < (b : Int)) = true := decide_eq_true (by simp only [List.length_append] at hb ⊢; omega)
      have h2 : w64 (((p ++ (q1 ++ q2)).length : Int) + 1) = ((p ++ (q1 ++ x :: q2)).length : Int) := by
        simp only [List.length_append, List.length_cons] at hl' ⊢
        rw [w64_of (by omega) (by omega)]
        omega
      have e1 : p ++ (q1 ++ q2) ++ x :: m ++ s = p ++ (q1 ++ q2) ++ x :: (m ++ s) := by simp
      subst ha
      simp only [slices_insertionSortCmpFunc_Entry.l0, h1, if_true, Jn, e1]
      refine g3.ev (J := fun k l => slices_insertionSortCmpFunc_Entry.l0 (p.length : Int) (b : Int) cmp k l (w64 (((p ++ (q1 ++ q2)).length : Int) + 1))) ?_
      simp only [h2]
      have e2 : p ++ q1 ++ x :: q2 ++ (m ++ s) = p ++ (q1 ++ x :: q2) ++ m ++ s := by simp
      rw [e2]
      exact k3
theorem ins_Entry (hc : ∀ x y, cmp x y = some (c x y)) (hw : Wo (ltcEntry c)) {a b : Nat} (m p s : List Entry) (ha : p.length = a) (hb : (p ++ m).length = b) (hl : (p ++ m ++ s).length ≤ 1152921504606846976) :
    ∃ m', Srt (ltcEntry c) m' ∧ Sst (ltcEntry c) m m' ∧ Ev (fun k => slices_insertionSortCmpFunc_Entry k (p ++ m ++ s) (a : Int) (b : Int) cmp) (p ++ m' ++ s) := by
  have ha9 : w64 ((a : Int) + 1) = ((a + 1 : Nat) : Int) := by simp only [List.length_append] at hl; rw [w64_of (by omega) (by omega)]; omega
  cases m with
  | nil =>
    refine ⟨[], Srt.nil, Sst.refl _, ?_⟩
    have h1 : decide (((a + 1 : Nat) : Int) < (b : Int)) = false := decide_eq_false (by simp at hb; omega)
    simp only [slices_insertionSortCmpFunc_Entry, ha9]
    refine Ev.succ ?_
    simp only [slices_insertionSortCmpFunc_Entry.l0, h1, Bool.false_eq_true, if_false]
    exact Ev.ret
  | cons x m =>
    obtain ⟨m', k1, k2, k3⟩ := ins_l0_Entry hc hw a b m [x] p s (Srt.one x) ha (by simpa using hb) (by simpa using hl)
    refine ⟨m', k1, by simpa using k2, ?_⟩
    simp only [slices_insertionSortCmpFunc_Entry, ha9]
    have e : ((p ++ [x]).length : Int) = ((a + 1 : Nat) : Int) := by simp; omega
    rw [e] at k3
    simpa using k3
theorem swr_l0_Entry (a b : Nat) : ∀ (X2 Y2 X1 Y1 p q s : List Entry), X1.length = Y1.length → X2.length = Y2.length → p.length = a → (p ++ Y1 ++ X2 ++ q).length = b → (p ++ Y1 ++ X2 ++ q ++ X1 ++ Y2 ++ s).length ≤ 1152921504606846976 →
    Ev (fun k => slices_swapRangeCmpFunc_Entry.l0 (a : Int) (b : Int) ((X1 ++ X2).length : Int) k (p ++ Y1 ++ X2 ++ q ++ X1 ++ Y2 ++ s) (X1.length : Int)) (p ++ (Y1 ++ Y2) ++ q ++ (X1 ++ X2) ++ s) := by
  intro X2
  induction X2 with
  | nil =>
    intro Y2 X1 Y1 p q s h1 h2 ha hb hl
    obtain rfl : Y2 = [] := List.eq_nil_of_length_eq_zero h2.symm
    refine Ev.succ ?_
    have h1 : decide ((X1.length : Int) < ((X1 ++ ([] : List Entry)).length : Int)) = false := by simp
    simp only [slices_swapRangeCmpFunc_Entry.l0, h1, Bool.false_eq_true, if_false]
    simpa using Ev.ret
  | cons x X2 ih =>
    intro Y2 X1 Y1 p q s h1 h2 ha hb hl
    cases Y2 with
    | nil => simp at h2
    | cons y Y2 =>
      have hl' := hl
      have hb' := hb
      simp only [List.length_append, List.length_cons] at hl' hb' h2
      have g1 : decide ((X1.length : Int) < ((X1 ++ x :: X2).length : Int)) = true := decide_eq_true (by simp only [List.length_append, List.length_cons]; omega)
      have i1 : w64 ((b : Int) + (X1.length : Int)) = ((p ++ Y1 ++ x :: X2 ++ q ++ X1).length : Int) := by
        simp only [List.length_append, List.length_cons]
        rw [w64_of (by omega) (by omega)]
        omega
      have i2 : w64 ((a : Int) + (X1.length : Int)) = ((p ++ Y1).length : Int) := by
        simp only [List.length_append, List.length_cons]
        rw [w64_of (by omega) (by omega)]
        omega
      have i3 : w64 ((X1.length : Int) + 1) = ((X1 ++ [x]).length : Int) := by
        simp only [List.length_append, List.length_cons, List.length_nil]
        rw [w64_of (by omega) (by omega)]
        omega
      have e1 : idx (p ++ Y1 ++ x :: X2 ++ q ++ X1 ++ y :: Y2 ++ s) ((p ++ Y1 ++ x :: X2 ++ q ++ X1).length : Int) = some y := idx_as (p := p ++ Y1 ++ x :: X2 ++ q ++ X1) (s := Y2 ++ s) (by simp) rfl
      have e2 : idx (p ++ Y1 ++ x :: X2 ++ q ++ X1 ++ y :: Y2 ++ s) ((p ++ Y1).length : Int) = some x := idx_as (p := p ++ Y1) (s := X2 ++ q ++ X1 ++ y :: Y2 ++ s) (by simp) rfl
      have e3 : upd (p ++ Y1 ++ x :: X2 ++ q ++ X1 ++ y :: Y2 ++ s) ((p ++ Y1).length : Int) y = some (p ++ Y1 ++ y :: (X2 ++ q ++ X1 ++ y :: Y2 ++ s)) := upd_as (p := p ++ Y1) (x := x) (s := X2 ++ q ++ X1 ++ y :: Y2 ++ s) y (by simp) rfl
      have e4 : idx (p ++ Y1 ++ y :: (X2 ++ q ++ X1 ++ y :: Y2 ++ s)) ((p ++ Y1 ++ x :: X2 ++ q ++ X1).length : Int) = some y := idx_as (p := p ++ Y1 ++ y :: X2 ++ q ++ X1) (s := Y2 ++ s) (by simp) (by simp)
      have e5 : upd (p ++ Y1 ++ y :: (X2 ++ q ++ X1 ++ y :: Y2 ++ s)) ((p ++ Y1 ++ x :: X2 ++ q ++ X1).length : Int) x = some (p ++ Y1 ++ y :: X2 ++ q ++ X1 ++ x :: (Y2 ++ s)) := upd_as (p := p ++ Y1 ++ y :: X2 ++ q ++ X1) (x := y) (s := Y2 ++ s) x (by simp) (by simp)
      refine Ev.succ ?_
      simp only [slices_swapRangeCmpFunc_Entry.l0, g1, if_true, i1, i2, i3, e1, e2, e3, e4, e5, Option.bind_some]
      have := ih Y2 (X1 ++ [x]) (Y1 ++ [y]) p q s (by simp; omega) (by omega) ha (by simp at hb' ⊢; omega) (by simp at hl' ⊢; omega)
      simpa using this
theorem swr_Entry {a b n : Nat} (X Y p q s : List Entry) (h : X.length = Y.length) (hn : X.length = n) (ha : p.length = a) (hb : (p ++ X ++ q).length = b) (hl : (p ++ X ++ q ++ Y ++ s).length ≤ 1152921504606846976) :
    Ev (fun k => slices_swapRangeCmpFunc_Entry k (p ++ X ++ q ++ Y ++ s) (a : Int) (b : Int) (n : Int) cmp) (p ++ Y ++ q ++ X ++ s) := by
  have := swr_l0_Entry a b X Y [] [] p q s rfl h ha (by simpa using hb) (by simpa using hl)
  subst hn
  simpa [slices_swapRangeCmpFunc_Entry] using this
theorem rot_l0_Entry : ∀ (n : Nat) (U V p s : List Entry) (m i j : Nat), U.length + V.length ≤ n → U.length = i → V.length = j → 0 < i → 0 < j → (p ++ U).length = m → (p ++ U ++ V ++ s).length ≤ 1152921504606846976 →
    Ev (fun k => slices_rotateCmpFunc_Entry.l0 (m : Int) cmp k (p ++ U ++ V ++ s) (i : Int) (j : Int)) (p ++ V ++ U ++ s) := by
  intro n
  induction n with
  | zero => intro U V p s m i j hn hi hj i0 j0 hm hl; omega
  | succ n ih =>
    intro U V p s m i j hn hi hj i0 j0 hm hl
    have hl' := hl
    simp only [List.length_append] at hl' hm
    have w1 : w64 ((m : Int) - (i : Int)) = ((m - i : Nat) : Int) := by rw [w64_of (by omega) (by omega)]; omega
    have w2 : w64 ((m : Int) + (j : Int)) = ((m + j : Nat) : Int) := by rw [w64_of (by omega) (by omega)]; omega
    refine Ev.succ ?_
    by_cases hij : i = j
    · subst hij
      have c1 : ((i : Int) != (i : Int)) = false := by simp
      simp only [slices_rotateCmpFunc_Entry.l0, c1, Bool.false_eq_true, if_false, w1]
      have := swr_Entry (cmp := cmp) (a := m - i) (b := m) (n := i) U V p [] s (by omega) hi (by omega) (by simp; omega) (by simpa using hl)
      simp only [List.append_nil] at this
      exact this.bind Ev.ret
    · have c1 : ((i : Int) != (j : Int)) = true := by simp; omega
      by_cases hlt : j < i
      · have c2 : decide ((j : Int) < (i : Int)) = true := decide_eq_true (by omega)
        have w3 : w64 ((i : Int) - (j : Int)) = ((i - j : Nat) : Int) := by rw [w64_of (by omega) (by omega)]; omega
        simp only [slices_rotateCmpFunc_Entry.l0, c1, c2, if_true, w1, w3]
        obtain ⟨U1, U2, rfl, hU⟩ : ∃ U1 U2, U = U1 ++ U2 ∧ U1.length = j := ⟨U.take j, U.drop j, (List.take_append_drop _ _).symm, by simp; omega⟩
        simp only [List.length_append] at hi hn hm hl'
        have := swr_Entry (cmp := cmp) (a := m - i) (b := m) (n := j) U1 V p U2 s (by omega) hU (by omega) (by simp; omega) (by simpa using hl)
        have e : p ++ (U1 ++ U2) ++ V ++ s = p ++ U1 ++ U2 ++ V ++ s := by simp
        rw [e]
        refine this.bind ?_
        have h2 := ih U2 U1 (p ++ V) s m (i - j) j (by omega) (by omega) hU (by omega) j0 (by simp; omega) (by simp; omega)
        exact h2.to (by simp)
      · have c2 : decide ((j : Int) < (i : Int)) = false := decide_eq_false (by omega)
        have w3 : w64 ((j : Int) - (i : Int)) = ((j - i : Nat) : Int) := by rw [w64_of (by omega) (by omega)]; omega
        have w4 : w64 (((m + j : Nat) : Int) - (i : Int)) = ((m + j - i : Nat) : Int) := by rw [w64_of (by omega) (by omega)]; omega
        simp only [slices_rotateCmpFunc_Entry.l0, c1, c2, if_true, Bool.false_eq_true, if_false, w1, w2, w3, w4]
        obtain ⟨V1, V2, rfl, hV⟩ : ∃ V1 V2, V = V1 ++ V2 ∧ V2.length = i := ⟨V.take (j - i), V.drop (j - i), (List.take_append_drop _ _).symm, by simp; omega⟩
        simp only [List.length_append] at hj hn hm hl'
        have := swr_Entry (cmp := cmp) (a := m - i) (b := m + j - i) (n := i) U V2 p V1 s (by omega) hi (by omega) (by simp; omega) (by simpa using hl)
        have e : p ++ U ++ (V1 ++ V2) ++ s = p ++ U ++ V1 ++ V2 ++ s := by simp
        rw [e]
        refine this.bind ?_
        have h2 := ih V2 V1 p (U ++ s) m i (j - i) (by omega) hV (by omega) i0 (by omega) (by simp; omega) (by simp; omega)
        have e2 : p ++ V2 ++ V1 ++ U ++ s = p ++ V2 ++ V1 ++ (U ++ s) := by simp
        rw [e2]
        exact h2.to (by simp)
theorem rot_Entry {a m b : Nat} (U V p s : List Entry) (ha : p.length = a) (hm : (p ++ U).length = m) (hb : (p ++ U ++ V).length = b) (hU : 0 < U.length) (hV : 0 < V.length) (hl : (p ++ U ++ V ++ s).length ≤ 1152921504606846976) :
    Ev (fun k => slices_rotateCmpFunc_Entry k (p ++ U ++ V ++ s) (a : Int) (m : Int) (b : Int) cmp) (p ++ V ++ U ++ s) := by
  have hl' := hl
  simp only [List.length_append] at hl' hm hb
  have w1 : w64 ((m : Int) - (a : Int)) = ((m - a : Nat) : Int) := by rw [w64_of (by omega) (by omega)]; omega
  have w2 : w64 ((b : Int) - (m : Int)) = ((b - m : Nat) : Int) := by rw [w64_of (by omega) (by omega)]; omega
  simp only [slices_rotateCmpFunc_Entry, w1, w2]
  exact rot_l0_Entry _ U V p s m _ _ (Nat.le_refl _) (by omega) (by omega) (by omega) (by omega) (by simpa using hm) hl
theorem mvr_Entry : ∀ (V p s : List Entry) (x : Entry) (t : Nat), (p ++ V).length + 1 = t → (p ++ x :: V ++ s).length ≤ 1152921504606846976 →
    EvC (fun J k => slices_symMergeCmpFunc_Entry.l3 (t : Int) J k (p ++ x :: V ++ s) (p.length : Int)) (p ++ V ++ x :: s) := by
  intro V
  induction V with
  | nil =>
    intro p s x t ht hl
    simp only [List.length_append, List.length_cons, List.length_nil] at ht hl
    refine EvC.succ ?_
    have w : w64 ((t : Int) - 1) = ((p.length : Nat) : Int) := by rw [w64_of (by omega) (by omega)]; omega
    have h1 : decide ((p.length : Int) < (p.length : Int)) = false := by simp
    simp only [slices_symMergeCmpFunc_Entry.l3, w, h1, Bool.false_eq_true, if_false]
    exact EvC.ret.to (by simp)
  | cons y V ih =>
    intro p s x t ht hl
    have hl' := hl
    simp only [List.length_append, List.length_cons] at ht hl'
    have w : w64 ((t : Int) - 1) = ((t - 1 : Nat) : Int) := by rw [w64_of (by omega) (by omega)]; omega
    have w2 : w64 ((p.length : Int) + 1) = ((p ++ [y]).length : Int) := by simp only [List.length_append, List.length_cons, List.length_nil]; rw [w64_of (by omega) (by omega)]; omega
    have h1 : decide ((p.length : Int) < ((t - 1 : Nat) : Int)) = true := decide_eq_true (by omega)
    have e1 : idx (p ++ x :: y :: V ++ s) ((p ++ [y]).length : Int) = some y := idx_as (p := p ++ [x]) (s := V ++ s) (by simp) (by simp)
    have e2 : idx (p ++ x :: y :: V ++ s) (p.length : Int) = some x := idx_as (p := p) (s := y :: V ++ s) (by simp) rfl
    have e3 : upd (p ++ x :: y :: V ++ s) (p.length : Int) y = some (p ++ y :: (y :: V ++ s)) := upd_as (p := p) (x := x) (s := y :: V ++ s) y (by simp) rfl
    have e4 : idx (p ++ y :: (y :: V ++ s)) ((p ++ [y]).length : Int) = some y := idx_as (p := p ++ [y]) (s := V ++ s) (by simp) rfl
    have e5 : upd (p ++ y :: (y :: V ++ s)) ((p ++ [y]).length : Int) x = some (p ++ [y] ++ x :: (V ++ s)) := upd_as (p := p ++ [y]) (x := y) (s := V ++ s) x (by simp) rfl
    have := ih (p ++ [y]) s x t (by simp only [List.length_append, List.length_cons, List.length_nil]; omega) (by simp only [List.length_append, List.length_cons, List.length_nil]; omega)
    refine EvC.succ ?_
    simp only [slices_symMergeCmpFunc_Entry.l3, w, w2, h1, if_true, e1, e2, e3, e4, e5, Option.bind_some]
    have e6 : p ++ [y] ++ x :: (V ++ s) = p ++ [y] ++ x :: V ++ s := by simp
    rw [e6]
    exact this.to (by simp)
theorem mvl_Entry : ∀ (n : Nat) (U p s : List Entry) (y : Entry), U.length = n → (p ++ U ++ y :: s).length ≤ 1152921504606846976 →
    EvC (fun J k => slices_symMergeCmpFunc_Entry.l1 (p.length : Int) J k (p ++ U ++ y :: s) ((p ++ U).length : Int)) (p ++ y :: U ++ s) := by
  intro n
  induction n with
  | zero =>
    intro U p s y hU hl
    obtain rfl : U = [] := List.eq_nil_of_length_eq_zero hU
    refine EvC.succ ?_
    have h1 : decide ((p.length : Int) < ((p ++ ([] : List Entry)).length : Int)) = false := by simp
    simp only [slices_symMergeCmpFunc_Entry.l1, h1, Bool.false_eq_true, if_false]
    exact EvC.ret.to (by simp)
  | succ n ih =>
    intro U p s y hU hl
    rcases nil_or_snoc U with rfl | ⟨U, x, rfl⟩
    · simp at hU
    have hl' := hl
    simp only [List.length_append, List.length_cons, List.length_nil] at hU hl'
    have w : w64 (((p ++ (U ++ [x])).length : Int) - 1) = ((p ++ U).length : Int) := by simp only [List.length_append, List.length_cons, List.length_nil]; rw [w64_of (by omega) (by omega)]; omega
    have h1 : decide ((p.length : Int) < ((p ++ (U ++ [x])).length : Int)) = true := decide_eq_true (by simp only [List.length_append, List.length_cons, List.length_nil]; omega)
    have e1 : idx (p ++ (U ++ [x]) ++ y :: s) ((p ++ U).length : Int) = some x := idx_as (p := p ++ U) (s := y :: s) (by simp) rfl
    have e2 : idx (p ++ (U ++ [x]) ++ y :: s) ((p ++ (U ++ [x])).length : Int) = some y := idx_at _ _ _
    have e3 : upd (p ++ (U ++ [x]) ++ y :: s) ((p ++ (U ++ [x])).length : Int) x = some (p ++ (U ++ [x]) ++ x :: s) := upd_at _ _ _ _
    have e4 : idx (p ++ (U ++ [x]) ++ x :: s) ((p ++ U).length : Int) = some x := idx_as (p := p ++ U) (s := x :: s) (by simp) rfl
    have e5 : upd (p ++ (U ++ [x]) ++ x :: s) ((p ++ U).length : Int) y = some (p ++ U ++ y :: (x :: s)) := upd_as (p := p ++ U) (x := x) (s := x :: s) y (by simp) rfl
    have := ih U p (x :: s) y (by omega) (by simp only [List.length_append, List.length_cons]; omega)
    refine EvC.succ ?_
    simp only [slices_symMergeCmpFunc_Entry.l1, w, h1, if_true, e1, e2, e3, e4, e5, Option.bind_some]
    exact this.to (by simp)
set_option maxHeartbeats 4000000 in
theorem sym_Entry (hc : ∀ x y, cmp x y = some (c x y)) (hw : Wo (ltcEntry c)) : ∀ (n : Nat) (U V p s : List Entry) (a m b : Nat), U.length + V.length ≤ n → 0 < U.length → 0 < V.length → Srt (ltcEntry c) U → Srt (ltcEntry c) V →
    p.length = a → (p ++ U).length = m → (p ++ U ++ V).length = b → (p ++ U ++ V ++ s).length ≤ 1152921504606846976 →
    ∃ M, Srt (ltcEntry c) M ∧ Sst (ltcEntry c) (U ++ V) M ∧ Ev (fun k => slices_symMergeCmpFunc_Entry k (p ++ U ++ V ++ s) (a : Int) (m : Int) (b : Int) cmp) (p ++ M ++ s) := by
  intro n
  induction n with
  | zero => intro U V p s a m b hn hU hV; omega
  | succ n ih =>
    intro U V p s a m b hn hU hV sU sV ha hm hb hl
    have hl' := hl
    simp only [List.length_append] at hl' hm hb
    have wma : w64 ((m : Int) - (a : Int)) = ((m - a : Nat) : Int) := by rw [w64_of (by omega) (by omega)]; omega
    have wbm : w64 ((b : Int) - (m : Int)) = ((b - m : Nat) : Int) := by rw [w64_of (by omega) (by omega)]; omega
    by_cases c1 : m - a = 1
    · -- one ahead
      obtain ⟨x, rfl⟩ : ∃ x, U = [x] := List.length_eq_one_iff.1 (by omega)
      have hx : idx (p ++ [x] ++ V ++ s) (a : Int) = some x := idx_as (p := p) (s := V ++ s) (by simp) (by omega)
      let P : Nat → Prop := fun h => c ((p ++ [x] ++ V ++ s).getD h x) x < 0
      letI : DecidablePred P := fun h => inferInstanceAs (Decidable (c ((p ++ [x] ++ V ++ s).getD h x) x < 0))
      obtain ⟨t, t1, t2, t3, t4, t5⟩ := bsearch P (fun J k i j => slices_symMergeCmpFunc_Entry.l4 (p ++ [x] ++ V ++ s) (a : Int) cmp J k i j) m b
        (by intro J k i; simp [slices_symMergeCmpFunc_Entry.l4])
        (by
          intro J k i j h1 h2 h3
          have e : decide ((i : Int) < (j : Int)) = true := decide_eq_true (by omega)
          have hq : (i + j) / 2 < (p ++ [x] ++ V ++ s).length := by simp only [List.length_append]; omega
          have w1 : w64 ((((i + j) / 2 : Nat) : Int) + 1) = (((i + j) / 2 + 1 : Nat) : Int) := by rw [w64_of (by omega) (by omega)]; omega
          simp only [slices_symMergeCmpFunc_Entry.l4, e, if_true, mid_eq (i := i) (j := j) (by omega), getD_idx2 x hq, hx, Option.bind_some, hc, w1, decide_eq_true_eq]
          rfl) _ m b (Nat.le_refl _) (Nat.le_refl _) (by omega) (Nat.le_refl _) (.inl rfl) (.inl rfl)
      obtain ⟨V1, V2, rfl, hV1⟩ : ∃ V1 V2, V = V1 ++ V2 ∧ V1.length = t - m := ⟨V.take (t - m), V.drop (t - m), (List.take_append_drop _ _).symm, by simp; omega⟩
      simp only [List.length_append, List.length_cons, List.length_nil] at hb hm hV
      rw [Srt.app] at sV
      have F1 : ∀ y ∈ V1, ltcEntry c y x := by
        intro y hy
        rcases nil_or_snoc V1 with rfl | ⟨V1, z, rfl⟩
        · simp at hy
        · simp only [List.length_append, List.length_cons, List.length_nil] at hV1
          have hz : c z x < 0 := by
            rcases t3 with e | e
            · omega
            · have := getD_as (l := p ++ [x] ++ (V1 ++ [z] ++ V2) ++ s) (p := p ++ [x] ++ V1) (s := V2 ++ s) (x := z) (d := x) (i := t - 1) (by simp) (by simp; omega)
              simp only [P] at e
              rw [this] at e
              exact e
          have sV1 := Srt.app.1 sV.1
          rcases List.mem_append.1 hy with h | h
          · exact hw.le_lt (sV1.2.2 y h z (by simp)) hz
          · simp at h; subst h; exact hz
      have F2 : ∀ z ∈ V2, ¬ ltcEntry c z x := by
        intro z hz
        cases V2 with
        | nil => simp at hz
        | cons z0 V2 =>
          have hz0 : ¬ c z0 x < 0 := by
            rcases t4 with e | e
            · simp only [List.length_cons] at hb; omega
            · have := getD_as (l := p ++ [x] ++ (V1 ++ z0 :: V2) ++ s) (p := p ++ [x] ++ V1) (s := V2 ++ s) (x := z0) (d := x) (i := t) (by simp) (by simp; omega)
              simp only [P] at e
              rw [this] at e
              exact e
          rcases List.mem_cons.1 hz with h | h
          · subst h; exact hz0
          · exact hw.neg z z0 x ((List.pairwise_cons.1 sV.2.1).1 z h) hz0
      refine ⟨V1 ++ x :: V2, ?_, ?_, Ev.succ ?_⟩
      · refine Srt.app.2 ⟨sV.1, List.pairwise_cons.2 ⟨F2, sV.2.1⟩, fun y hy z hz => ?_⟩
        rcases List.mem_cons.1 hz with h | h
        · subst h; exact hw.asymm _ _ (F1 y hy)
        · exact sV.2.2 y hy z h
      · have := (Sst.swap (lt := ltcEntry c) hw (u := [x]) (v := V1) (fun q hq y hy => by simp at hq; subst hq; exact F1 y hy)).app (Sst.refl V2)
        simpa using this
      · have e1 : ((((m - a : Nat) : Int)) == 1) = true := by simp; omega
        simp only [slices_symMergeCmpFunc_Entry, Jn, wma, e1, if_true]
        refine t5.ev (J := fun k i => slices_symMergeCmpFunc_Entry.l3 i (fun l => some l) k (p ++ [x] ++ (V1 ++ V2) ++ s) (a : Int)) ?_
        have h3 := mvr_Entry V1 p (V2 ++ s) x t (by simp; omega) (by simp at hl ⊢; omega)
        have h4 := h3.ev (J := fun k l => some l) Ev.ret
        subst ha
        simpa using h4
    by_cases c2 : b - m = 1
    · -- one behind
      obtain ⟨y, rfl⟩ : ∃ y, V = [y] := List.length_eq_one_iff.1 (by omega)
      have hy : idx (p ++ U ++ [y] ++ s) (m : Int) = some y := idx_as (p := p ++ U) (s := s) (by simp) (by simp; omega)
      let P : Nat → Prop := fun h => ¬ c y ((p ++ U ++ [y] ++ s).getD h y) < 0
      letI : DecidablePred P := fun h => inferInstanceAs (Decidable (¬ c y ((p ++ U ++ [y] ++ s).getD h y) < 0))
      obtain ⟨t, t1, t2, t3, t4, t5⟩ := bsearch P (fun J k i j => slices_symMergeCmpFunc_Entry.l2 (p ++ U ++ [y] ++ s) (m : Int) cmp J k i j) a m
        (by intro J k i; simp [slices_symMergeCmpFunc_Entry.l2])
        (by
          intro J k i j h1 h2 h3
          have e : decide ((i : Int) < (j : Int)) = true := decide_eq_true (by omega)
          have hq : (i + j) / 2 < (p ++ U ++ [y] ++ s).length := by simp only [List.length_append]; omega
          have w1 : w64 ((((i + j) / 2 : Nat) : Int) + 1) = (((i + j) / 2 + 1 : Nat) : Int) := by rw [w64_of (by omega) (by omega)]; omega
          simp only [slices_symMergeCmpFunc_Entry.l2, e, if_true, mid_eq (i := i) (j := j) (by omega), getD_idx2 y hq, hy, Option.bind_some, hc, w1, Bool.not_eq_true', decide_eq_false_iff_not]
          rfl) _ a m (Nat.le_refl _) (Nat.le_refl _) (by omega) (Nat.le_refl _) (.inl rfl) (.inl rfl)
      obtain ⟨U1, U2, rfl, hU1⟩ : ∃ U1 U2, U = U1 ++ U2 ∧ U1.length = t - a := ⟨U.take (t - a), U.drop (t - a), (List.take_append_drop _ _).symm, by simp; omega⟩
      simp only [List.length_append, List.length_cons, List.length_nil] at hb hm hU
      have sU' := Srt.app.1 sU
      have F1 : ∀ u ∈ U1, ¬ ltcEntry c y u := by
        intro u hu
        rcases nil_or_snoc U1 with rfl | ⟨U1, z, rfl⟩
        · simp at hu
        · simp only [List.length_append, List.length_cons, List.length_nil] at hU1
          have hz : ¬ c y z < 0 := by
            rcases t3 with e | e
            · omega
            · have := getD_as (l := p ++ (U1 ++ [z] ++ U2) ++ [y] ++ s) (p := p ++ U1) (s := U2 ++ [y] ++ s) (x := z) (d := y) (i := t - 1) (by simp) (by simp; omega)
              simp only [P] at e
              rw [this] at e
              exact e
          have sV1 := Srt.app.1 sU'.1
          rcases List.mem_append.1 hu with h | h
          · exact hw.neg y z u hz (sV1.2.2 u h z (by simp))
          · simp at h; subst h; exact hz
      have F2 : ∀ u ∈ U2, ltcEntry c y u := by
        intro z hz
        cases U2 with
        | nil => simp at hz
        | cons z0 U2 =>
          have hz0 : c y z0 < 0 := by
            rcases t4 with e | e
            · simp only [List.length_cons] at hm; omega
            · have := getD_as (l := p ++ (U1 ++ z0 :: U2) ++ [y] ++ s) (p := p ++ U1) (s := U2 ++ [y] ++ s) (x := z0) (d := y) (i := t) (by simp) (by simp; omega)
              simp only [P] at e
              rw [this] at e
              exact Decidable.not_not.1 e
          rcases List.mem_cons.1 hz with h | h
          · subst h; exact hz0
          · exact hw.lt_le hz0 ((List.pairwise_cons.1 sU'.2.1).1 z h)
      refine ⟨U1 ++ y :: U2, ins_srt hw sU F1 F2, ins_sst hw F2, Ev.succ ?_⟩
      have e1 : ((((m - a : Nat) : Int)) == 1) = false := by simp; omega
      have e2 : ((((b - m : Nat) : Int)) == 1) = true := by simp; omega
      simp only [slices_symMergeCmpFunc_Entry, Jn, wma, wbm, e1, e2, if_true, Bool.false_eq_true, if_false]
      refine t5.ev (J := fun k i => slices_symMergeCmpFunc_Entry.l1 i (fun l => some l) k (p ++ (U1 ++ U2) ++ [y] ++ s) (m : Int)) ?_
      have h3 := mvl_Entry U2.length U2 (p ++ U1) s y rfl (by simp at hl ⊢; omega)
      have h4 := h3.ev (J := fun k l => some l) Ev.ret
      have e3 : ((p ++ U1).length : Int) = (t : Int) := by simp; omega
      have e4 : ((p ++ U1 ++ U2).length : Int) = (m : Int) := by simp; omega
      rw [e3, e4] at h4
      simpa using h4
    -- both long
    have ha9 : p.length = a := ha
    obtain ⟨d, U', hUd⟩ : ∃ d U', U = d :: U' := by cases U with | nil => simp at hU | cons d U' => exact ⟨d, U', rfl⟩
    have wmid : w64 ((wu64 (w64 ((a : Int) + (b : Int)))) / 2 ^ (Int.toNat 1)) = (((a + b) / 2 : Nat) : Int) := mid_eq (by omega)
    obtain ⟨mid, hmid⟩ : ∃ mid, mid = (a + b) / 2 := ⟨_, rfl⟩
    rw [← hmid] at wmid
    have wn : w64 ((mid : Int) + (m : Int)) = ((mid + m : Nat) : Int) := by rw [w64_of (by omega) (by omega)]; omega
    have wp : w64 (((mid + m : Nat) : Int) - 1) = ((mid + m - 1 : Nat) : Int) := by rw [w64_of (by omega) (by omega)]; omega
    have wst : mid < m → w64 (((mid + m : Nat) : Int) - (b : Int)) = ((mid + m - b : Nat) : Int) := fun h => by rw [w64_of (by omega) (by omega)]; omega
    obtain ⟨i0, hi0⟩ : ∃ i0, i0 = if mid < m then mid + m - b else a := ⟨_, rfl⟩
    obtain ⟨j0, hj0⟩ : ∃ j0, j0 = if mid < m then mid else m := ⟨_, rfl⟩
    have hij : i0 ≤ j0 ∧ a ≤ i0 ∧ j0 ≤ m ∧ (i0 < j0 → mid + m - 1 - i0 < b ∧ m ≤ mid + m - j0) := by
      by_cases h : mid < m
      · rw [if_pos h] at hi0 hj0; omega
      · rw [if_neg h] at hi0 hj0; omega
    let P : Nat → Prop := fun h => ¬ c ((p ++ U ++ V ++ s).getD (mid + m - 1 - h) d) ((p ++ U ++ V ++ s).getD h d) < 0
    letI : DecidablePred P := fun h => inferInstanceAs (Decidable (¬ c ((p ++ U ++ V ++ s).getD (mid + m - 1 - h) d) ((p ++ U ++ V ++ s).getD h d) < 0))
    obtain ⟨t, t1, t2, t3, t4, t5⟩ := bsearch (R := List Entry) P (fun J k i j => slices_symMergeCmpFunc_Entry.l0 (p ++ U ++ V ++ s) (a : Int) (m : Int) (b : Int) cmp J k i j) i0 j0
      (by intro J k i; simp [slices_symMergeCmpFunc_Entry.l0])
      (by
        intro J k i j h1 h2 h3
        have e : decide ((i : Int) < (j : Int)) = true := decide_eq_true (by omega)
        have hq : (i + j) / 2 < (p ++ U ++ V ++ s).length := by simp only [List.length_append]; omega
        have hq2 : mid + m - 1 - (i + j) / 2 < (p ++ U ++ V ++ s).length := by simp only [List.length_append]; have := hij.2.2.2 (by omega); omega
        have w1 : w64 ((((i + j) / 2 : Nat) : Int) + 1) = (((i + j) / 2 + 1 : Nat) : Int) := by rw [w64_of (by omega) (by omega)]; omega
        have w2 : w64 (((mid + m - 1 : Nat) : Int) - (((i + j) / 2 : Nat) : Int)) = ((mid + m - 1 - (i + j) / 2 : Nat) : Int) := by have := hij.2.2.2 (by omega); rw [w64_of (by omega) (by omega)]; omega
        simp only [slices_symMergeCmpFunc_Entry.l0, e, if_true, wmid, wn, wp, mid_eq (i := i) (j := j) (by omega), w2, getD_idx2 d hq, getD_idx2 d hq2, Option.bind_some, hc, w1, Bool.not_eq_true', decide_eq_false_iff_not]
        rfl) _ i0 j0 (Nat.le_refl _) (Nat.le_refl _) hij.1 (Nat.le_refl _) (.inl rfl) (.inl rfl)
    have htm : t ≤ m ∧ a ≤ t ∧ t ≤ mid ∧ mid + m - t ≤ b := by
      by_cases h : mid < m
      · rw [if_pos h] at hi0 hj0; omega
      · rw [if_neg h] at hi0 hj0; omega
    obtain ⟨U1, U2, hUU, hU1⟩ : ∃ U1 U2, U = U1 ++ U2 ∧ U1.length = t - a := ⟨U.take (t - a), U.drop (t - a), (List.take_append_drop _ _).symm, by simp; omega⟩
    obtain ⟨V1, V2, hVV, hV1⟩ : ∃ V1 V2, V = V1 ++ V2 ∧ V1.length = mid - t := ⟨V.take (mid - t), V.drop (mid - t), (List.take_append_drop _ _).symm, by simp; omega⟩
    have lU : U.length = U1.length + U2.length := by rw [hUU]; simp
    have lV : V.length = V1.length + V2.length := by rw [hVV]; simp
    have sU' := sU
    have sV' := sV
    rw [hUU, Srt.app] at sU'
    rw [hVV, Srt.app] at sV'
    have F1 : ∀ v ∈ V1, ∀ u ∈ U2, ltcEntry c v u := by
      intro v hv u hu
      rcases nil_or_snoc V1 with e | ⟨V1', v0, e⟩
      · rw [e] at hv; simp at hv
      cases h2 : U2 with
      | nil => rw [h2] at hu; simp at hu
      | cons u0 U2' =>
        have lV1 : V1.length = V1'.length + 1 := by rw [e]; simp
        have lU2 : U2.length = U2'.length + 1 := by rw [h2]; simp
        have h0 : c v0 u0 < 0 := by
          rcases t4 with g | g
          · by_cases h : mid < m
            · rw [if_pos h] at hi0 hj0; omega
            · rw [if_neg h] at hi0 hj0; omega
          · have g1 := getD_as (l := p ++ U ++ V ++ s) (p := p ++ U1) (s := U2' ++ V ++ s) (x := u0) (d := d) (i := t) (by rw [hUU, h2]; simp) (by simp; omega)
            have g2 := getD_as (l := p ++ U ++ V ++ s) (p := p ++ U ++ V1') (s := V2 ++ s) (x := v0) (d := d) (i := mid + m - 1 - t) (by rw [hVV, e]; simp) (by simp; omega)
            simp only [P] at g
            rw [g1, g2] at g
            exact Decidable.not_not.1 g
        have sV1 := sV'.1
        rw [e, Srt.app] at sV1
        have sU2 := sU'.2.1
        rw [h2] at sU2 hu
        have k1 : ltcEntry c v0 u := by
          rcases List.mem_cons.1 hu with h | h
          · subst h; exact h0
          · exact hw.lt_le h0 ((List.pairwise_cons.1 sU2).1 u h)
        rw [e] at hv
        rcases List.mem_append.1 hv with h | h
        · exact hw.le_lt (sV1.2.2 v h v0 (by simp)) k1
        · simp at h; subst h; exact k1
    have F2 : ∀ u ∈ U1, ∀ v ∈ V2, ¬ ltcEntry c v u := by
      intro u hu v hv
      rcases nil_or_snoc U1 with e | ⟨U1', u0, e⟩
      · rw [e] at hu; simp at hu
      cases h2 : V2 with
      | nil => rw [h2] at hv; simp at hv
      | cons v0 V2' =>
        have lU1 : U1.length = U1'.length + 1 := by rw [e]; simp
        have lV2 : V2.length = V2'.length + 1 := by rw [h2]; simp
        have h0 : ¬ c v0 u0 < 0 := by
          rcases t3 with g | g
          · by_cases h : mid < m
            · rw [if_pos h] at hi0 hj0; omega
            · rw [if_neg h] at hi0 hj0; omega
          · have g1 := getD_as (l := p ++ U ++ V ++ s) (p := p ++ U1') (s := U2 ++ V ++ s) (x := u0) (d := d) (i := t - 1) (by rw [hUU, e]; simp) (by simp; omega)
            have g2 := getD_as (l := p ++ U ++ V ++ s) (p := p ++ U ++ V1) (s := V2' ++ s) (x := v0) (d := d) (i := mid + m - 1 - (t - 1)) (by rw [hVV, h2]; simp) (by simp; omega)
            simp only [P] at g
            rw [g1, g2] at g
            exact g
        have sU1 := sU'.1
        rw [e, Srt.app] at sU1
        have sV2 := sV'.2.1
        rw [h2] at sV2 hv
        have k1 : ¬ ltcEntry c v u0 := by
          rcases List.mem_cons.1 hv with h | h
          · subst h; exact h0
          · exact hw.neg v v0 u0 ((List.pairwise_cons.1 sV2).1 v h) h0
        rw [e] at hu
        rcases List.mem_append.1 hu with h | h
        · exact hw.neg v u0 u k1 (sU1.2.2 u h u0 (by simp))
        · simp at h; subst h; exact k1
    have we : w64 (((mid + m : Nat) : Int) - (t : Int)) = ((mid + m - t : Nat) : Int) := by rw [w64_of (by omega) (by omega)]; omega
    -- left
    have hL : ∃ M1, Srt (ltcEntry c) M1 ∧ Sst (ltcEntry c) (U1 ++ V1) M1 ∧ ((decide ((a : Int) < (t : Int)) && decide ((t : Int) < (mid : Int))) = true → Ev (fun k => slices_symMergeCmpFunc_Entry k (p ++ (U1 ++ V1) ++ (U2 ++ V2 ++ s)) (a : Int) (t : Int) (mid : Int) cmp) (p ++ M1 ++ (U2 ++ V2 ++ s))) ∧
        (¬ (decide ((a : Int) < (t : Int)) && decide ((t : Int) < (mid : Int))) = true → U1 ++ V1 = M1) := by
      by_cases h : a < t ∧ t < mid
      · obtain ⟨M, k1, k2, k3⟩ := ih U1 V1 p (U2 ++ V2 ++ s) a t mid (by omega) (by omega) (by omega) sU'.1 sV'.1 ha9 (by simp; omega) (by simp; omega) (by simp; omega)
        refine ⟨M, k1, k2, fun _ => ?_, fun hn => absurd ?_ hn⟩
        · simpa using k3
        · rw [Bool.and_eq_true, decide_eq_true_eq, decide_eq_true_eq]; omega
      · refine ⟨U1 ++ V1, ?_, Sst.refl _, fun hn => absurd ?_ h, fun _ => rfl⟩
        · by_cases hz : U1 = []
          · rw [hz]; exact sV'.1
          · have : V1 = [] := List.eq_nil_of_length_eq_zero (by have := List.length_pos_iff.2 hz; omega)
            rw [this, List.append_nil]; exact sU'.1
        · rw [Bool.and_eq_true, decide_eq_true_eq, decide_eq_true_eq] at hn; omega
    obtain ⟨M1, m1, m2, m3, m4⟩ := hL
    have lM1 : M1.length = mid - a := by have := m2.len; simp at this; omega
    have hR : ∃ M2, Srt (ltcEntry c) M2 ∧ Sst (ltcEntry c) (U2 ++ V2) M2 ∧ ((decide ((mid : Int) < ((mid + m - t : Nat) : Int)) && decide (((mid + m - t : Nat) : Int) < (b : Int))) = true → Ev (fun k => slices_symMergeCmpFunc_Entry k (p ++ M1 ++ (U2 ++ V2 ++ s)) (mid : Int) ((mid + m - t : Nat) : Int) (b : Int) cmp) (p ++ M1 ++ (M2 ++ s))) ∧
        (¬ (decide ((mid : Int) < ((mid + m - t : Nat) : Int)) && decide (((mid + m - t : Nat) : Int) < (b : Int))) = true → U2 ++ V2 = M2) := by
      by_cases h : mid < mid + m - t ∧ mid + m - t < b
      · obtain ⟨M, k1, k2, k3⟩ := ih U2 V2 (p ++ M1) s mid (mid + m - t) b (by omega) (by omega) (by omega) sU'.2.1 sV'.2.1 (by simp; omega) (by simp; omega) (by simp; omega) (by simp; omega)
        refine ⟨M, k1, k2, fun _ => ?_, fun hn => absurd ?_ hn⟩
        · simpa using k3
        · rw [Bool.and_eq_true, decide_eq_true_eq, decide_eq_true_eq]; omega
      · refine ⟨U2 ++ V2, ?_, Sst.refl _, fun hn => absurd ?_ h, fun _ => rfl⟩
        · by_cases hz : U2 = []
          · rw [hz]; exact sV'.2.1
          · have : V2 = [] := List.eq_nil_of_length_eq_zero (by have := List.length_pos_iff.2 hz; omega)
            rw [this, List.append_nil]; exact sU'.2.1
        · rw [Bool.and_eq_true, decide_eq_true_eq, decide_eq_true_eq] at hn; omega
    obtain ⟨M2, n1, n2, n3, n4⟩ := hR
    refine ⟨M1 ++ M2, ?_, ?_, Ev.succ ?_⟩
    · refine Srt.app.2 ⟨m1, n1, fun x hx y hy => ?_⟩
      have hx' := m2.1.mem_iff.2 hx
      have hy' := n2.1.mem_iff.2 hy
      rcases List.mem_append.1 hx' with g | g <;> rcases List.mem_append.1 hy' with k | k
      · exact sU'.2.2 x g y k
      · exact F2 x g y k
      · exact hw.asymm _ _ (F1 x g y k)
      · exact sV'.2.2 x g y k
    · have k1 : Sst (ltcEntry c) (U1 ++ (U2 ++ V1) ++ V2) (U1 ++ (V1 ++ U2) ++ V2) := ((Sst.refl U1).app (Sst.swap hw fun x hx y hy => F1 y hy x hx)).app (Sst.refl V2)
      have k2 := m2.app n2
      rw [hUU, hVV]
      have e1 : U1 ++ U2 ++ (V1 ++ V2) = U1 ++ (U2 ++ V1) ++ V2 := by simp
      have e2 : U1 ++ V1 ++ (U2 ++ V2) = U1 ++ (V1 ++ U2) ++ V2 := by simp
      rw [e1]
      rw [e2] at k2
      exact k1.trans k2
    · have e1 : ((((m - a : Nat) : Int)) == 1) = false := by simp; omega
      have e2 : ((((b - m : Nat) : Int)) == 1) = false := by simp; omega
      have hgo : Ev (fun k => slices_symMergeCmpFunc_Entry.l0 (p ++ U ++ V ++ s) (a : Int) (m : Int) (b : Int) cmp (fun i_120 => if (decide (i_120 < (m : Int)) && decide ((m : Int) < w64 (((mid + m : Nat) : Int) - i_120))) = true then (slices_rotateCmpFunc_Entry k (p ++ U ++ V ++ s) i_120 (m : Int) (w64 (((mid + m : Nat) : Int) - i_120)) cmp).bind fun r434 => (if (decide ((a : Int) < i_120) && decide (i_120 < (mid : Int))) = true then (slices_symMergeCmpFunc_Entry k r434 (a : Int) i_120 (mid : Int) cmp).bind fun r429 => (if (decide ((mid : Int) < w64 (((mid + m : Nat) : Int) - i_120)) && decide (w64 (((mid + m : Nat) : Int) - i_120) < (b : Int))) = true then (slices_symMergeCmpFunc_Entry k r429 (mid : Int) (w64 (((mid + m : Nat) : Int) - i_120)) (b : Int) cmp).bind fun r424 => some r424 else some r429) else (if (decide ((mid : Int) < w64 (((mid + m : Nat) : Int) - i_120)) && decide (w64 (((mid + m : Nat) : Int) - i_120) < (b : Int))) = true then (slices_symMergeCmpFunc_Entry k r434 (mid : Int) (w64 (((mid + m : Nat) : Int) - i_120)) (b : Int) cmp).bind fun r424 => some r424 else some r434)) else (if (decide ((a : Int) < i_120) && decide (i_120 < (mid : Int))) = true then (slices_symMergeCmpFunc_Entry k (p ++ U ++ V ++ s) (a : Int) i_120 (mid : Int) cmp).bind fun r429 => (if (decide ((mid : Int) < w64 (((mid + m : Nat) : Int) - i_120)) && decide (w64 (((mid + m : Nat) : Int) - i_120) < (b : Int))) = true then (slices_symMergeCmpFunc_Entry k r429 (mid : Int) (w64 (((mid + m : Nat) : Int) - i_120)) (b : Int) cmp).bind fun r424 => some r424 else some r429) else (if (decide ((mid : Int) < w64 (((mid + m : Nat) : Int) - i_120)) && decide (w64 (((mid + m : Nat) : Int) - i_120) < (b : Int))) = true then (slices_symMergeCmpFunc_Entry k (p ++ U ++ V ++ s) (mid : Int) (w64 (((mid + m : Nat) : Int) - i_120)) (b : Int) cmp).bind fun r424 => some r424 else some (p ++ U ++ V ++ s)))) k (i0 : Int) (j0 : Int)) (p ++ (M1 ++ M2) ++ s) := by
        refine t5.ev (J := fun k i_120 => if (decide (i_120 < (m : Int)) && decide ((m : Int) < w64 (((mid + m : Nat) : Int) - i_120))) = true then (slices_rotateCmpFunc_Entry k (p ++ U ++ V ++ s) i_120 (m : Int) (w64 (((mid + m : Nat) : Int) - i_120)) cmp).bind fun r434 => (if (decide ((a : Int) < i_120) && decide (i_120 < (mid : Int))) = true then (slices_symMergeCmpFunc_Entry k r434 (a : Int) i_120 (mid : Int) cmp).bind fun r429 => (if (decide ((mid : Int) < w64 (((mid + m : Nat) : Int) - i_120)) && decide (w64 (((mid + m : Nat) : Int) - i_120) < (b : Int))) = true then (slices_symMergeCmpFunc_Entry k r429 (mid : Int) (w64 (((mid + m : Nat) : Int) - i_120)) (b : Int) cmp).bind fun r424 => some r424 else some r429) else (if (decide ((mid : Int) < w64 (((mid + m : Nat) : Int) - i_120)) && decide (w64 (((mid + m : Nat) : Int) - i_120) < (b : Int))) = true then (slices_symMergeCmpFunc_Entry k r434 (mid : Int) (w64 (((mid + m : Nat) : Int) - i_120)) (b : Int) cmp).bind fun r424 => some r424 else some r434)) else (if (decide ((a : Int) < i_120) && decide (i_120 < (mid : Int))) = true then (slices_symMergeCmpFunc_Entry k (p ++ U ++ V ++ s) (a : Int) i_120 (mid : Int) cmp).bind fun r429 => (if (decide ((mid : Int) < w64 (((mid + m : Nat) : Int) - i_120)) && decide (w64 (((mid + m : Nat) : Int) - i_120) < (b : Int))) = true then (slices_symMergeCmpFunc_Entry k r429 (mid : Int) (w64 (((mid + m : Nat) : Int) - i_120)) (b : Int) cmp).bind fun r424 => some r424 else some r429) else (if (decide ((mid : Int) < w64 (((mid + m : Nat) : Int) - i_120)) && decide (w64 (((mid + m : Nat) : Int) - i_120) < (b : Int))) = true then (slices_symMergeCmpFunc_Entry k (p ++ U ++ V ++ s) (mid : Int) (w64 (((mid + m : Nat) : Int) - i_120)) (b : Int) cmp).bind fun r424 => some r424 else some (p ++ U ++ V ++ s)))) ?_
        simp only [we]
        refine Ev.opt (g := fun k r434 => (if (decide ((a : Int) < (t : Int)) && decide ((t : Int) < (mid : Int))) = true then (slices_symMergeCmpFunc_Entry k r434 (a : Int) (t : Int) (mid : Int) cmp).bind fun r429 => (if (decide ((mid : Int) < ((mid + m - t : Nat) : Int)) && decide (((mid + m - t : Nat) : Int) < (b : Int))) = true then (slices_symMergeCmpFunc_Entry k r429 (mid : Int) ((mid + m - t : Nat) : Int) (b : Int) cmp).bind fun r424 => some r424 else some r429) else (if (decide ((mid : Int) < ((mid + m - t : Nat) : Int)) && decide (((mid + m - t : Nat) : Int) < (b : Int))) = true then (slices_symMergeCmpFunc_Entry k r434 (mid : Int) ((mid + m - t : Nat) : Int) (b : Int) cmp).bind fun r424 => some r424 else some r434)))
          (b := p ++ (U1 ++ V1) ++ (U2 ++ V2 ++ s)) (fun h => ?_) (fun h => ?_) ?_
        · rw [Bool.and_eq_true, decide_eq_true_eq, decide_eq_true_eq] at h
          have := rot_Entry (cmp := cmp) (a := t) (m := m) (b := mid + m - t) U2 V1 (p ++ U1) (V2 ++ s) (by simp; omega) (by simp; omega) (by simp; omega) (by omega) (by omega) (by simp; omega)
          rw [hUU, hVV]
          simpa using this
        · rw [Bool.and_eq_true, decide_eq_true_eq, decide_eq_true_eq] at h
          rw [hUU, hVV]
          by_cases hz : U2 = []
          · rw [hz]; simp
          · have : V1 = [] := List.eq_nil_of_length_eq_zero (by have := List.length_pos_iff.2 hz; omega)
            rw [this]; simp
        · refine Ev.opt (g := fun k r429 => (if (decide ((mid : Int) < ((mid + m - t : Nat) : Int)) && decide (((mid + m - t : Nat) : Int) < (b : Int))) = true then (slices_symMergeCmpFunc_Entry k r429 (mid : Int) ((mid + m - t : Nat) : Int) (b : Int) cmp).bind fun r424 => some r424 else some r429))
            (b := p ++ M1 ++ (U2 ++ V2 ++ s)) m3 (fun h => by rw [m4 h]) ?_
          have := Ev.opt (p := (decide ((mid : Int) < ((mid + m - t : Nat) : Int)) && decide (((mid + m - t : Nat) : Int) < (b : Int))) = true) (f := fun k => slices_symMergeCmpFunc_Entry k (p ++ M1 ++ (U2 ++ V2 ++ s)) (mid : Int) ((mid + m - t : Nat) : Int) (b : Int) cmp) (g := fun k r => some r) (a := p ++ M1 ++ (U2 ++ V2 ++ s)) (b := p ++ M1 ++ (M2 ++ s)) (r := p ++ M1 ++ (M2 ++ s)) n3 (fun h => by rw [← n4 h]) Ev.ret
          simpa using this
      by_cases h : mid < m
      · have e3 : decide ((mid : Int) < (m : Int)) = true := decide_eq_true (by omega)
        rw [if_pos h] at hi0 hj0
        rw [hi0, hj0] at hgo
        simp only [slices_symMergeCmpFunc_Entry, Jn, wma, wbm, e1, e2, Bool.false_eq_true, if_false, wmid, wn, e3, if_true, wst h]
        exact hgo
      · have e3 : decide ((mid : Int) < (m : Int)) = false := decide_eq_false (by omega)
        rw [if_neg h] at hi0 hj0
        rw [hi0, hj0] at hgo
        simp only [slices_symMergeCmpFunc_Entry, Jn, wma, wbm, e1, e2, Bool.false_eq_true, if_false, wmid, wn, e3]
        exact hgo
theorem sta_l2_Entry (hc : ∀ x y, cmp x y = some (c x y)) (hw : Wo (ltcEntry c)) (bs n : Nat) (h0 : 0 < bs) (hbs : bs < n) (hn : n ≤ 1152921504606846976) : ∀ (g : Nat) (rest p : List Entry), rest.length ≤ g → Chunks (ltcEntry c) bs rest → (p ++ rest).length = n →
    ∃ L T, (∀ T', T'.length ≤ 2 * bs → Srt (ltcEntry c) T' → Chunks (ltcEntry c) (2 * bs) (L ++ T')) ∧ Sst (ltcEntry c) rest (L ++ T) ∧ T.length < 2 * bs ∧ Chunks (ltcEntry c) bs T ∧
      EvC2 (fun J k => slices_stableCmpFunc_Entry.l2 (n : Int) cmp (bs : Int) J k (p ++ rest) (p.length : Int) ((p.length + 2 * bs : Nat) : Int)) (p ++ L ++ T) ((p ++ L).length : Int) := by
  intro g
  induction g with
  | zero =>
    intro rest p hg hch hl
    obtain rfl : rest = [] := List.eq_nil_of_length_eq_zero (by omega)
    refine ⟨[], [], fun T' h1 h2 => Chunks.last h1 h2, Sst.refl _, by simp; omega, Chunks.last (by simp) Srt.nil, EvC2.succ ?_⟩
    simp only [List.length_append, List.length_nil] at hl
    have e : decide (((p.length + 2 * bs : Nat) : Int) ≤ (n : Int)) = false := decide_eq_false (by omega)
    simp only [slices_stableCmpFunc_Entry.l2, e, Bool.false_eq_true, if_false]
    simpa using EvC2.ret
  | succ g ih =>
    intro rest p hg hch hl
    have hl' := hl
    simp only [List.length_append] at hl'
    by_cases hb : rest.length < 2 * bs
    · refine ⟨[], rest, fun T' h1 h2 => Chunks.last h1 h2, Sst.refl _, hb, hch, EvC2.succ ?_⟩
      have e : decide (((p.length + 2 * bs : Nat) : Int) ≤ (n : Int)) = false := decide_eq_false (by omega)
      simp only [slices_stableCmpFunc_Entry.l2, e, Bool.false_eq_true, if_false]
      simpa using EvC2.ret
    · rcases hch.first h0 with ⟨f1, f2⟩ | ⟨u, r1, rfl, hu, su, hr1, hch1⟩
      · omega
      simp only [List.length_append] at hb hl' hg
      obtain ⟨v, r, rfl, hv, sv, hchr⟩ : ∃ v r, r1 = v ++ r ∧ v.length = bs ∧ Srt (ltcEntry c) v ∧ Chunks (ltcEntry c) bs r := by
        rcases hch1.first h0 with ⟨f1, f2⟩ | ⟨v, r, e, hv, sv, hr, hc1⟩
        · exact ⟨r1, [], by simp, by omega, f2, Chunks.last (by simp) Srt.nil⟩
        · exact ⟨v, r, e, hv, sv, hc1⟩
      simp only [List.length_append] at hb hl' hg
      obtain ⟨M, k1, k2, k3⟩ := sym_Entry hc hw _ u v p r p.length (p.length + bs) (p.length + 2 * bs) (Nat.le_refl _) (by omega) (by omega) su sv rfl (by simp; omega) (by simp; omega) (by simp; omega)
      have lM : M.length = 2 * bs := by have := k2.len; simp at this; omega
      obtain ⟨L, T, g1, g2, g3, g4, g5⟩ := ih r (p ++ M) (by omega) hchr (by simp; omega)
      refine ⟨M ++ L, T, fun T' h1 h2 => ?_, ?_, g3, g4, EvC2.succ ?_⟩
      · rw [List.append_assoc]; exact Chunks.cons lM k1 (g1 T' h1 h2)
      · have := k2.app g2
        simpa using this
      · have e : decide (((p.length + 2 * bs : Nat) : Int) ≤ (n : Int)) = true := decide_eq_true (by omega)
        have w1 : w64 ((p.length : Int) + (bs : Int)) = ((p.length + bs : Nat) : Int) := by rw [w64_of (by omega) (by omega)]; omega
        have w2 : w64 (2 * (bs : Int)) = ((2 * bs : Nat) : Int) := by rw [w64_of (by omega) (by omega)]; omega
        have w3 : w64 (((p.length + 2 * bs : Nat) : Int) + ((2 * bs : Nat) : Int)) = ((p.length + 2 * bs + 2 * bs : Nat) : Int) := by rw [w64_of (by omega) (by omega)]; omega
        simp only [slices_stableCmpFunc_Entry.l2, e, if_true, w1, w2, w3]
        have k3' : Ev (fun k => slices_symMergeCmpFunc_Entry k (p ++ (u ++ (v ++ r))) (p.length : Int) ((p.length + bs : Nat) : Int) ((p.length + 2 * bs : Nat) : Int) cmp) (p ++ M ++ r) := by simpa using k3
        refine EvC2.bind k3' ?_
        have e2 : (p ++ M).length = p.length + 2 * bs := by simp; omega
        rw [e2] at g5
        simpa using g5
theorem sta_l1_Entry (hc : ∀ x y, cmp x y = some (c x y)) (hw : Wo (ltcEntry c)) (n : Nat) (hn : n ≤ 1152921504606846976) : ∀ (g bs : Nat) (l : List Entry), n - bs ≤ g → 0 < bs → Chunks (ltcEntry c) bs l → l.length = n →
    ∃ l', Srt (ltcEntry c) l' ∧ Sst (ltcEntry c) l l' ∧ Ev (fun k => slices_stableCmpFunc_Entry.l1 (n : Int) cmp k l (bs : Int)) l' := by
  intro g
  induction g with
  | zero =>
    intro bs l hg h0 hch hl
    rcases hch.first h0 with ⟨f1, f2⟩ | ⟨u, r, rfl, hu, su, hr, _⟩
    · refine ⟨l, f2, Sst.refl _, Ev.succ ?_⟩
      have e : decide ((bs : Int) < (n : Int)) = false := decide_eq_false (by omega)
      simp only [slices_stableCmpFunc_Entry.l1, e, Bool.false_eq_true, if_false]
      exact Ev.ret
    · have := List.length_pos_iff.2 hr
      simp only [List.length_append] at hl
      omega
  | succ g ih =>
    intro bs l hg h0 hch hl
    by_cases hb : bs < n
    · obtain ⟨L, T, g1, g2, g3, g4, g5⟩ := sta_l2_Entry hc hw bs n h0 hb hn _ l [] (Nat.le_refl _) hch (by simpa using hl)
      have e : decide ((bs : Int) < (n : Int)) = true := decide_eq_true (by omega)
      have w2 : w64 (2 * (bs : Int)) = ((2 * bs : Nat) : Int) := by rw [w64_of (by omega) (by omega)]; omega
      have w3 : w64 ((bs : Int) * 2) = ((2 * bs : Nat) : Int) := by rw [w64_of (by omega) (by omega)]; omega
      have lLT := g2.len
      simp only [List.length_append] at lLT
      have w4 : w64 ((L.length : Int) + (bs : Int)) = ((L.length + bs : Nat) : Int) := by rw [w64_of (by omega) (by omega)]; omega
      have hT : ∃ T', Srt (ltcEntry c) T' ∧ Sst (ltcEntry c) T T' ∧ (decide (((L.length + bs : Nat) : Int) < (n : Int)) = true → Ev (fun k => slices_symMergeCmpFunc_Entry k (L ++ T) (L.length : Int) ((L.length + bs : Nat) : Int) (n : Int) cmp) (L ++ T')) ∧ (¬ decide (((L.length + bs : Nat) : Int) < (n : Int)) = true → L ++ T = L ++ T') := by
        by_cases hx : L.length + bs < n
        · rcases g4.first h0 with ⟨f1, f2⟩ | ⟨u, r, rfl, hu, su, hr, hchr⟩
          · omega
          · simp only [List.length_append] at g3 lLT
            have sr : Srt (ltcEntry c) r := by
              rcases hchr.first h0 with ⟨f1, f2⟩ | ⟨u2, r2, rfl, hu2, _, _, _⟩
              · exact f2
              · simp only [List.length_append] at g3; omega
            have hr0 := List.length_pos_iff.2 hr
            obtain ⟨M, k1, k2, k3⟩ := sym_Entry hc hw _ u r L [] L.length (L.length + bs) n (Nat.le_refl _) (by omega) hr0 su sr rfl (by simp; omega) (by simp; omega) (by simp; omega)
            refine ⟨M, k1, k2, fun _ => by simpa using k3, fun hn => absurd (decide_eq_true ?_) hn⟩
            omega
        · refine ⟨T, ?_, Sst.refl _, fun hn => absurd ?_ hx, fun _ => rfl⟩
          · rcases g4.first h0 with ⟨f1, f2⟩ | ⟨u, r, rfl, hu, su, hr, hchr⟩
            · exact f2
            · have := List.length_pos_iff.2 hr
              simp only [List.length_append] at lLT
              omega
          · have := of_decide_eq_true hn; omega
      obtain ⟨T', t1, t2, t3, t4⟩ := hT
      have lT := t2.len
      obtain ⟨l', k1, k2, k3⟩ := ih (2 * bs) (L ++ T') (by omega) (by omega) (g1 T' (by omega) t1) (by simp; omega)
      refine ⟨l', k1, (g2.trans ((Sst.refl L).app t2)).trans k2, Ev.succ ?_⟩
      simp only [slices_stableCmpFunc_Entry.l1, e, if_true, Jn, w2, w3]
      simp only [List.nil_append, List.length_nil, Nat.zero_add] at g5
      refine g5.ev (J := fun k l_126 i_127 => if decide (w64 (i_127 + (bs : Int)) < (n : Int)) = true then (slices_symMergeCmpFunc_Entry k l_126 i_127 (w64 (i_127 + (bs : Int))) (n : Int) cmp).bind fun r136 => slices_stableCmpFunc_Entry.l1 (n : Int) cmp k r136 ((2 * bs : Nat) : Int) else slices_stableCmpFunc_Entry.l1 (n : Int) cmp k l_126 ((2 * bs : Nat) : Int)) ?_
      simp only [w4]
      exact Ev.opt (g := fun k r => slices_stableCmpFunc_Entry.l1 (n : Int) cmp k r ((2 * bs : Nat) : Int)) (b := L ++ T') t3 t4 k3
    · rcases hch.first h0 with ⟨f1, f2⟩ | ⟨u, r, rfl, hu, su, hr, _⟩
      · refine ⟨l, f2, Sst.refl _, Ev.succ ?_⟩
        have e : decide ((bs : Int) < (n : Int)) = false := decide_eq_false (by omega)
        simp only [slices_stableCmpFunc_Entry.l1, e, Bool.false_eq_true, if_false]
        exact Ev.ret
      · have := List.length_pos_iff.2 hr
        simp only [List.length_append] at hl
        omega
theorem sta_l0_Entry (hc : ∀ x y, cmp x y = some (c x y)) (hw : Wo (ltcEntry c)) (n : Nat) (hn : n ≤ 1152921504606846976) : ∀ (g : Nat) (rest p : List Entry), rest.length ≤ g → (p ++ rest).length = n → (∀ T, Chunks (ltcEntry c) 20 T → Chunks (ltcEntry c) 20 (p ++ T)) →
    ∃ l', Srt (ltcEntry c) l' ∧ Sst (ltcEntry c) (p ++ rest) l' ∧ Ev (fun k => slices_stableCmpFunc_Entry.l0 (n : Int) cmp k (p ++ rest) (p.length : Int) ((p.length + 20 : Nat) : Int)) l' := by
  intro g
  induction g with
  | zero =>
    intro rest p hg hl hp
    obtain rfl : rest = [] := List.eq_nil_of_length_eq_zero (by omega)
    simp only [List.append_nil] at hl ⊢
    obtain ⟨m', i1, i2, i3⟩ := ins_Entry (b := n) hc hw [] p [] rfl (by simpa using hl) (by simp; omega)
    have hm : m' = [] := List.eq_nil_of_length_eq_zero (by have := i2.len; simpa using this.symm)
    subst hm
    obtain ⟨l', k1, k2, k3⟩ := sta_l1_Entry hc hw n hn _ 20 p (Nat.le_refl _) (by omega) (by simpa using hp [] (Chunks.last (by simp) Srt.nil)) hl
    refine ⟨l', k1, k2, Ev.succ ?_⟩
    have e : decide (((p.length + 20 : Nat) : Int) ≤ (n : Int)) = false := decide_eq_false (by omega)
    simp only [slices_stableCmpFunc_Entry.l0, e, Bool.false_eq_true, if_false]
    simp only [List.append_nil] at i3
    exact i3.bind k3
  | succ g ih =>
    intro rest p hg hl hp
    have hl' := hl
    simp only [List.length_append] at hl'
    by_cases hb : p.length + 20 ≤ n
    · obtain ⟨u, r, rfl, hu⟩ : ∃ u r, rest = u ++ r ∧ u.length = 20 := ⟨rest.take 20, rest.drop 20, (List.take_append_drop _ _).symm, by simp; omega⟩
      simp only [List.length_append] at hl' hg
      obtain ⟨u', i1, i2, i3⟩ := ins_Entry (b := p.length + 20) hc hw u p r rfl (by simp; omega) (by simp; omega)
      have lu := i2.len
      obtain ⟨l', k1, k2, k3⟩ := ih r (p ++ u') (by omega) (by simp; omega) (fun T hT => by rw [List.append_assoc]; exact hp _ (Chunks.cons (by omega) i1 hT))
      refine ⟨l', k1, Sst.trans ?_ k2, Ev.succ ?_⟩
      · have := ((Sst.refl (lt := ltcEntry c) p).app i2).app (Sst.refl (lt := ltcEntry c) r)
        simpa using this
      · have e : decide (((p.length + 20 : Nat) : Int) ≤ (n : Int)) = true := decide_eq_true (by omega)
        have w : w64 (((p.length + 20 : Nat) : Int) + 20) = ((p.length + 20 + 20 : Nat) : Int) := by rw [w64_of (by omega) (by omega)]; omega
        simp only [slices_stableCmpFunc_Entry.l0, e, if_true, w]
        have i3' : Ev (fun k => slices_insertionSortCmpFunc_Entry k (p ++ (u ++ r)) (p.length : Int) ((p.length + 20 : Nat) : Int) cmp) (p ++ u' ++ r) := by simpa using i3
        refine i3'.bind ?_
        have e2 : (p ++ u').length = p.length + 20 := by simp; omega
        rw [e2] at k3
        exact k3
    · obtain ⟨m', i1, i2, i3⟩ := ins_Entry (b := n) hc hw rest p [] rfl (by simpa using hl) (by simp; omega)
      have lm := i2.len
      obtain ⟨l', k1, k2, k3⟩ := sta_l1_Entry hc hw n hn _ 20 (p ++ m') (Nat.le_refl _) (by omega) (hp m' (Chunks.last (by omega) i1)) (by simp; omega)
      refine ⟨l', k1, Sst.trans ((Sst.refl p).app i2) k2, Ev.succ ?_⟩
      have e : decide (((p.length + 20 : Nat) : Int) ≤ (n : Int)) = false := decide_eq_false (by omega)
      simp only [slices_stableCmpFunc_Entry.l0, e, Bool.false_eq_true, if_false]
      simp only [List.append_nil] at i3
      exact i3.bind k3
/-- slices.SortStableFunc. -/
theorem stable_Entry (hc : ∀ x y, cmp x y = some (c x y)) (hw : Wo (ltcEntry c)) (l : List Entry) (hn : l.length ≤ 1152921504606846976) :
    ∃ l', Srt (ltcEntry c) l' ∧ Sst (ltcEntry c) l l' ∧ Ev (fun k => slices_SortStableFunc_Entry k l cmp) l' := by
  obtain ⟨l', k1, k2, k3⟩ := sta_l0_Entry hc hw l.length hn _ l [] (Nat.le_refl _) (by simp) (fun T h => by simpa using h)
  refine ⟨l', k1, by simpa using k2, ?_⟩
  simp only [slices_SortStableFunc_Entry, slices_stableCmpFunc_Entry]
  have : Ev (fun k => slices_stableCmpFunc_Entry.l0 (l.length : Int) cmp k l 0 20) l' := by simpa using k3
  exact this.bind Ev.ret
end
end Go.Proofs.Ytknedifgapgmbaa.Mo
