/- Apply: both ways come to the same levels. Part two: the loops. -/
import Derived.Test.YtbbepmmelpabbaaVvp
set_option linter.unusedVariables false
set_option linter.unusedSectionVars false
set_option linter.unusedSimpArgs false
set_option maxRecDepth 100000
namespace Go.Proofs.Ytbbepmmelpabbaa.Mo
open Go Go.Proofs.Ytbbepmmelpabbaa.Sy

/-! ### One file goes -/
theorem first_num {n : Int} : ∀ {x : List File}, n ∈ nums x → ∃ p f s, x = p ++ f :: s ∧ f.Number = n ∧ ∀ y ∈ p, y.Number ≠ n
  | [], h => by simp [nums] at h
  | f :: x, h => by
    by_cases e : f.Number = n
    · exact ⟨[], f, x, rfl, e, by simp⟩
    · have : n ∈ nums x := by
        rcases List.mem_cons.1 (show n ∈ f.Number :: nums x from h) with h | h
        · exact absurd h.symm e
        · exact h
      obtain ⟨p, g, s, h1, h2, h3⟩ := first_num this
      exact ⟨f :: p, g, s, by rw [h1]; rfl, h2, fun y hy => by
        rcases List.mem_cons.1 hy with rfl | hy
        · exact e
        · exact h3 y hy⟩
def lessN (n : Int) (x : List File) : List File := x.filter fun f => f.Number != n
theorem lessN_at {n : Int} {p s : List File} {f : File} (hd : (nums (p ++ f :: s)).Nodup) (hn : f.Number = n) (hp : ∀ y ∈ p, y.Number ≠ n) : lessN n (p ++ f :: s) = p ++ s := by
  have hs : ∀ y ∈ s, y.Number ≠ n := fun y hy e => by
    have h1 : (nums p ++ f.Number :: nums s).Nodup := by simpa [nums] using hd
    have h2 := (List.nodup_cons.1 (List.nodup_append.1 h1).2.1).1
    exact h2 (by rw [hn, ← e]; exact List.mem_map_of_mem hy)
  have e1 : (p.filter fun f => f.Number != n) = p := List.filter_eq_self.2 fun y hy => by simpa using hp y hy
  have e2 : (s.filter fun f => f.Number != n) = s := List.filter_eq_self.2 fun y hy => by simpa using hs y hy
  have e3 : ¬ ((f.Number != n) = true) := by simp [hn]
  simp only [lessN, List.filter_append, List.filter_cons, e1, e2, if_neg e3]
theorem lessN_len {n : Int} {x : List File} : (lessN n x).length = x.length ↔ n ∉ nums x := by
  unfold lessN
  rw [List.length_filter_eq_length_iff]
  constructor
  · intro h hm
    obtain ⟨f, hf, e⟩ := List.mem_map.1 hm
    have := h f hf
    simp [e] at this
  · intro h f hf
    simp only [bne_iff_ne, ne_eq]
    exact fun e => h (by rw [← e]; exact List.mem_map_of_mem hf)
theorem lessN_sub (n : Int) (x : List File) : (lessN n x).Sublist x := List.filter_sublist
theorem lessN_nodup {n : Int} {x : List File} (h : (nums x).Nodup) : (nums (lessN n x)).Nodup := h.sublist ((lessN_sub n x).map _)

theorem index_l0 (g : Place) (x : List File) (hl : x.length ≤ 9223372036854775000) (f : File) (s : List File) (hf : f.Number = g.Number) : ∀ (m p : List File), x = p ++ m ++ f :: s → (∀ y ∈ m, y.Number ≠ g.Number) → Ev (fun k => slices_IndexFunc_File.l0 x (fun x0 => version_Apply_1 x0 g) k p.length) ((p ++ m).length : Int)
  | [], p, hp, hm => by
    rw [List.append_nil] at hp
    have e1 : decide ((p.length : Int) < (x.length : Int)) = true := by rw [hp]; exact lt_at p s f
    have e2 : idx x (p.length : Int) = some f := by rw [hp]; exact idx_at p f s
    have e3 : version_Apply_1 f g = some true := by simp [version_Apply_1, hf]
    refine Ev.succ ?_
    simp only [slices_IndexFunc_File.l0, e1, e2, if_true, Option.bind_some, e3, List.append_nil]
    exact Ev.ret
  | y :: m, p, hp, hm => by
    have hp' : x = p ++ y :: (m ++ f :: s) := by rw [hp]; simp
    have e1 : decide ((p.length : Int) < (x.length : Int)) = true := by rw [hp']; exact lt_at p _ y
    have e2 : idx x (p.length : Int) = some y := by rw [hp']; exact idx_at p y _
    have e3 : version_Apply_1 y g = some false := by simpa [version_Apply_1] using hm y (by simp)
    refine Ev.succ ?_
    simp only [slices_IndexFunc_File.l0, e1, e2, if_true, Option.bind_some, e3, Bool.false_eq_true, if_false, step_at p (m ++ f :: s) y (by rw [← hp', maxLen_val]; omega)]
    have := index_l0 g x hl f s hf m (p ++ [y]) (by rw [hp]; simp) (fun z hz => hm z (List.mem_cons_of_mem _ hz))
    simpa using this
theorem index_no (g : Place) (x : List File) (hl : x.length ≤ 9223372036854775000) : ∀ (m p : List File), x = p ++ m → (∀ y ∈ m, y.Number ≠ g.Number) → Ev (fun k => slices_IndexFunc_File.l0 x (fun x0 => version_Apply_1 x0 g) k p.length) (-1)
  | [], p, hp, hm => by
    have e1 : decide ((p.length : Int) < (x.length : Int)) = false := by rw [hp]; exact lt_end p
    refine Ev.succ ?_
    simp only [slices_IndexFunc_File.l0, e1, Bool.false_eq_true, if_false]
    exact Ev.ret
  | y :: m, p, hp, hm => by
    have e1 : decide ((p.length : Int) < (x.length : Int)) = true := by rw [hp]; exact lt_at p _ y
    have e2 : idx x (p.length : Int) = some y := by rw [hp]; exact idx_at p y _
    have e3 : version_Apply_1 y g = some false := by simpa [version_Apply_1] using hm y (by simp)
    refine Ev.succ ?_
    simp only [slices_IndexFunc_File.l0, e1, e2, if_true, Option.bind_some, e3, Bool.false_eq_true, if_false, step_at p m y (by rw [← hp, maxLen_val]; omega)]
    exact index_no g x hl m (p ++ [y]) (by rw [hp]; simp) (fun z hz => hm z (List.mem_cons_of_mem _ hz))

theorem cut_ok {α : Type} {l : List α} {i j : Nat} (h1 : i ≤ j) (h2 : j ≤ l.length) : cut l (i : Int) (j : Int) = some ((l.take j).drop i) := by
  unfold cut
  rw [if_pos ⟨by omega, by omega, by omega⟩]
  simp
theorem delete_at (p s : List File) (f : File) : slices_Delete_File (p ++ f :: s) (p.length : Int) ((p.length + 1 : Nat) : Int) = some (p ++ s) := by
  have hlen : (p ++ f :: s).length = p.length + 1 + s.length := by simp; omega
  have e0 : ((p.length : Int) == ((p.length + 1 : Nat) : Int)) = false := by rw [beq_eq_false_iff_ne]; omega
  have hlt : (p.length : Int) < ((p.length + 1 : Nat) : Int) := by omega
  have hsa : selfApp (p ++ f :: s) p.length (p.length + 1) = p ++ s ++ (p ++ f :: s).drop (p.length + s.length) := by
    unfold selfApp
    have : p.length + ((p ++ f :: s).length - (p.length + 1)) = p.length + s.length := by omega
    rw [this]
    congr 1
    rw [List.take_left]
    congr 1
    rw [show p.length + 1 = (p ++ [f]).length by simp, show p ++ f :: s = (p ++ [f]) ++ s by simp, List.drop_left]
  have hsl : (selfApp (p ++ f :: s) p.length (p.length + 1)).length = p.length + 1 + s.length := by
    rw [hsa]; simp; omega
  have en : p.length + ((p ++ f :: s).length - (p.length + 1)) = p.length + s.length := by omega
  have z0 : (0 : Int) = ((0 : Nat) : Int) := rfl
  have c1 : cut (p ++ f :: s) (p.length : Int) ((p.length + 1 : Nat) : Int) = some _ := cut_ok (by omega) (by omega)
  have c2 : cut (p ++ f :: s) 0 (p.length : Int) = some _ := cut_ok (i := 0) (by omega) (by omega)
  have c3 : cut (p ++ f :: s) ((p.length + 1 : Nat) : Int) ((p ++ f :: s).length : Int) = some _ := cut_ok (by omega) (by omega)
  have c4 : cut (selfApp (p ++ f :: s) p.length (p.length + 1)) 0 ((p.length + s.length : Nat) : Int) = some (p ++ s) := by
    rw [z0, cut_ok (by omega) (by omega), hsa]
    congr 1
    rw [List.drop_zero, show p.length + s.length = (p ++ s).length by simp, List.take_left]
  have c5 : cut (selfApp (p ++ f :: s) p.length (p.length + 1)) ((p ++ s).length : Int) ((p ++ f :: s).length : Int) = some _ := cut_ok (by simp) (by omega)
  have c6 : cut (clr (selfApp (p ++ f :: s) p.length (p.length + 1)) (p ++ s).length (p ++ f :: s).length (⟨0, 0, (ByteArray.mk #[]), (ByteArray.mk #[]), 0, 0⟩ : File)) 0 ((p.length + s.length : Nat) : Int) = some (p ++ s) := by
    rw [z0, cut_ok (by omega) (by unfold clr; simp only [List.length_append, List.length_take, List.length_drop, List.length_replicate, hsl]; simp; omega)]
    congr 1
    rw [List.drop_zero]
    unfold clr
    have e : List.take (p ++ s).length (selfApp (p ++ f :: s) p.length (p.length + 1)) = p ++ s := by
      rw [hsa, List.take_left]
    rw [e, List.append_assoc, show p.length + s.length = (p ++ s).length by simp, List.take_left]
  unfold slices_Delete_File
  simp only [c1, c2, c3, e0, Option.bind_some, Bool.false_eq_true, if_false, if_pos hlt, Int.toNat_natCast, en, c4, c5, c6]

/-! ### All that go -/
def gone1 (o : List (List File)) (g : Place) : Option (List (List File)) :=
  if (decide (g.Level < 0) || decide ((o.length : Int) ≤ g.Level)) = true then none else
  if g.Number ∈ nums (o.getD g.Level.toNat []) then some (o.set g.Level.toNat (lessN g.Number (o.getD g.Level.toNat []))) else none
def goneS : List (List File) → List Place → Option (List (List File))
  | o, [] => some o
  | o, g :: s => match gone1 o g with
    | none => none
    | some o' => goneS o' s
def okO (o : List (List File)) : Prop := (∀ x ∈ o, (nums x).Nodup ∧ x.length ≤ 2147483647 ∧ ∀ f ∈ x, goodF f) ∧ o.length ≤ 7
theorem okO_set {o : List (List File)} (h : okO o) {i : Nat} {y : List File} (hy : (nums y).Nodup ∧ y.length ≤ 2147483647 ∧ ∀ f ∈ y, goodF f) : okO (o.set i y) := by
  refine ⟨fun x hx => ?_, by rw [List.length_set]; exact h.2⟩
  rcases List.mem_or_eq_of_mem_set hx with hx | rfl
  · exact h.1 x hx
  · exact hy
theorem lessN_ok {x : List File} {n : Int} (h : (nums x).Nodup ∧ x.length ≤ 2147483647 ∧ ∀ f ∈ x, goodF f) : (nums (lessN n x)).Nodup ∧ (lessN n x).length ≤ 2147483647 ∧ ∀ f ∈ lessN n x, goodF f :=
  ⟨lessN_nodup h.1, Nat.le_trans (lessN_sub n x).length_le h.2.1, fun f hf => h.2.2 f ((lessN_sub n x).subset hf)⟩
/-- What stands at a level that there is. -/
theorem at_lev {o : List (List File)} {i : Int} (h : (decide (i < 0) || decide ((o.length : Int) ≤ i)) = false) : ∃ j : Nat, i = (j : Int) ∧ ∃ hj : j < o.length, o[j]? = some o[j] ∧ idx o i = some o[j] ∧ o.getD i.toNat [] = o[j] ∧ o[j] ∈ o ∧ ∀ y, upd o i y = some (o.set j y) := by
  simp only [Bool.or_eq_false_iff, decide_eq_false_iff_not, Int.not_lt, Int.not_le] at h
  obtain ⟨j, rfl⟩ := Int.eq_ofNat_of_zero_le h.1
  have hj : j < o.length := by omega
  refine ⟨j, rfl, hj, List.getElem?_eq_getElem hj, getD_idx hj, ?_, List.getElem_mem hj, fun y => ?_⟩
  · rw [List.getD_eq_getElem?_getD, Int.toNat_natCast, List.getElem?_eq_getElem hj]; rfl
  · unfold upd
    rw [if_pos ⟨by omega, by omega⟩]; rfl

theorem goneS_bad {o : List (List File)} {g : Place} {s : List Place} (hc : (decide (g.Level < 0) || decide ((o.length : Int) ≤ g.Level)) = true) : goneS o (g :: s) = none := by
  simp only [goneS, gone1, hc, if_true]
theorem goneS_no {o : List (List File)} {g : Place} {s : List Place} (hc : (decide (g.Level < 0) || decide ((o.length : Int) ≤ g.Level)) = false) (hm : g.Number ∉ nums (o.getD g.Level.toNat [])) : goneS o (g :: s) = none := by
  simp only [goneS, gone1, hc, Bool.false_eq_true, if_false, if_neg hm]
theorem goneS_go {o : List (List File)} {g : Place} {s : List Place} (hc : (decide (g.Level < 0) || decide ((o.length : Int) ≤ g.Level)) = false) (hm : g.Number ∈ nums (o.getD g.Level.toNat [])) : goneS o (g :: s) = goneS (o.set g.Level.toNat (lessN g.Number (o.getD g.Level.toNat []))) s := by
  simp only [goneS, gone1, hc, Bool.false_eq_true, if_false, if_pos hm]

theorem vgone (e : Edit) (hE : e.Gone.length ≤ 9223372036854775000) (r : List (List File) × Int) :
    ∀ (s p : List Place) (o : List (List File)), e.Gone = p ++ s → okO o → (goneS o s = none → r = ([], 160)) → (∀ o', goneS o s = some o' → okO o' → Ev (fun k => version_Apply.l2 e (fun (l_34 : (List (List File))) => version_Apply.l1 l_34 (fun (l_48 : (List (List File))) => (version_Valid k l_48).bind fun r715 => if (!r715) = true then (some ([], 160)) else (some (l_48, 0))) k l_34 0) k o' 0) r) → Ev (fun k => version_Apply.l0 e k o p.length) r
  | [], p, o, hp, ho, hn, hR => by
    have e1 : decide ((p.length : Int) < (e.Gone.length : Int)) = false := by rw [hp]; exact lt_end p
    refine Ev.succ ?_
    simp only [version_Apply.l0, e1, Bool.false_eq_true, if_false, Jn]
    exact hR o rfl ho
  | g :: s, p, o, hp, ho, hn, hR => by
    have e1 : decide ((p.length : Int) < (e.Gone.length : Int)) = true := by rw [hp]; exact lt_at p s g
    have e2 : idx e.Gone (p.length : Int) = some g := by rw [hp]; exact idx_at p g s
    refine Ev.succ ?_
    simp only [version_Apply.l0, e1, e2, if_true, Option.bind_some, step_at p s g (by rw [← hp, maxLen_val]; omega)]
    cases hc : (decide (g.Level < 0) || decide ((o.length : Int) ≤ g.Level)) with
    | true =>
      simp only [if_true]
      rw [hn (goneS_bad hc)]
      exact Ev.ret
    | false =>
      obtain ⟨j, hj, hjl, a1, a2, a3, a4, a5⟩ := at_lev hc
      have hok := ho.1 _ a4
      simp only [Bool.false_eq_true, if_false, a2, a5, Option.bind_some]
      by_cases hm : g.Number ∈ nums o[j]
      · obtain ⟨q, f, t, h1, h2, h3⟩ := first_num hm
        have hidx := index_l0 g o[j] (by omega) f t h2 q [] (by rw [h1]; simp) h3
        refine Ev.bind hidx ?_
        have hql : q.length + 1 ≤ 2147483647 := by
          have := hok.2.1
          rw [h1] at this
          simp at this
          omega
        have c1 : decide ((([] ++ q).length : Int) < 0) = false := decide_eq_false (by omega)
        have c2 : w64 ((([] ++ q).length : Int) + 1) = ((q.length + 1 : Nat) : Int) := by rw [List.nil_append, w64_of (by omega) (by omega)]; omega
        have hdel : slices_Delete_File o[j] (([] ++ q).length : Int) ((q.length + 1 : Nat) : Int) = some (q ++ t) := by rw [h1, List.nil_append]; exact delete_at q t f
        have hless : lessN g.Number o[j] = q ++ t := by
          have := lessN_at (n := g.Number) (p := q) (s := t) (f := f) (by rw [← h1]; exact hok.1) h2 h3
          rw [← this, ← h1]
        have ht : g.Level.toNat = j := by rw [hj]; simp
        have hgo := goneS_go (s := s) hc (by rw [a3]; exact hm)
        rw [a3, hless, ht] at hgo
        rw [hgo] at hn hR
        have ih := vgone e hE r s (p ++ [g]) (o.set j (q ++ t)) (by simp [hp]) (okO_set ho (by rw [← hless]; exact lessN_ok hok)) hn hR
        simp only [c1, Bool.false_eq_true, if_false, c2, hdel, Option.bind_some]
        exact ih
      · refine Ev.bind (index_no g o[j] (by omega) o[j] [] rfl (fun y hy h => hm (by rw [← h]; exact List.mem_map_of_mem hy))) ?_
        have c1 : decide ((-1 : Int) < 0) = true := by decide
        simp only [c1, if_true]
        rw [hn (goneS_no hc (by rw [a3]; exact hm))]
        exact Ev.ret

theorem rgone_l3 (o : List (List File)) (g : Place) (x : List File) (hx : idx o g.Level = some x) (hl : x.length ≤ 2147483647) : ∀ (s p : List File) (acc : List File), x = p ++ s → acc.length ≤ p.length → ∀ (J : Nat → List File → Option ((List (List File)) × Int)) r, Ev (fun k => J k (acc ++ lessN g.Number s)) r → Ev (fun k => r16_Apply.l3 o g (J k) k acc p.length) r
  | [], p, acc, hp, ha, J, r, hJ => by
    have e1 : decide ((p.length : Int) < (x.length : Int)) = false := by rw [hp]; exact lt_end p
    refine Ev.succ ?_
    simp only [r16_Apply.l3, hx, Option.bind_some, e1, Bool.false_eq_true, if_false]
    simpa [lessN] using hJ.shift
  | f :: s, p, acc, hp, ha, J, r, hJ => by
    have e1 : decide ((p.length : Int) < (x.length : Int)) = true := by rw [hp]; exact lt_at p s f
    have e2 : idx x (p.length : Int) = some f := by rw [hp]; exact idx_at p f s
    have hpl : p.length + 1 ≤ x.length := by rw [hp]; simp
    refine Ev.succ ?_
    simp only [r16_Apply.l3, hx, Option.bind_some, e1, e2, if_true, Jn, step_at p s f (by rw [← hp, maxLen_val]; omega)]
    by_cases h : (f.Number != g.Number) = true
    · have e : lessN g.Number (f :: s) = f :: lessN g.Number s := by simp only [lessN, List.filter_cons, if_pos h]
      rw [e] at hJ
      simp only [h, if_true, push_ok (show acc.length < 3518437208730 by omega), Option.bind_some]
      exact rgone_l3 o g x hx hl s (p ++ [f]) (acc ++ [f]) (by simp [hp]) (by simp; omega) (fun k => J (k + 1)) r (by simpa using hJ.shift)
    · have e : lessN g.Number (f :: s) = lessN g.Number s := by simp only [lessN, List.filter_cons, if_neg h]
      rw [e] at hJ
      simp only [h, if_false]
      exact rgone_l3 o g x hx hl s (p ++ [f]) acc (by simp [hp]) (by simp; omega) (fun k => J (k + 1)) r hJ.shift
theorem rgone (e : Edit) (hE : e.Gone.length ≤ 9223372036854775000) (r : List (List File) × Int) :
    ∀ (s p : List Place) (o : List (List File)) (J : Nat → List (List File) → Option ((List (List File)) × Int)), e.Gone = p ++ s → okO o → (goneS o s = none → r = ([], 160)) → (∀ o', goneS o s = some o' → okO o' → Ev (fun k => J k o') r) → Ev (fun k => r16_Apply.l2 e (J k) k o p.length) r
  | [], p, o, J, hp, ho, hn, hR => by
    have e1 : decide ((p.length : Int) < (e.Gone.length : Int)) = false := by rw [hp]; exact lt_end p
    refine Ev.succ ?_
    simp only [r16_Apply.l2, e1, Bool.false_eq_true, if_false]
    exact (hR o rfl ho).shift
  | g :: s, p, o, J, hp, ho, hn, hR => by
    have e1 : decide ((p.length : Int) < (e.Gone.length : Int)) = true := by rw [hp]; exact lt_at p s g
    have e2 : idx e.Gone (p.length : Int) = some g := by rw [hp]; exact idx_at p g s
    refine Ev.succ ?_
    simp only [r16_Apply.l2, e1, e2, if_true, Option.bind_some, Jn, step_at p s g (by rw [← hp, maxLen_val]; omega)]
    cases hc : (decide (g.Level < 0) || decide ((o.length : Int) ≤ g.Level)) with
    | true =>
      simp only [if_true]
      rw [hn (goneS_bad hc)]
      exact Ev.ret
    | false =>
      obtain ⟨j, hj, hjl, a1, a2, a3, a4, a5⟩ := at_lev hc
      have hok := ho.1 _ a4
      simp only [Bool.false_eq_true, if_false]
      refine rgone_l3 o g o[j] a2 hok.2.1 o[j] [] [] rfl (by simp) (fun k l_838 => (idx o g.Level).bind fun x4673 => if ((l_838.length : Int) == (x4673.length : Int)) = true then (some ([], 160)) else ((idx o g.Level).bind fun x4680 => (upd o g.Level l_838).bind fun l4686 => r16_Apply.l2 e (J (k + 1)) k l4686 ((p ++ [g]).length : Int))) _ ?_
      rw [List.nil_append]
      simp only [a2, a5, Option.bind_some]
      by_cases hm : g.Number ∈ nums o[j]
      · have hne : (((lessN g.Number o[j]).length : Int) == (o[j].length : Int)) = false := by
          rw [beq_eq_false_iff_ne, ne_eq, Int.natCast_inj, lessN_len]
          exact fun h => h hm
        have ht : g.Level.toNat = j := by rw [hj]; simp
        have hgo := goneS_go (s := s) hc (by rw [a3]; exact hm)
        rw [a3, ht] at hgo
        rw [hgo] at hn hR
        have ih := rgone e hE r s (p ++ [g]) (o.set j (lessN g.Number o[j])) (fun k => J (k + 1)) (by simp [hp]) (okO_set ho (lessN_ok hok)) hn (fun o' h1 h2 => (hR o' h1 h2).shift)
        simp only [hne, Bool.false_eq_true, if_false]
        exact ih
      · have heq : (((lessN g.Number o[j]).length : Int) == (o[j].length : Int)) = true := by
          rw [beq_iff_eq, Int.natCast_inj, lessN_len]
          exact hm
        simp only [heq, if_true]
        rw [hn (goneS_no hc (by rw [a3]; exact hm))]
        exact Ev.ret
end Go.Proofs.Ytbbepmmelpabbaa.Mo
