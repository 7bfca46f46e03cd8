/- Apply: both ways come to the same levels. Part three: what comes, and the whole. -/
import Derived.Test.YtbbepmmelpabbaaVvq
set_option linter.unusedVariables false
set_option linter.unusedSectionVars false
set_option linter.unusedSimpArgs false
set_option maxRecDepth 100000
namespace Go.Proofs.Ytbbepmmelpabbaa.Mo
open Go Go.Proofs.Ytbbepmmelpabbaa.Sy

/-! ### Sorted, each level -/
def RelG : Nat → List (List File) → List (List File) → Prop
  | _, [], [] => True
  | i, x :: u, y :: v => Srt (ltK (i : Int)) y ∧ Sst (ltK (i : Int)) x y ∧ RelG (i + 1) u v
  | _, _, _ => False
theorem RelG.len : ∀ {i : Nat} {u v : List (List File)}, RelG i u v → u.length = v.length
  | _, [], [], _ => rfl
  | _, x :: u, y :: v, h => by simp [RelG.len h.2.2]
  | _, [], y :: v, h => h.elim
  | _, x :: u, [], h => h.elim
theorem RelG.uniq : ∀ {i : Nat} {u v v' : List (List File)}, RelG i u v → RelG i u v' → v = v'
  | _, [], [], [], _, _ => rfl
  | i, x :: u, y :: v, y' :: v', h, h' => by
    rw [RelG.uniq h.2.2 h'.2.2, Sst.uniq (wo_key i) h.1 h'.1 (h.2.1.symm.trans h'.2.1)]
  | _, [], y :: v, _, h, _ => h.elim
  | _, x :: u, [], _, h, _ => h.elim
  | _, [], [], y :: v, _, h => h.elim
  | _, x :: u, y :: v, [], _, h => h.elim
theorem RelG.at : ∀ {i j : Nat} {u v : List (List File)} {x : List File}, RelG i u v → u[j]? = some x → ∃ y, v[j]? = some y ∧ Srt (ltK ((i + j : Nat) : Int)) y ∧ Sst (ltK ((i + j : Nat) : Int)) x y
  | i, 0, x :: u, y :: v, z, h, hj => by
    have : x = z := by simpa using hj
    subst this
    exact ⟨y, rfl, h.1, h.2.1⟩
  | i, j + 1, x :: u, y :: v, z, h, hj => by
    obtain ⟨y', h1, h2, h3⟩ := RelG.at (j := j) h.2.2 (by simpa using hj)
    rw [show i + 1 + j = i + (j + 1) by omega] at h2 h3
    exact ⟨y', by simpa using h1, h2, h3⟩
  | _, _, [], [], _, _, h => by simp at h
  | _, _, [], y :: v, _, h, _ => h.elim
  | _, _, x :: u, [], _, h, _ => h.elim
theorem RelG.set : ∀ {i j : Nat} {u v : List (List File)} {x y : List File}, RelG i u v → Srt (ltK ((i + j : Nat) : Int)) y → Sst (ltK ((i + j : Nat) : Int)) x y → RelG i (u.set j x) (v.set j y)
  | i, 0, x :: u, y :: v, _, _, h, h1, h2 => ⟨h1, h2, h.2.2⟩
  | i, j + 1, x :: u, y :: v, _, _, h, h1, h2 => ⟨h.1, h.2.1, RelG.set h.2.2 (by rw [show i + 1 + j = i + (j + 1) by omega]; exact h1) (by rw [show i + 1 + j = i + (j + 1) by omega]; exact h2)⟩
  | _, _, [], [], _, _, h, _, _ => by simpa using h
  | _, _, [], y :: v, _, _, h, _, _ => h.elim
  | _, _, x :: u, [], _, _, h, _, _ => h.elim
/-- A valid level stands in its order, each file above the one ahead of it. -/
theorem okF_strict {i : Nat} : ∀ {s : List File} {pv : Option File}, okF i pv s = true → (∀ q, pv = some q → slt q.Least q.Limit → ∀ f ∈ s, ltK (i : Int) q f) ∧ s.Pairwise fun a b => ltK (i : Int) a b
  | [], pv, _ => ⟨fun _ _ _ f h => absurd h (by simp), List.Pairwise.nil⟩
  | f :: s, pv, h => by
    simp only [okF, Bool.and_eq_true, Bool.not_eq_true'] at h
    obtain ⟨hm, hb, hs⟩ := h
    have hff : slt f.Least f.Limit := (may_iff.1 hm).2.2.2.1
    obtain ⟨h1, h2⟩ := okF_strict hs
    refine ⟨fun q hq hql g hg => ?_, List.pairwise_cons.2 ⟨fun g hg => h1 f rfl hff g hg, h2⟩⟩
    subst hq
    have hqf : ltK (i : Int) q f := by
      rw [ltK_iff]
      by_cases hi : i = 0
      · subst hi
        rw [if_pos (by rfl)]
        simp only [badO, bad, if_true] at hb
        simpa using hb
      · rw [if_neg (by omega)]
        simp only [badO, bad, if_neg hi, sLe_dec] at hb
        exact slt_of_lt_le hql (by simpa using hb)
    rcases List.mem_cons.1 hg with rfl | hg
    · exact hqf
    · have h3 := h1 f rfl hff g hg
      exact (wo_key (i : Int)).lt_le hqf ((wo_key (i : Int)).asymm _ _ h3)
theorem RelG.of_okL : ∀ {i : Nat} {l : List (List File)}, okL i l = true → RelG i l l
  | _, [], _ => trivial
  | i, x :: l, h => by
    simp only [okL, Bool.and_eq_true] at h
    exact ⟨(okF_strict h.1).2.imp fun {a b} hab => (wo_key (i : Int)).asymm _ _ hab, Sst.refl x, RelG.of_okL h.2⟩
theorem goneS_rel : ∀ {s : List Place} {o o' : List (List File)}, goneS o s = some o' → RelG 0 o o → RelG 0 o' o'
  | [], o, o', h, hr => by
    have : o = o' := by simpa [goneS] using h
    subst this
    exact hr
  | g :: s, o, o', h, hr => by
    cases hc : (decide (g.Level < 0) || decide ((o.length : Int) ≤ g.Level)) with
    | true => rw [goneS_bad hc] at h; cases h
    | false =>
      obtain ⟨j, hj, hjl, a1, a2, a3, a4, a5⟩ := at_lev hc
      by_cases hm : g.Number ∈ nums (o.getD g.Level.toNat [])
      · rw [goneS_go hc hm] at h
        refine goneS_rel h ?_
        have ht : g.Level.toNat = j := by rw [hj]; simp
        rw [a3, ht]
        obtain ⟨y, h1, h2, h3⟩ := hr.at a1
        have : o[j] = y := Option.some.inj (a1.symm.trans h1)
        rw [← this] at h2
        exact hr.set (h2.sublist (lessN_sub _ _)) (Sst.refl _)
      · rw [goneS_no hc hm] at h; cases h

/-! ### All that come -/
def comeV : List (List File) → List Added → Option (List (List File))
  | o, [] => some o
  | o, c :: s => if (decide (c.Level < 0) || decide ((o.length : Int) ≤ c.Level)) = true then none else comeV (o.set c.Level.toNat (o.getD c.Level.toNat [] ++ [c.File])) s
theorem comeV_bad {o : List (List File)} {g : Added} {s : List Added} (hc : (decide (g.Level < 0) || decide ((o.length : Int) ≤ g.Level)) = true) : comeV o (g :: s) = none := by
  simp only [comeV, hc, if_true]
theorem comeV_go {o : List (List File)} {g : Added} {s : List Added} (hc : (decide (g.Level < 0) || decide ((o.length : Int) ≤ g.Level)) = false) : comeV o (g :: s) = comeV (o.set g.Level.toNat (o.getD g.Level.toNat [] ++ [g.File])) s := by
  simp only [comeV, hc, Bool.false_eq_true, if_false]
def okC (n : Nat) (o : List (List File)) : Prop := (∀ x ∈ o, x.length ≤ 2147483647 + n ∧ ∀ f ∈ x, goodF f) ∧ o.length ≤ 7
def goodE (e : Edit) : Prop := e.Gone.length ≤ 8796093022207 ∧ e.Come.length ≤ 1954687338268 ∧ ∀ c ∈ e.Come, goodF c.File
theorem okC_set {n : Nat} {o : List (List File)} (h : okC n o) {j : Nat} {x : List File} {f : File} (hx : x ∈ o) (hf : goodF f) : okC (n + 1) (o.set j (x ++ [f])) := by
  refine ⟨fun y hy => ?_, by rw [List.length_set]; exact h.2⟩
  rcases List.mem_or_eq_of_mem_set hy with hy | rfl
  · exact ⟨by have := (h.1 y hy).1; omega, (h.1 y hy).2⟩
  · have := h.1 x hx
    refine ⟨by rw [List.length_append, List.length_singleton]; omega, fun g hg => ?_⟩
    rcases List.mem_append.1 hg with hg | hg
    · exact this.2 g hg
    · simp at hg; subst hg; exact hf

theorem vcome (e : Edit) (hE : goodE e) (J : Nat → List (List File) → Option ((List (List File)) × Int)) (r : List (List File) × Int) :
    ∀ (s p : List Added) (o : List (List File)) (J : Nat → List (List File) → Option ((List (List File)) × Int)), e.Come = p ++ s → okC p.length o → (comeV o s = none → r = ([], 160)) → (∀ o', comeV o s = some o' → okC e.Come.length o' → Ev (fun k => J k o') r) → Ev (fun k => version_Apply.l2 e (J k) k o p.length) r
  | [], p, o, J, hp, ho, hn, hR => by
    have e1 : decide ((p.length : Int) < (e.Come.length : Int)) = false := by rw [hp]; exact lt_end p
    have e2 : e.Come.length = p.length := by rw [hp]; simp
    refine Ev.succ ?_
    simp only [version_Apply.l2, e1, Bool.false_eq_true, if_false]
    exact (hR o rfl (by rw [e2]; exact ho)).shift
  | g :: s, p, o, J, hp, ho, hn, hR => by
    have e1 : decide ((p.length : Int) < (e.Come.length : Int)) = true := by rw [hp]; exact lt_at p s g
    have e2 : idx e.Come (p.length : Int) = some g := by rw [hp]; exact idx_at p g s
    have hpl : p.length + 1 ≤ e.Come.length := by rw [hp]; simp
    have hEc := hE.2.1
    have hgf : goodF g.File := hE.2.2 g (by rw [hp]; simp)
    refine Ev.succ ?_
    simp only [version_Apply.l2, e1, e2, if_true, Option.bind_some, step_at p s g (by rw [← hp, maxLen_val]; omega)]
    cases hc : (decide (g.Level < 0) || decide ((o.length : Int) ≤ g.Level)) with
    | true =>
      simp only [if_true]
      rw [hn (comeV_bad hc)]
      exact Ev.ret
    | false =>
      obtain ⟨j, hj, hjl, a1, a2, a3, a4, a5⟩ := at_lev hc
      have hok := ho.1 _ a4
      have ht : g.Level.toNat = j := by rw [hj]; simp
      have hgo := comeV_go (s := s) hc
      rw [a3, ht] at hgo
      rw [hgo] at hn hR
      simp only [Bool.false_eq_true, if_false, a2, a5, Option.bind_some, push_ok (show o[j].length < 3518437208730 by omega)]
      exact vcome e hE J r s (p ++ [g]) (o.set j (o[j] ++ [g.File])) (fun k => J (k + 1)) (by simp [hp]) (by rw [List.length_append, List.length_singleton]; exact okC_set ho a4 hgf) hn (fun o' h1 h2 => (hR o' h1 h2).shift)
theorem rcome (e : Edit) (hE : goodE e) (r : List (List File) × Int) :
    ∀ (s p : List Added) (o o' : List (List File)) (J : Nat → List (List File) → Option ((List (List File)) × Int)), e.Come = p ++ s → okC p.length o → RelG 0 o o' → (comeV o s = none → r = ([], 160)) → (∀ o1 o1', comeV o s = some o1 → okC e.Come.length o1 → RelG 0 o1 o1' → Ev (fun k => J k o1') r) → Ev (fun k => r16_Apply.l1 e (J k) k o' p.length) r
  | [], p, o, o', J, hp, ho, hr, hn, hR => by
    have e1 : decide ((p.length : Int) < (e.Come.length : Int)) = false := by rw [hp]; exact lt_end p
    have e2 : e.Come.length = p.length := by rw [hp]; simp
    refine Ev.succ ?_
    simp only [r16_Apply.l1, e1, Bool.false_eq_true, if_false]
    exact (hR o o' rfl (by rw [e2]; exact ho) hr).shift
  | g :: s, p, o, o', J, hp, ho, hr, hn, hR => by
    have e1 : decide ((p.length : Int) < (e.Come.length : Int)) = true := by rw [hp]; exact lt_at p s g
    have e2 : idx e.Come (p.length : Int) = some g := by rw [hp]; exact idx_at p g s
    have hpl : p.length + 1 ≤ e.Come.length := by rw [hp]; simp
    have hEc := hE.2.1
    have hgf : goodF g.File := hE.2.2 g (by rw [hp]; simp)
    have hlen := hr.len
    refine Ev.succ ?_
    simp only [r16_Apply.l1, e1, e2, if_true, Option.bind_some, step_at p s g (by rw [← hp, maxLen_val]; omega), ← hlen]
    cases hc : (decide (g.Level < 0) || decide ((o.length : Int) ≤ g.Level)) with
    | true =>
      simp only [if_true]
      rw [hn (comeV_bad hc)]
      exact Ev.ret
    | false =>
      obtain ⟨j, hj, hjl, a1, a2, a3, a4, a5⟩ := at_lev hc
      obtain ⟨j', hj', hjl', b1, b2, b3, b4, b5⟩ := at_lev (o := o') (by rw [← hlen]; exact hc)
      have hjj : j' = j := by omega
      subst hjj
      have hok := ho.1 _ a4
      have ht : g.Level.toNat = j' := by rw [hj]; simp
      have hgo := comeV_go (s := s) hc
      rw [a3, ht] at hgo
      rw [hgo] at hn hR
      obtain ⟨y, h1, h2, h3⟩ := hr.at a1
      have hy : o'[j'] = y := Option.some.inj (b1.symm.trans h1)
      rw [← hy] at h2 h3
      rw [Nat.zero_add] at h2 h3
      have hl3 := h3.len
      obtain ⟨z, z1, z2, z3⟩ := put_ev (j' : Int) (by omega) g.File o'[j'] (by omega) h2
      simp only [Bool.false_eq_true, if_false, b2, b5, Option.bind_some]
      rw [← hj] at z3
      refine Ev.bind z3 ?_
      refine rcome e hE r s (p ++ [g]) (o.set j' (o[j'] ++ [g.File])) (o'.set j' z) (fun k => J (k + 1)) (by simp [hp]) (by rw [List.length_append, List.length_singleton]; exact okC_set ho a4 hgf) ?_ hn (fun o1 o1' g1 g2 g3 => (hR o1 o1' g1 g2 g3).shift)
      refine hr.set (by rw [Nat.zero_add]; exact z1) ?_
      rw [Nat.zero_add]
      exact (h3.app (Sst.refl [g.File])).trans z2
theorem vsort (o : List (List File)) (n : Nat) (hn : n ≤ 1954687338268) (ho : okC n o) : ∀ (s p q : List (List File)), o = p ++ s → q.length = p.length → ∃ s', RelG p.length s s' ∧ ∀ (J : Nat → List (List File) → Option ((List (List File)) × Int)) r, Ev (fun k => J k (q ++ s')) r → Ev (fun k => version_Apply.l1 o (J k) k (q ++ s) p.length) r
  | [], p, q, hp, hq => by
    have e1 : decide ((p.length : Int) < (o.length : Int)) = false := by rw [hp]; exact lt_end p
    refine ⟨[], trivial, fun J r hJ => Ev.succ ?_⟩
    simp only [version_Apply.l1, e1, Bool.false_eq_true, if_false]
    exact hJ.shift
  | x :: s, p, q, hp, hq => by
    have e1 : decide ((p.length : Int) < (o.length : Int)) = true := by rw [hp]; exact lt_at p s x
    have hx := ho.1 x (by rw [hp]; simp)
    have ho7 := ho.2
    obtain ⟨y, y1, y2, y3⟩ := sorted_key (p.length : Int) x (by omega)
    obtain ⟨s', h1, h2⟩ := vsort o n hn ho s (p ++ [x]) (q ++ [y]) (by simp [hp]) (by simp [hq])
    rw [List.length_append, List.length_singleton] at h1
    refine ⟨y :: s', ⟨y1, y2, h1⟩, fun J r hJ => Ev.succ ?_⟩
    have e2 : idx (q ++ x :: s) (p.length : Int) = some x := by rw [← hq]; exact idx_at q x s
    have e3 : upd (q ++ x :: s) (p.length : Int) y = some (q ++ y :: s) := by rw [← hq]; exact upd_at q s x y
    simp only [version_Apply.l1, e1, if_true, e2, Option.bind_some, step_at p s x (by rw [← hp, maxLen_val]; omega)]
    refine Ev.bind y3 ?_
    simp only [e3, Option.bind_some]
    have := h2 (fun k => J (k + 1)) r (by simpa using hJ.shift)
    simpa using this

/-! ### Copies -/
theorem rep_at (p : List (List File)) (n : Nat) (y : List File) : upd (p ++ List.replicate (n + 1) []) (p.length : Int) y = some (p ++ [y] ++ List.replicate n []) := by
  rw [List.replicate_succ, upd_at, List.append_assoc]; rfl
theorem vcopy (l : List (List File)) (hg : goodL l) (h7 : l.length ≤ 7) : ∀ (s p : List (List File)), l = p ++ s → Ev (fun k => version_copied.l0 l k (p ++ List.replicate s.length []) p.length) l
  | [], p, hp => by
    have e1 : decide ((p.length : Int) < (l.length : Int)) = false := by rw [hp]; exact lt_end p
    refine Ev.succ ?_
    simp only [version_copied.l0, e1, Bool.false_eq_true, if_false, List.length_nil, List.replicate_zero]
    rw [← hp]
    exact Ev.ret
  | x :: s, p, hp => by
    have e1 : decide ((p.length : Int) < (l.length : Int)) = true := by rw [hp]; exact lt_at p s x
    have hx := (hg.1 x (by rw [hp]; simp)).1
    refine Ev.succ ?_
    have e2 : idx (p ++ List.replicate (s.length + 1) ([] : List File)) (p.length : Int) = some [] := by rw [List.replicate_succ]; exact idx_at p [] _
    simp only [version_copied.l0, e1, if_true, idx_l hp, Option.bind_some, slices_Clone_File, pushN_ok (show ([] : List File).length + x.length ≤ 3518437208730 by rw [List.length_nil]; omega), List.nil_append, List.length_cons, e2, rep_at, step_at p s x (by rw [← hp, maxLen_val]; omega)]
    exact vcopy l hg h7 s (p ++ [x]) (by simp [hp])
theorem mkS_ok {n : Nat} (h : n ≤ 7) : mkS 11728124029610 (n : Int) ([] : List File) = some (List.replicate n []) := by
  unfold mkS
  rw [if_pos ⟨by omega, by omega⟩, Int.toNat_natCast]
theorem vcopied_ev (l : List (List File)) (hg : goodL l) (h7 : l.length ≤ 7) : Ev (fun k => version_copied k l) l := by
  unfold version_copied
  refine Ev.bind0 (mkS_ok h7) ?_
  exact vcopy l hg h7 l [] rfl
theorem rcopy (l : List (List File)) (hg : goodL l) (h7 : l.length ≤ 7) (e : Edit) (r : List (List File) × Int) (hR : Ev (fun k => r16_Apply.l2 e (fun (l_433 : (List (List File))) => r16_Apply.l1 e (fun (l_447 : (List (List File))) => (r16_Valid k l_447).bind fun r2555 => if (!r2555) = true then (some ([], 160)) else (some (l_447, 0))) k l_433 0) k l 0) r) : ∀ (s p : List (List File)), l = p ++ s → Ev (fun k => r16_Apply.l0 l e k (p ++ List.replicate s.length []) p.length) r
  | [], p, hp => by
    have e1 : decide ((p.length : Int) < (l.length : Int)) = false := by rw [hp]; exact lt_end p
    refine Ev.succ ?_
    simp only [r16_Apply.l0, e1, Bool.false_eq_true, if_false, List.length_nil, List.replicate_zero, Jn]
    rw [← hp]
    exact hR
  | x :: s, p, hp => by
    have e1 : decide ((p.length : Int) < (l.length : Int)) = true := by rw [hp]; exact lt_at p s x
    have hx := (hg.1 x (by rw [hp]; simp)).1
    refine Ev.succ ?_
    have e2 : idx (p ++ List.replicate (s.length + 1) ([] : List File)) (p.length : Int) = some [] := by rw [List.replicate_succ]; exact idx_at p [] _
    simp only [r16_Apply.l0, e1, if_true, idx_l hp, Option.bind_some, pushN_ok (show ([] : List File).length + x.length ≤ 3518437208730 by rw [List.length_nil]; omega), List.nil_append, List.length_cons, e2, rep_at, step_at p s x (by rw [← hp, maxLen_val]; omega)]
    exact rcopy l hg h7 e r hR s (p ++ [x]) (by simp [hp])

/-! ### The whole -/
def Applied (l : List (List File)) (e : Edit) (r : List (List File) × Int) : Prop :=
  (validB l = false ∧ r = ([], 2)) ∨ (validB l = true ∧ ((goneS l e.Gone = none ∧ r = ([], 160)) ∨ ∃ o, goneS l e.Gone = some o ∧ ((comeV o e.Come = none ∧ r = ([], 160)) ∨ ∃ o1 o2, comeV o e.Come = some o1 ∧ RelG 0 o1 o2 ∧ goodL o2 ∧ r = if validB o2 = true then (o2, 0) else ([], 160))))
theorem RelG_good : ∀ {i : Nat} {u v : List (List File)}, RelG i u v → goodL u → goodL v := fun {i u v} h hg => by
  have aux : ∀ {i : Nat} {u v : List (List File)}, RelG i u v → (∀ y ∈ u, y.length ≤ 2199023255552 ∧ ∀ f ∈ y, goodF f) → ∀ y ∈ v, y.length ≤ 2199023255552 ∧ ∀ f ∈ y, goodF f := by
    intro i u
    induction u generalizing i with
    | nil =>
      intro v h hg y hy
      cases v with
      | nil => simp at hy
      | cons => exact h.elim
    | cons x u ih =>
      intro v h hg y hy
      cases v with
      | nil => exact h.elim
      | cons z v =>
        rcases List.mem_cons.1 hy with rfl | hy
        · have := hg x (by simp)
          refine ⟨by rw [← h.2.1.len]; exact this.1, fun f hf => this.2 f (h.2.1.1.mem_iff.2 hf)⟩
        · exact ih h.2.2 (fun z hz => hg z (List.mem_cons_of_mem _ hz)) y hy
  exact ⟨aux h hg.1, by rw [← h.len]; exact hg.2⟩
theorem okO_of {l : List (List File)} (hg : goodL l) (hv : validB l = true) : okO l := by
  refine ⟨fun x hx => ⟨?_, ?_, (hg.1 x hx).2⟩, (validB_iff.1 hv).2.1⟩
  · have h := (validB_iff.1 hv).2.2.2
    obtain ⟨a, b, rfl⟩ := List.append_of_mem hx
    rw [List.flatten_append, List.flatten_cons] at h
    unfold nums at h
    rw [List.map_append, List.map_append] at h
    exact (List.nodup_append.1 (List.nodup_append.1 h).2.1).1
  · exact Nat.le_trans (len_le_flatten hx) (valid_len hv)
theorem goneS_ok : ∀ {s : List Place} {o o' : List (List File)}, goneS o s = some o' → okO o → okO o'
  | [], o, o', h, hr => by
    have : o = o' := by simpa [goneS] using h
    subst this
    exact hr
  | g :: s, o, o', h, hr => by
    cases hc : (decide (g.Level < 0) || decide ((o.length : Int) ≤ g.Level)) with
    | true => rw [goneS_bad hc] at h; cases h
    | false =>
      obtain ⟨j, hj, hjl, a1, a2, a3, a4, a5⟩ := at_lev hc
      by_cases hm : g.Number ∈ nums (o.getD g.Level.toNat [])
      · rw [goneS_go hc hm, a3] at h
        exact goneS_ok h (okO_set hr (lessN_ok (hr.1 _ a4)))
      · rw [goneS_no hc hm] at h; cases h
theorem comeV_ok {e : Edit} (he : goodE e) {o1 : List (List File)} : ∀ {s p : List Added} {o : List (List File)}, e.Come = p ++ s → okC p.length o → comeV o s = some o1 → okC e.Come.length o1
  | [], p, o, hp, ho, h => by
    have : o = o1 := by simpa [comeV] using h
    subst this
    rw [hp, List.append_nil]
    exact ho
  | g :: s, p, o, hp, ho, h => by
    cases hc : (decide (g.Level < 0) || decide ((o.length : Int) ≤ g.Level)) with
    | true => rw [comeV_bad hc] at h; cases h
    | false =>
      obtain ⟨j, hj, hjl, a1, a2, a3, a4, a5⟩ := at_lev hc
      rw [comeV_go hc, a3] at h
      exact comeV_ok he (p := p ++ [g]) (by simp [hp]) (by rw [List.length_append, List.length_singleton]; exact okC_set ho a4 (he.2.2 g (by rw [hp]; simp))) h
theorem apply_ev (l : List (List File)) (hg : goodL l) (e : Edit) (he : goodE e) : ∃ r, Applied l e r ∧ Ev (fun k => version_Apply k l e) r ∧ Ev (fun k => r16_Apply k l e) r := by
  cases hv : validB l with
  | false =>
    refine ⟨([], 2), .inl ⟨hv, rfl⟩, ?_, ?_⟩
    · unfold version_Apply
      refine Ev.bind (valid_ev l hg) ?_
      simp only [hv, Bool.not_false, if_true]
      exact Ev.ret
    · unfold r16_Apply
      refine Ev.bind (rvalid_ev l hg) ?_
      simp only [hv, Bool.not_false, if_true]
      exact Ev.ret
  | true =>
    have h7 := (validB_iff.1 hv).2.1
    have hok := okO_of hg hv
    have hrel : RelG 0 l l := RelG.of_okL (validB_iff.1 hv).2.2.1
    have key : ∀ r, Applied l e r → (goneS l e.Gone = none → r = ([], 160)) → (∀ o', goneS l e.Gone = some o' → comeV o' e.Come = none → r = ([], 160)) → (∀ o' o1 o2, goneS l e.Gone = some o' → comeV o' e.Come = some o1 → RelG 0 o1 o2 → r = if validB o2 = true then (o2, 0) else ([], 160)) → ∃ r, Applied l e r ∧ Ev (fun k => version_Apply k l e) r ∧ Ev (fun k => r16_Apply k l e) r := by
      intro r hA h1 h2 h3
      have hend : ∀ o1 o2, okC e.Come.length o1 → RelG 0 o1 o2 → (r = if validB o2 = true then (o2, 0) else ([], 160)) → Ev (fun k => (version_Valid k o2).bind fun r715 => if (!r715) = true then (some ([], 160)) else (some (o2, 0))) r ∧ Ev (fun k => (r16_Valid k o2).bind fun r715 => if (!r715) = true then (some ([], 160)) else (some (o2, 0))) r := by
        intro o1 o2 hc hr hre
        have hg2 : goodL o2 := RelG_good hr ⟨fun y hy => ⟨by have := (hc.1 y hy).1; have := he.2.1; omega, (hc.1 y hy).2⟩, by have := hc.2; omega⟩
        refine ⟨Ev.bind (valid_ev o2 hg2) ?_, Ev.bind (rvalid_ev o2 hg2) ?_⟩ <;> cases hv2 : validB o2 <;> simp only [hv2, Bool.not_false, Bool.not_true, Bool.false_eq_true, if_false, if_true] at hre ⊢ <;> rw [hre] <;> exact Ev.ret
      refine ⟨r, hA, ?_, ?_⟩
      · unfold version_Apply
        refine Ev.bind (valid_ev l hg) ?_
        simp only [hv, Bool.not_true, Bool.false_eq_true, if_false]
        refine Ev.bind (vcopied_ev l hg h7) ?_
        refine vgone e (by have := he.1; omega) r e.Gone [] l rfl hok h1 (fun o' g1 g2 => ?_)
        refine vcome e he (fun _ _ => none) r e.Come [] o' (fun k l_34 => version_Apply.l1 l_34 (fun (l_48 : (List (List File))) => (version_Valid k l_48).bind fun r715 => if (!r715) = true then (some ([], 160)) else (some (l_48, 0))) k l_34 0) rfl ⟨fun x hx => ⟨by have := (g2.1 x hx).2.1; simpa using this, (g2.1 x hx).2.2⟩, g2.2⟩ (h2 o' g1) (fun o1 c1 c2 => ?_)
        obtain ⟨o2, k1, k2⟩ := vsort o1 _ he.2.1 c2 o1 [] [] rfl rfl
        exact k2 (fun k l_48 => (version_Valid k l_48).bind fun r715 => if (!r715) = true then (some ([], 160)) else (some (l_48, 0))) r (hend o1 o2 c2 k1 (h3 o' o1 o2 g1 c1 k1)).1
      · unfold r16_Apply
        refine Ev.bind (rvalid_ev l hg) ?_
        simp only [hv, Bool.not_true, Bool.false_eq_true, if_false]
        refine Ev.bind0 (mkS_ok h7) ?_
        refine rcopy l hg h7 e r ?_ l [] rfl
        refine rgone e (by have := he.1; omega) r e.Gone [] l (fun k l_433 => r16_Apply.l1 e (fun (l_447 : (List (List File))) => (r16_Valid k l_447).bind fun r2555 => if (!r2555) = true then (some ([], 160)) else (some (l_447, 0))) k l_433 0) rfl hok h1 (fun o' g1 g2 => ?_)
        exact rcome e he r e.Come [] o' o' (fun k l_447 => (r16_Valid k l_447).bind fun r2555 => if (!r2555) = true then (some ([], 160)) else (some (l_447, 0))) rfl ⟨fun x hx => ⟨by have := (g2.1 x hx).2.1; simpa using this, (g2.1 x hx).2.2⟩, g2.2⟩ (goneS_rel g1 hrel) (h2 o' g1) (fun o1 o2 c1 c2 c3 => (hend o1 o2 c2 c3 (h3 o' o1 o2 g1 c1 c3)).2)
    cases hgo : goneS l e.Gone with
    | none =>
      exact key ([], 160) (.inr ⟨hv, .inl ⟨hgo, rfl⟩⟩) (fun _ => rfl) (fun o' h _ => by cases hgo.symm.trans h) (fun o' _ _ h _ _ => by cases hgo.symm.trans h)
    | some o =>
      have hoo := goneS_ok hgo hok
      have hoc : okC ([] : List Added).length o := ⟨fun x hx => ⟨by have := (hoo.1 x hx).2.1; simpa using this, (hoo.1 x hx).2.2⟩, hoo.2⟩
      cases hco : comeV o e.Come with
      | none =>
        exact key ([], 160) (.inr ⟨hv, .inr ⟨o, hgo, .inl ⟨hco, rfl⟩⟩⟩) (fun h => by cases hgo.symm.trans h) (fun _ _ _ => rfl) (fun o' _ _ h h' _ => by
          rw [hgo] at h; injection h with h; subst h; cases hco.symm.trans h')
      | some o1 =>
        have hc1 := comeV_ok he (p := []) rfl hoc hco
        obtain ⟨o2, k1, _⟩ := vsort o1 _ he.2.1 hc1 o1 [] [] rfl rfl
        have k1' : RelG 0 o1 o2 := k1
        have hg2 : goodL o2 := RelG_good k1' ⟨fun y hy => ⟨by have := (hc1.1 y hy).1; have := he.2.1; omega, (hc1.1 y hy).2⟩, by have := hc1.2; omega⟩
        refine key (if validB o2 = true then (o2, 0) else ([], 160)) (.inr ⟨hv, .inr ⟨o, hgo, .inr ⟨o1, o2, hco, k1', hg2, rfl⟩⟩⟩) (fun h => by cases hgo.symm.trans h) (fun o' h h' => by
          rw [hgo] at h; injection h with h; subst h; cases hco.symm.trans h') (fun o' p1 p2 h h' hr => ?_)
        rw [hgo] at h
        injection h with h
        subst h
        rw [hco] at h'
        injection h' with h'
        subst h'
        rw [RelG.uniq hr k1']
end Go.Proofs.Ytbbepmmelpabbaa.Mo
