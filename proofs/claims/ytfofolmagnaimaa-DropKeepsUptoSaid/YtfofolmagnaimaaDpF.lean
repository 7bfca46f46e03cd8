import Derived.Test.YtfofolmagnaimaaDpE
set_option linter.unusedVariables false
set_option linter.unusedSectionVars false
set_option linter.unusedSimpArgs false
set_option maxRecDepth 100000
namespace Go.Proofs.Ytfofolmagnaimaa.Mo
open Go Go.Proofs.Ytfofolmagnaimaa.Sy
theorem enq_refl (x : Entry) : Entry.eqb x x = true := by cases x; simp [Entry.eqb, sEq_refl]
theorem toq_refl (x : Tomb) : Tomb.eqb x x = true := by cases x; simp [Tomb.eqb, sEq_refl]
theorem dsame_l0 (a : List Entry) (hl : a.length ≤ 1048576) : ∀ (s p : List Entry), a = p ++ s → Ev (fun k => l21_same.l0 a a k p.length) true
  | [], p, hp => by
    have e1 : decide ((p.length : Int) < (a.length : Int)) = false := by rw [hp]; exact lt_end p
    refine Ev.succ ?_
    simp only [l21_same.l0, e1, Bool.false_eq_true, if_false]
    exact Ev.ret
  | x :: s, p, hp => by
    have e1 : decide ((p.length : Int) < (a.length : Int)) = true := by rw [hp]; exact lt_at p s x
    have e2 : idx a (p.length : Int) = some x := by rw [hp]; exact idx_at p x s
    refine Ev.succ ?_
    simp only [l21_same.l0, e1, e2, if_true, Option.bind_some, enq_refl, Bool.not_true, Bool.false_eq_true, if_false, step_at p s x (by rw [← hp, maxLen_val]; omega)]
    exact dsame_l0 a hl s (p ++ [x]) (by simp [hp])
theorem dsame_ev (a : List Entry) (hl : a.length ≤ 1048576) : Ev (fun k => l21_same k a a) true := by
  unfold l21_same
  simp only [bne_self_eq_false, Bool.false_eq_true, if_false]
  exact dsame_l0 a hl a [] rfl
theorem dtsame_l0 (a : List Tomb) (hl : a.length ≤ 1048576) : ∀ (s p : List Tomb), a = p ++ s → Ev (fun k => l21_sameTombs.l0 a a k p.length) true
  | [], p, hp => by
    have e1 : decide ((p.length : Int) < (a.length : Int)) = false := by rw [hp]; exact lt_end p
    refine Ev.succ ?_
    simp only [l21_sameTombs.l0, e1, Bool.false_eq_true, if_false]
    exact Ev.ret
  | x :: s, p, hp => by
    have e1 : decide ((p.length : Int) < (a.length : Int)) = true := by rw [hp]; exact lt_at p s x
    have e2 : idx a (p.length : Int) = some x := by rw [hp]; exact idx_at p x s
    refine Ev.succ ?_
    simp only [l21_sameTombs.l0, e1, e2, if_true, Option.bind_some, toq_refl, Bool.not_true, Bool.false_eq_true, if_false, step_at p s x (by rw [← hp, maxLen_val]; omega)]
    exact dtsame_l0 a hl s (p ++ [x]) (by simp [hp])
theorem dtsame_ev (a : List Tomb) (hl : a.length ≤ 1048576) : Ev (fun k => l21_sameTombs k a a) true := by
  unfold l21_sameTombs
  simp only [bne_self_eq_false, Bool.false_eq_true, if_false]
  exact dtsame_l0 a hl a [] rfl
theorem updE_at {α : Type} (p r : List α) (y z : α) : upd (p ++ y :: r) (p.length : Int) z = some (p ++ z :: r) := by
  unfold upd
  rw [if_pos (by simp; omega)]
  simp
theorem keeps_l1 : ∀ (s p : List Tomb) (J : Nat → Option Bool), (p ++ s).length ≤ 1048576 → Ev J true → Ev (fun k => l21_DropKeeps.l1 (J k) k (p ++ s) p.length) true
  | [], p, J, hl, hJ => by
    refine Ev.succ ?_
    simp only [l21_DropKeeps.l1, lt_end, Bool.false_eq_true, if_false]
    exact hJ.shift
  | x :: s, p, J, hl, hJ => by
    refine Ev.succ ?_
    simp only [l21_DropKeeps.l1, lt_at, idx_at, if_true, Option.bind_some, updE_at, step_at p s x (by rw [maxLen_val]; omega)]
    have := keeps_l1 s (p ++ [(⟨(ByteArray.mk #[115, 112, 111, 105, 108, 116]), (ByteArray.mk #[]), 0⟩ : Tomb)]) (fun k => J (k + 1)) (by simp at hl ⊢; omega) hJ.shift
    simpa using this
theorem keeps_l0 (r : List Entry × List Tomb) (h1 : r.1.length ≤ 1048576) (h2 : r.2.length ≤ 1048576) : ∀ (s p : List Entry), (p ++ s).length ≤ 1048576 → Ev (fun k => l21_DropKeeps.l0 r r r k (p ++ s) p.length) true
  | [], p, hl => by
    refine Ev.succ ?_
    simp only [l21_DropKeeps.l0, lt_end, Bool.false_eq_true, if_false, Jn]
    refine keeps_l1 r.2 [] (fun k => (l21_same k r.1 r.1).bind fun r517 => if r517 = true then ((l21_sameTombs k r.2 r.2).bind fun r522 => some r522) else (some false)) (by simpa using h2) ?_
    refine Ev.bind (dsame_ev r.1 h1) ?_
    simp only [if_true]
    exact Ev.bind (dtsame_ev r.2 h2) Ev.ret
  | x :: s, p, hl => by
    refine Ev.succ ?_
    simp only [l21_DropKeeps.l0, lt_at, idx_at, if_true, Option.bind_some, updE_at, step_at p s x (by rw [maxLen_val]; omega)]
    have := keeps_l0 r h1 h2 s (p ++ [(⟨(ByteArray.mk #[115, 112, 111, 105, 108, 116]), 0, 0, (ByteArray.mk #[])⟩ : Entry)]) (by simp at hl ⊢; omega)
    simpa using this
theorem keeps_law (l : List Entry) (hl : l.length ≤ 1048576) (t : List Tomb) (ht : t.length ≤ 1048576) (a2 : R21_Rule) (hS : a2.Snaps.length ≤ 1048576) (hB : a2.Below.length ≤ 1048576) (hq : ∀ e ∈ l, 0 ≤ e.Seq) : Ev (fun k => l21_DropKeeps k l t a2) true := by
  obtain ⟨m, m1, m2, m3, m4⟩ := sort_both l (by omega)
  have hml : m.length = l.length := m2.len.symm
  have hd := dent_ev l hl t ht (⟨a2.Snaps, a2.Below⟩ : drop_Rule) hS hB m m3 hml m1 (fun e he => hq e (m2.1.mem_iff.2 he))
  have hr := rent_ev a2 hS hB l hl t ht m m4 hml
  have b1 : (keepG a2.Snaps a2.Below (t.filter okTm) [] m).length ≤ 1048576 := by
    have := keepG_len a2.Snaps a2.Below (t.filter okTm) m []
    omega
  have b2 : ((t.filter okTm).filter (deadB a2.Snaps a2.Below)).length ≤ 1048576 := Nat.le_trans (List.length_filter_le _ _) (Nat.le_trans (List.length_filter_le _ _) ht)
  have hrule : l21_rule a2 = some (⟨a2.Snaps, a2.Below⟩ : drop_Rule) := by
    unfold l21_rule
    simp only [Jn, pushN_ok (show ([] : List Int).length + a2.Snaps.length ≤ 28147497670912 by rw [List.length_nil]; omega), pushN_ok (show ([] : List File).length + a2.Below.length ≤ 3518437208730 by rw [List.length_nil]; omega), Option.bind_some, List.nil_append]
  have hkept : Ev (fun k => l21_kept k (⟨a2.Snaps, a2.Below⟩ : drop_Rule) a2) true := by
    refine ⟨a2.Snaps.length + a2.Below.length + 2, fun k hk => ?_⟩
    have := kept_l0 (⟨a2.Snaps, a2.Below⟩ : drop_Rule) a2 rfl rfl (by rw [maxLen_val]; omega) (by rw [maxLen_val]; omega) a2.Snaps [] k rfl (by omega)
    unfold l21_kept
    simpa using this
  unfold l21_DropKeeps
  simp only [Jn, pushN_ok (show ([] : List Entry).length + l.length ≤ 4691249611691 by rw [List.length_nil]; omega), pushN_ok (show ([] : List Tomb).length + t.length ≤ 5629499534059 by rw [List.length_nil]; omega), hrule, Option.bind_some, List.nil_append]
  refine Ev.bind hd ?_
  refine Ev.bind hd ?_
  refine Ev.bind hr ?_
  refine Ev.bind (dsame_ev _ b1) ?_
  simp only [Bool.not_true, Bool.false_eq_true, if_false]
  refine Ev.bind (dtsame_ev _ b2) ?_
  simp only [Bool.not_true, Bool.false_eq_true, if_false]
  refine Ev.bind (dsame_ev l hl) ?_
  simp only [Bool.not_true, Bool.false_eq_true, if_false]
  refine Ev.bind (dtsame_ev t ht) ?_
  simp only [Bool.not_true, Bool.false_eq_true, if_false]
  refine Ev.bind hkept ?_
  simp only [Bool.not_true, Bool.false_eq_true, if_false]
  exact keeps_l0 (keepG a2.Snaps a2.Below (t.filter okTm) [] m, (t.filter okTm).filter (deadB a2.Snaps a2.Below)) b1 b2 (keepG a2.Snaps a2.Below (t.filter okTm) [] m) [] (by simpa using b1)
end Go.Proofs.Ytfofolmagnaimaa.Mo
