import Derived.Test.YtckjpkecipgeiaaVvP
set_option linter.unusedVariables false
set_option linter.unusedSectionVars false
set_option linter.unusedSimpArgs false
set_option maxRecDepth 100000
namespace Go.Proofs.Ytckjpkecipgeiaa.Mo
open Go Go.Proofs.Ytckjpkecipgeiaa.Sy
theorem vfiles_ev (l : List (List File)) (hg : goodL l) (hv : validB l = true) : Ev (fun k => version_Files k l) (l.flatten.length : Int) := by
  have hlen := valid_len hv
  have h7 := (validB_iff.1 hv).2.1
  obtain ⟨r, s1, s2, s3⟩ := sort_int (lt := fun x y : Int => x < y) (0 : Int) (fun x y => less_int x y) wo_int (nums l.flatten) (by rw [nums, List.length_map]; omega)
  have hr : r.length = l.flatten.length := by rw [← s2.length_eq, nums, List.length_map]
  unfold version_Files version_Numbers
  refine Ev.bind (a := r) ?_ (by rw [hr]; exact Ev.ret)
  refine Ev.bind (valid_ev l hg) ?_
  simp only [hv, Bool.not_true, Bool.false_eq_true, if_false]
  exact vnum_l0 l hg h7 r s3 l [] [] (by simp) (by simp [nums]) (by rw [List.length_nil]; omega)
theorem vapply_ok (l : List (List File)) (hg : goodL l) (e : Edit) (he : goodE e) (hv : validB l = true) {o o1 o2 : List (List File)} (h1 : goneS l e.Gone = some o) (h2 : comeV o e.Come = some o1) (h3 : RelG 0 o1 o2) (hv2 : validB o2 = true) (hg2 : goodL o2) : Ev (fun k => version_Apply k l e) (o2, 0) := by
  have h7 := (validB_iff.1 hv).2.1
  have hok := okO_of hg hv
  unfold version_Apply
  refine Ev.bind (valid_ev l hg) ?_
  simp only [hv, Bool.not_true, Bool.false_eq_true, if_false]
  refine Ev.bind (vcopied_ev l hg h7) ?_
  refine vgone e (by have := he.1; omega) (o2, 0) e.Gone [] l rfl hok (fun h => by cases h1.symm.trans h) (fun o' g1 g2 => ?_)
  injection h1.symm.trans g1 with g1
  subst g1
  refine vcome e he (fun _ _ => none) (o2, 0) e.Come [] o (fun k l_34 => version_Apply.l1 l_34 (fun (l_48 : (List (List File))) => (version_Valid k l_48).bind fun r715 => if (!r715) = true then (some ([], 160)) else (some (l_48, 0))) k l_34 0) rfl ⟨fun x hx => ⟨by have := (g2.1 x hx).2.1; simpa using this, (g2.1 x hx).2.2⟩, g2.2⟩ (fun h => by cases h2.symm.trans h) (fun o1' c1 c2 => ?_)
  injection h2.symm.trans c1 with c1
  subst c1
  obtain ⟨o3, k1, k2⟩ := vsort o1 _ he.2.1 c2 o1 [] [] rfl rfl
  have : o3 = o2 := RelG.uniq (i := 0) k1 h3
  subst this
  refine k2 (fun k l_48 => (version_Valid k l_48).bind fun r715 => if (!r715) = true then (some ([], 160)) else (some (l_48, 0))) (o3, 0) ?_
  refine Ev.bind (valid_ev _ hg2) ?_
  simp only [List.nil_append, hv2, Bool.not_true, Bool.false_eq_true, if_false]
  exact Ev.ret
theorem okF_pw {i : Nat} : ∀ {s : List File} {pv : Option File}, okF i pv s = true → s.Pairwise fun a b => bad i a b = false := by
  intro s pv h
  by_cases hi : i = 0
  · subst hi
    refine (okF0_rise h).2.imp fun {a b} hab => ?_
    simp only [bad, if_true, decide_eq_false_iff_not]
    omega
  · refine (okF_lim (by omega) h).2.imp fun {a b} hab => ?_
    simp only [bad, if_neg hi, sLe_dec, hab, decide_true, Bool.not_true]
theorem okF_of {i : Nat} : ∀ {s : List File} {pv : Option File}, (∀ f ∈ s, mayB f = true) → s.Pairwise (fun a b => bad i a b = false) → (∀ q, pv = some q → ∀ f ∈ s, bad i q f = false) → okF i pv s = true
  | [], _, _, _, _ => rfl
  | f :: s, pv, hm, hp, hq => by
    have hp' := List.pairwise_cons.1 hp
    simp only [okF, Bool.and_eq_true, Bool.not_eq_true']
    refine ⟨hm f (by simp), ?_, okF_of (fun g hg => hm g (List.mem_cons_of_mem _ hg)) hp'.2 (fun q hq' g hg => by injection hq' with e; subst e; exact hp'.1 g hg)⟩
    cases pv with
    | none => rfl
    | some q => exact hq q rfl f (by simp)
theorem okL_app : ∀ {i : Nat} {a b : List (List File)}, okL i (a ++ b) = (okL i a && okL (i + a.length) b)
  | i, [], b => by simp [okL]
  | i, x :: a, b => by
    simp only [List.cons_append, okL, okL_app (i := i + 1) (a := a), Bool.and_assoc, List.length_cons]
    rw [show i + 1 + a.length = i + (a.length + 1) by omega]
/-- A level below that a file does not touch, in two parts. -/
theorem cut_by {f : File} : ∀ {w : List File}, w.Pairwise (fun a b => sle a.Limit b.Least) → (∀ g ∈ w, slt g.Least g.Limit) → (∀ g ∈ w, sle g.Limit f.Least ∨ sle f.Limit g.Least) → slt f.Least f.Limit →
    ∃ w1 w2, w = w1 ++ w2 ∧ (∀ g ∈ w1, sle g.Limit f.Least) ∧ ∀ g ∈ w2, sle f.Limit g.Least
  | [], _, _, _, _ => ⟨[], [], rfl, by simp, by simp⟩
  | x :: w, hp, hm, hx, hf => by
    have hp' := List.pairwise_cons.1 hp
    obtain ⟨w1, w2, e, h1, h2⟩ := cut_by hp'.2 (fun g hg => hm g (List.mem_cons_of_mem _ hg)) (fun g hg => hx g (List.mem_cons_of_mem _ hg)) hf
    rcases hx x (by simp) with h | h
    · exact ⟨x :: w1, w2, by rw [e]; rfl, fun g hg => by
        rcases List.mem_cons.1 hg with rfl | hg
        · exact h
        · exact h1 g hg, h2⟩
    · refine ⟨[], x :: w, rfl, by simp, fun g hg => ?_⟩
      rcases List.mem_cons.1 hg with rfl | hg
      · exact h
      · exact sle_trans h (sle_trans (sle_of_lt (hm x (by simp))) (hp'.1 g hg))
def askN (key : ByteArray) (i : Nat) (x : List File) : List Int := nums ((if i = 0 then x.reverse else x).filter fun f => bearsB f key)
def asksN (key : ByteArray) : Nat → List (List File) → List Int
  | _, [] => []
  | i, x :: s => askN key i x ++ asksN key (i + 1) s
theorem askI_nums (i : Int) (key : ByteArray) (x : List File) : (askI i key x).map (·.Number) = nums (x.filter fun f => bearsB f key) := by
  simp [askI, nums, Function.comp_def]
theorem askR_nums {l : List (List File)} (hv : validB l = true) (key : ByteArray) : ∀ (s p : List (List File)), l = p ++ s → 0 < p.length → (askR l key p.length s.length).map (·.Number) = asksN key p.length s
  | [], p, hp, h0 => rfl
  | x :: s, p, hp, h0 => by
    have := askR_nums hv key s (p ++ [x]) (by simp [hp]) (by simp)
    rw [List.length_append, List.length_singleton] at this
    simp only [List.length_cons, askR, List.map_append, askI_nums, ofS_at hp hv, this, asksN, askN, if_neg (show ¬ p.length = 0 by omega)]
theorem asksS_nums {l : List (List File)} (hv : validB l = true) (key : ByteArray) : (asksS l key).map (·.Number) = asksN key 0 l := by
  cases l with
  | nil => exact absurd hv (by decide)
  | cons x s =>
    have h1 := askR_nums hv key s [x] rfl (by simp)
    have h0 : ofS (x :: s) 0 = x := ofS_at (p := []) rfl hv
    have e : (x :: s).length - 1 = s.length := by simp
    rw [asksS, List.map_append, askI_nums, h0, e]
    simp only [List.length_singleton] at h1
    rw [h1]
    simp [asksN, askN]
theorem asksN_app (key : ByteArray) : ∀ {i : Nat} {a b : List (List File)}, asksN key i (a ++ b) = asksN key i a ++ asksN key (i + a.length) b
  | i, [], b => by simp [asksN]
  | i, x :: a, b => by
    simp only [List.cons_append, asksN, asksN_app key (i := i + 1) (a := a), List.append_assoc, List.length_cons]
    rw [show i + 1 + a.length = i + (a.length + 1) by omega]
theorem askN_none {key : ByteArray} {i : Nat} {x : List File} (h : ∀ g ∈ x, ¬ bearsB g key = true) : askN key i x = [] := by
  unfold askN
  have : (if i = 0 then x.reverse else x).filter (fun f => bearsB f key) = [] := by
    rw [List.filter_eq_nil_iff]
    intro g hg
    refine h g ?_
    split at hg
    · exact List.mem_reverse.1 hg
    · exact hg
  rw [this]; rfl
theorem askN_mid {key : ByteArray} {i : Nat} {u v : List File} {f : File} (hf : ¬ bearsB f key = true) : askN key i (u ++ f :: v) = askN key i (u ++ v) := by
  unfold askN
  congr 1
  have h1 : (u ++ f :: v).filter (fun f => bearsB f key) = (u ++ v).filter (fun f => bearsB f key) := by
    rw [List.filter_append, List.filter_append, List.filter_cons, if_neg hf]
  split
  · rw [List.filter_reverse, List.filter_reverse, h1]
  · exact h1
theorem askN_one {key : ByteArray} {i : Nat} {u v : List File} {f : File} (hf : bearsB f key = true) (hu : ∀ g ∈ u ++ v, ¬ bearsB g key = true) : askN key i (u ++ f :: v) = [f.Number] := by
  unfold askN
  have h1 : (u ++ f :: v).filter (fun f => bearsB f key) = [f] := by
    rw [List.filter_append, List.filter_cons, if_pos hf, List.filter_eq_nil_iff.2 (fun g hg => hu g (List.mem_append_left _ hg)), List.filter_eq_nil_iff.2 (fun g hg => hu g (List.mem_append_right _ hg))]; rfl
  split
  · rw [List.filter_reverse, h1]; rfl
  · rw [h1]; rfl
section
variable {l A B : List (List File)} {u v w : List File} {f : File} (hl : l = A ++ (u ++ f :: v) :: w :: B) (hv : validB l = true) (hg : goodL l)
  (ha : ∀ g ∈ u ++ v, ¬ (slt f.Least g.Limit ∧ slt g.Least f.Limit)) (hb : ∀ g ∈ w, ¬ (slt f.Least g.Limit ∧ slt g.Least f.Limit))
include hl hv hg ha hb
theorem moved_to : ∃ w1 w2, w = w1 ++ w2 ∧ validB (A ++ (u ++ v) :: (w1 ++ f :: w2) :: B) = true ∧ (A ++ (u ++ v) :: (w1 ++ f :: w2) :: B).flatten.Perm l.flatten := by
  obtain ⟨h1, h7, ho, hn⟩ := validB_iff.1 hv
  have ho' := ho
  rw [hl, okL_app] at ho'
  simp only [okL, Bool.and_eq_true] at ho'
  obtain ⟨oA, oU, oW, oB⟩ := ho'
  have hmU := okF_may oU
  have hmW := okF_may oW
  have hff : slt f.Least f.Limit := (may_iff.1 (hmU f (by simp))).2.2.2.1
  have hwlim := (okF_lim (by omega) oW).2
  obtain ⟨w1, w2, e, g1, g2⟩ := cut_by (f := f) hwlim (fun g hg => (may_iff.1 (hmW g hg)).2.2.2.1) (fun g hg => by
    by_cases h : sle g.Limit f.Least
    · exact .inl h
    · refine .inr fun h' => hb g hg ⟨Classical.not_not.1 h, h'⟩) hff
  have hperm : (A ++ (u ++ v) :: (w1 ++ f :: w2) :: B).flatten.Perm l.flatten := by
    rw [hl, e]
    simp only [List.flatten_append, List.flatten_cons]
    refine List.Perm.append_left _ ?_
    simp only [List.append_assoc, List.cons_append]
    refine List.Perm.append_left u ?_
    have q1 : (v ++ (w1 ++ f :: (w2 ++ B.flatten))).Perm (f :: (v ++ (w1 ++ (w2 ++ B.flatten)))) := by
      rw [← List.append_assoc, ← List.append_assoc v w1]
      exact List.perm_middle
    exact q1
  refine ⟨w1, w2, e, validB_iff.2 ⟨?_, ?_, ?_, ?_⟩, hperm⟩
  · have := h1; rw [hl] at this; simp at this ⊢; omega
  · have := h7; rw [hl] at this; simp at this ⊢; omega
  · rw [okL_app]
    simp only [okL, Bool.and_eq_true]
    refine ⟨oA, okF_of (fun g hg => hmU g ?_) ((okF_pw oU).sublist (by simp)) (fun _ h => by cases h), okF_of (fun g hg => ?_) ?_ (fun _ h => by cases h), oB⟩
    · rcases List.mem_append.1 hg with hg | hg
      · simp [hg]
      · simp [hg]
    · rcases List.mem_append.1 hg with hg | hg
      · exact hmW g (by rw [e]; simp [hg])
      · rcases List.mem_cons.1 hg with rfl | hg
        · exact hmU _ (by simp)
        · exact hmW g (by rw [e]; simp [hg])
    · have hpw := okF_pw oW
      rw [e] at hpw
      obtain ⟨p1, p2, p3⟩ := List.pairwise_append.1 hpw
      have nz : ¬ 0 + A.length + 1 = 0 := by omega
      refine List.pairwise_append.2 ⟨p1, List.pairwise_cons.2 ⟨fun g hg => ?_, p2⟩, fun a ha' b hb' => ?_⟩
      · simp only [bad, if_neg nz, sLe_dec, g2 g hg, decide_true, Bool.not_true]
      · rcases List.mem_cons.1 hb' with rfl | hb'
        · simp only [bad, if_neg nz, sLe_dec, g1 a ha', decide_true, Bool.not_true]
        · exact p3 a ha' b hb'
  · exact (hperm.map (fun f : File => f.Number)).nodup_iff.2 hn
theorem moved_asks {w1 w2 : List File} (e : w = w1 ++ w2) (key : ByteArray) : asksN key 0 (A ++ (u ++ v) :: (w1 ++ f :: w2) :: B) = asksN key 0 l := by
  have meets : ∀ g, bearsB f key = true → bearsB g key = true → slt f.Least g.Limit ∧ slt g.Least f.Limit := fun g h1 h2 => by
    rw [bears_iff] at h1 h2
    exact ⟨slt_of_le_lt h1.1 h2.2, slt_of_le_lt h2.1 h1.2⟩
  rw [hl, asksN_app, asksN_app]
  simp only [asksN]
  congr 1
  rw [← List.append_assoc, ← List.append_assoc]
  congr 1
  by_cases hf : bearsB f key = true
  · have hu : ∀ g ∈ u ++ v, ¬ bearsB g key = true := fun g hg h => ha g hg (meets g hf h)
    have hw : ∀ g ∈ w, ¬ bearsB g key = true := fun g hg h => hb g hg (meets g hf h)
    rw [askN_none hu, askN_one hf (by rw [← e]; exact hw), askN_one hf hu, askN_none hw]; rfl
  · rw [askN_mid hf, askN_mid hf, e]
end
theorem moved_l0 (a b : List Place) (hab : a.map (·.Number) = b.map (·.Number)) (hl : a.length ≤ 9223372036854775000) : ∀ (s t p q : List Place), a = p ++ s → b = q ++ t → p.length = q.length → Ev (fun k => l22_PickMoved.l0 a b k p.length) true
  | [], t, p, q, hp, hq, he => by
    have e1 : decide ((p.length : Int) < (a.length : Int)) = false := by rw [hp]; exact lt_end p
    refine Ev.succ ?_
    simp only [l22_PickMoved.l0, e1, Bool.false_eq_true, if_false]
    exact Ev.ret
  | x :: s, [], p, q, hp, hq, he => by
    have := congrArg List.length hab
    rw [hp, hq] at this
    simp at this
    omega
  | x :: s, y :: t, p, q, hp, hq, he => by
    have e1 : decide ((p.length : Int) < (a.length : Int)) = true := by rw [hp]; exact lt_at p s x
    have e2 : idx a (p.length : Int) = some x := by rw [hp]; exact idx_at p x s
    have e3 : idx b (p.length : Int) = some y := by rw [hq, he]; exact idx_at q y t
    have hxy : x.Number = y.Number := by
      have h := hab
      rw [hp, hq, List.map_append, List.map_append] at h
      have := (List.append_inj h (by simp [he])).2
      simp at this
      exact this.1
    refine Ev.succ ?_
    simp only [l22_PickMoved.l0, e1, e2, e3, if_true, Option.bind_some, hxy, bne_self_eq_false, Bool.false_eq_true, if_false, step_at p s x (by rw [← hp, maxLen_val]; omega)]
    exact moved_l0 a b hab hl s t (p ++ [x]) (q ++ [y]) (by simp [hp]) (by simp [hq]) (by simp [he])
end Go.Proofs.Ytckjpkecipgeiaa.Mo
namespace Go.Proofs.Ytckjpkecipgeiaa.Mo
open Go Go.Proofs.Ytckjpkecipgeiaa.Sy
theorem perm_at {x x' : List File} (h : x.Perm x') : ∀ (A B : List (List File)) (j : Nat), ((A ++ x :: B).getD j []).Perm ((A ++ x' :: B).getD j [])
  | [], B, 0 => by simpa using h
  | [], B, j + 1 => by simp
  | y :: A, B, 0 => by simp
  | y :: A, B, j + 1 => by simpa using perm_at h A B j
theorem set_mid {α : Type} (A B : List α) (x y : α) : (A ++ x :: B).set A.length y = A ++ y :: B := by
  rw [List.set_append_right _ _ (Nat.le_refl _), Nat.sub_self]; rfl
theorem getD_mid {α : Type} (A B : List α) (x d : α) : (A ++ x :: B).getD A.length d = x := by
  rw [List.getD_eq_getElem?_getD]; simp
theorem lev_ok {A B : List (List File)} {x : List File} : (decide (((A.length : Nat) : Int) < 0) || decide (((A ++ x :: B).length : Int) ≤ ((A.length : Nat) : Int))) = false := by
  simp
  omega
theorem moved_trivial (l : List (List File)) (hg : goodL l) (hv : validB l = true) (A B : List (List File)) (u v w : List File) (f : File) (hl : l = A ++ (u ++ f :: v) :: w :: B)
    (ha : ∀ g ∈ u ++ v, ¬ (slt f.Least g.Limit ∧ slt g.Least f.Limit)) (hb : ∀ g ∈ w, ¬ (slt f.Least g.Limit ∧ slt g.Least f.Limit)) :
    ∃ o2, Ev (fun k => version_Apply k l (⟨0, 0, 0, [(⟨(A.length : Int), f.Number⟩ : Place)], [(⟨((A.length + 1 : Nat) : Int), f⟩ : Added)]⟩ : Edit)) (o2, 0) ∧ goodL o2 ∧ validB o2 = true ∧ o2.flatten.length = l.flatten.length ∧ findS o2 f.Number = (((A.length + 1 : Nat) : Int), f, true) ∧ ∀ key, (asksS l key).map (·.Number) = (asksS o2 key).map (·.Number) := by
  obtain ⟨w1, w2, e, hv2, hperm⟩ := moved_to hl hv hg ha hb
  refine ⟨A ++ (u ++ v) :: (w1 ++ f :: w2) :: B, ?_, ?_, hv2, hperm.length_eq, ?_, fun key => ?_⟩
  rotate_left
  · have hlen2 := valid_len hv2
    refine ⟨fun y hy => ⟨by have := len_le_flatten hy; omega, fun g hgy => ?_⟩, by have := (validB_iff.1 hv2).2.1; omega⟩
    have hm : g ∈ l.flatten := hperm.mem_iff.1 (List.mem_flatten.2 ⟨y, hy, hgy⟩)
    obtain ⟨z, hz, hgz⟩ := List.mem_flatten.1 hm
    exact (hg.1 z hz).2 g hgz
  · have := ofS_at (l := A ++ (u ++ v) :: (w1 ++ f :: w2) :: B) (p := A ++ [u ++ v]) (fs := w1 ++ f :: w2) (s := B) (by simp) hv2
    rw [List.length_append, List.length_singleton] at this
    exact findS_at (by rw [this]; simp)
  · rw [asksS_nums hv, asksS_nums hv2, moved_asks hl hv hg ha hb e key]
  · have hfm : f ∈ l.flatten := List.mem_flatten.2 ⟨u ++ f :: v, by rw [hl]; simp, by simp⟩
    obtain ⟨z, hz, hfz⟩ := List.mem_flatten.1 hfm
    have hnod : (nums (u ++ f :: v)).Nodup := by
      have h := (okO_of hg hv).1 (u ++ f :: v) (by rw [hl]; simp)
      exact h.1
    have hu : ∀ y ∈ u, y.Number ≠ f.Number := fun y hy he => by
      have h1 : (nums u ++ f.Number :: nums v).Nodup := by simpa [nums] using hnod
      exact (List.nodup_append.1 h1).2.2 y.Number (List.mem_map_of_mem hy) f.Number (by simp) he
    have hgone : goneS l [(⟨(A.length : Int), f.Number⟩ : Place)] = some (A ++ (u ++ v) :: w :: B) := by
      rw [hl]
      have hat : (A ++ (u ++ f :: v) :: w :: B).getD (Int.toNat (A.length : Int)) [] = u ++ f :: v := by rw [Int.toNat_natCast, getD_mid]
      rw [goneS_go (g := (⟨(A.length : Int), f.Number⟩ : Place)) lev_ok (by rw [hat]; exact List.mem_map_of_mem (by simp)), hat, lessN_at hnod rfl hu, Int.toNat_natCast, set_mid]
      rfl
    have hcome : comeV (A ++ (u ++ v) :: w :: B) [(⟨((A.length + 1 : Nat) : Int), f⟩ : Added)] = some (A ++ (u ++ v) :: (w ++ [f]) :: B) := by
      have e1 : A ++ (u ++ v) :: w :: B = (A ++ [u ++ v]) ++ w :: B := by simp
      have e2 : A.length + 1 = (A ++ [u ++ v]).length := by simp
      rw [e1, e2, comeV_go (g := (⟨(((A ++ [u ++ v]).length : Nat) : Int), f⟩ : Added)) lev_ok, Int.toNat_natCast, getD_mid, set_mid]
      simp [comeV]
    refine vapply_ok l hg _ ⟨by show List.length [_] ≤ 8796093022207; simp, by show List.length [_] ≤ 1954687338268; simp, fun c hc => ?_⟩ hv hgone hcome ?_ hv2 ?_
    · simp only [List.mem_singleton] at hc
      subst hc
      exact (hg.1 z hz).2 f hfz
    · refine RelG.of_perm (by simp) (fun j => ?_) (validB_iff.1 hv2).2.2.1
      have hp : (w ++ [f]).Perm (w1 ++ f :: w2) := by
        rw [e, List.append_assoc]
        exact List.Perm.append_left w1 (List.perm_append_singleton f w2)
      have := perm_at hp (A ++ [u ++ v]) B j
      simpa using this
    · have hlen2 := valid_len hv2
      refine ⟨fun y hy => ⟨by have := len_le_flatten hy; omega, fun g hgy => ?_⟩, by have := (validB_iff.1 hv2).2.1; omega⟩
      have hm : g ∈ l.flatten := hperm.mem_iff.1 (List.mem_flatten.2 ⟨y, hy, hgy⟩)
      obtain ⟨z, hz, hgz⟩ := List.mem_flatten.1 hm
      exact (hg.1 z hz).2 g hgz
theorem moved_law (l : List (List File)) (hg : goodL l) (c : Config) (key : ByteArray) : Ev (fun k => l22_PickMoved k l c key) true := by
  unfold l22_PickMoved
  refine Ev.bind works_ev ?_
  simp only [Bool.not_true, Bool.false_eq_true, if_false]
  refine Ev.bind (next_ev l hg c []) ?_
  have hno : ∀ p : pick_Plan, p.Trivial = false → pick_Moves p = some (⟨0, 0, 0, [], []⟩ : Edit) := fun p hp => by
    unfold pick_Moves
    rw [hp]; rfl
  by_cases hok : (nextS l c []).2 = true
  · have hm : mayS l c = true := by
      unfold nextS at hok
      split at hok
      · assumption
      · cases hok
    have hv := (mayS_iff.1 hm).1
    have hv1 := (validB_iff.1 hv).1
    have hv7 := (validB_iff.1 hv).2.1
    have hne0 : scoresS l c ≠ [] := by
      intro h
      have := scores_len l c
      rw [h] at this
      simp at this
      omega
    have hb1 := (bestN_spec hne0).1
    rw [scores_len] at hb1
    have hlt : ¬ scoreS l c (bestN (scoresS l c) : Int) < 1000 := by
      unfold nextS at hok
      rw [if_pos hm, scores_get hb1] at hok
      intro h
      rw [if_pos h] at hok
      cases hok
    have hnx : nextS l c [] = (planS l c (bestN (scoresS l c)) [], true) := by
      unfold nextS
      rw [if_pos hm, scores_get hb1, if_neg hlt]
    obtain ⟨_, hr, hne⟩ := full_ne _ hb1 hlt
    generalize bestN (scoresS l c) = r at hb1 hlt hnx hr hne
    rw [hnx]
    have t := plan_taken hg hr hv hne [] c
    have hlev : (planS l c r []).Level = (r : Int) := rfl
    by_cases htr : (planS l c r []).Trivial = true
    · have htr' : ((((planS l c r []).Upper.length : Int) == 1) && (((planS l c r []).Lower.length : Int) == 0)) = true := htr
      simp only [Bool.and_eq_true, beq_iff_eq] at htr'
      obtain ⟨f, hU⟩ : ∃ f, (planS l c r []).Upper = [f] := List.length_eq_one_iff.1 (by omega)
      have hL : (planS l c r []).Lower = [] := List.eq_nil_of_length_eq_zero (by omega)
      have hmv : pick_Moves (planS l c r []) = some (⟨0, 0, 0, [(⟨(r : Int), f.Number⟩ : Place)], [(⟨((r + 1 : Nat) : Int), f⟩ : Added)]⟩ : Edit) := by
        unfold pick_Moves
        rw [htr, hU, hL, hlev, w64_succ (by omega)]
        rfl
      rw [hU, hL] at t
      have hfr : f ∈ l.getD r [] := t.sub f (by simp)
      have hgr : l.getD r [] = l[r] := by simp [List.getD_eq_getElem?_getD, hb1]
      have hgn : l.getD (r + 1) [] = l[r + 1] := by simp [List.getD_eq_getElem?_getD, hr]
      obtain ⟨u, v, huv⟩ := List.append_of_mem hfr
      have hlA : l = l.take r ++ (u ++ f :: v) :: l[r + 1] :: l.drop (r + 2) := by
        rw [← huv, hgr, ← List.drop_eq_getElem_cons hr, ← List.drop_eq_getElem_cons hb1, List.take_append_drop]
      have hAr : (l.take r).length = r := by rw [List.length_take]; omega
      have hnod : (u ++ f :: v).Nodup := by
        have h := ((okO_of hg hv).1 (u ++ f :: v) (by rw [← huv, hgr]; exact List.getElem_mem _)).1
        exact (List.pairwise_map.1 h).imp fun hne e => hne (congrArg _ e)
      have ha : ∀ g ∈ u ++ v, ¬ (slt f.Least g.Limit ∧ slt g.Least f.Limit) := fun g hg' => by
        refine t.apart g (by rw [huv]; rcases List.mem_append.1 hg' with h | h <;> simp [h]) (fun h => ?_) f (by simp)
        simp only [List.mem_singleton] at h
        subst h
        obtain ⟨d1, d2, d3⟩ := List.nodup_append.1 hnod
        rcases List.mem_append.1 hg' with h | h
        · exact d3 g h g (by simp) rfl
        · exact (List.nodup_cons.1 d2).1 h
      have hb : ∀ g ∈ l[r + 1], ¬ (slt f.Least g.Limit ∧ slt g.Least f.Limit) := fun g hg' => by
        have := below_apart hg hr hv hne t g (by rw [hgn]; exact hg') (by simp)
        simpa [meets, spanS, leastG, limitG] using this
      obtain ⟨o2, k1, k2, k3, k4, k5, k6⟩ := moved_trivial l hg hv (l.take r) (l.drop (r + 2)) u v l[r + 1] f hlA ha hb
      rw [hAr] at k1 k5
      simp only [htr, Bool.not_true, Bool.or_self, Bool.false_eq_true, if_false, hmv, Option.bind_some]
      refine Ev.bind k1 ?_
      have c0 : ((0 : Int) != 0) = false := rfl
      have c1 : (((planS l c r []).Upper.length : Int) != 1) = false := by rw [hU]; rfl
      have c2 : idx (planS l c r []).Upper 0 = some f := by rw [hU]; rfl
      simp only [c0, Jn, Bool.false_eq_true, if_false, c1, Bool.or_false, c2, Option.bind_some]
      refine Ev.bind (vfiles_ev o2 k2 k3) ?_
      refine Ev.bind (vfiles_ev l hg hv) ?_
      have c3 : ((o2.flatten.length : Int) != (l.flatten.length : Int)) = false := by rw [k4, bne_self_eq_false]
      simp only [c3, Bool.false_eq_true, if_false]
      refine Ev.bind (find_ev o2 k2 f.Number) ?_
      refine Ev.bind (asks_ev l hg key) ?_
      refine Ev.bind (asks_ev o2 k2 key) ?_
      have hlen : (asksS l key).length = (asksS o2 key).length := by
        have := congrArg List.length (k6 key)
        simpa using this
      have c4 : (((asksS l key).length : Int) != ((asksS o2 key).length : Int)) = false := by rw [hlen, bne_self_eq_false]
      have c5 : w64 ((r : Int) + 1) = ((r + 1 : Nat) : Int) := w64_succ (by omega)
      rw [k5]
      simp only [hlev, c5, Bool.not_true, Bool.false_or, bne_self_eq_false, Bool.false_eq_true, if_false, eqb_refl, c4]
      have hal : (asksS l key).length ≤ 9223372036854775000 := by
        have := asksS_cnt hv key
        have h2 : cntB key l.flatten ≤ l.flatten.length := List.countP_le_length
        have := valid_len hv
        omega
      exact moved_l0 _ _ (k6 key) hal _ _ [] [] rfl rfl rfl
    · have htr' : (planS l c r []).Trivial = false := by simpa using htr
      simp only [htr', Bool.not_false, Bool.or_true, if_true, hno _ htr', Option.bind_some]
      exact Ev.ret
  · have hnx : nextS l c [] = (⟨0, [], [], false⟩, false) := by
      unfold nextS at hok ⊢
      split
      · rename_i hm
        rw [if_pos hm] at hok
        split
        · rfl
        · rename_i h
          rw [if_neg h] at hok
          exact absurd rfl hok
      · rfl
    rw [hnx]
    simp only [Bool.not_false, Bool.or_true, if_true, hno (⟨0, [], [], false⟩ : pick_Plan) rfl, Option.bind_some]
    exact Ev.ret
end Go.Proofs.Ytckjpkecipgeiaa.Mo
