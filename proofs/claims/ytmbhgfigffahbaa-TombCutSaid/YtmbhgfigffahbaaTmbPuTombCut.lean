/- TombCut, in plain words: what is cut covers, between the bounds, just what was covered. -/
import Derived.Test.YtmbhgfigffahbaaTmbInTombCut
import Derived.Test.YtmbhgfigffahbaaTmbPl
set_option linter.unusedVariables false
set_option maxRecDepth 100000
namespace Go.Proofs.Ytmbhgfigffahbaa.Mo.tombCut
open Go Go.Proofs.Ytmbhgfigffahbaa.Sy Go.Proofs.Ytmbhgfigffahbaa.Mo

theorem small_lt {x y : UInt8} (h : x < y) : slt (ByteArray.mk #[x]) (ByteArray.mk #[y]) := by
  unfold slt
  rw [ByteArray.toList_eq, ByteArray.toList_eq]
  exact List.cons_lt_cons_iff.2 (.inl h)

/-- Between the bounds. -/
def inside (a b key : ByteArray) : Prop := sle a key ∧ (b ≠ ByteArray.mk #[] → slt key b)

instance (a b key : ByteArray) : Decidable (inside a b key) := by unfold inside; infer_instance

theorem cut_end {a b key : ByteArray} {x : Tomb} : slt key (cutOf a b x).End ↔ slt key x.End ∧ (b ≠ ByteArray.mk #[] → slt key b) := by
  unfold cutOf
  by_cases h : b = ByteArray.mk #[]
  · simp [h]
  · simp only [h, if_false, lt_minS]
    exact ⟨fun k => ⟨k.1, fun _ => k.2⟩, fun k => ⟨k.1, k.2 h⟩⟩

theorem cut_begin {a b key : ByteArray} {x : Tomb} : sle (cutOf a b x).Begin key ↔ sle x.Begin key ∧ sle a key := maxS_le

theorem cut_begin_size {a b : ByteArray} {x : Tomb} (h : (x.Begin.size : Int) ≤ 1024) (ha : (a.size : Int) ≤ 1024) : ((cutOf a b x).Begin.size : Int) ≤ 1024 := by
  show ((maxS x.Begin a).size : Int) ≤ 1024
  rcases maxS_cases x.Begin a with ⟨_, e⟩ | ⟨_, e⟩ <;> rw [e] <;> assumption

theorem cut_end_size {a b : ByteArray} {x : Tomb} (h : (x.End.size : Int) ≤ 1025) (hb : (b.size : Int) ≤ 1025) : ((cutOf a b x).End.size : Int) ≤ 1025 := by
  unfold cutOf
  by_cases hn : b = ByteArray.mk #[]
  · simp only [hn, if_true]; exact h
  · simp only [hn, if_false]
    rcases minS_cases x.End b with ⟨_, e⟩ | ⟨_, e⟩ <;> rw [e] <;> assumption

theorem cut_nonempty {a b : ByteArray} {x : Tomb} (h : x.Begin ≠ ByteArray.mk #[]) : (cutOf a b x).Begin ≠ ByteArray.mk #[] := by
  show maxS x.Begin a ≠ _
  rcases maxS_cases x.Begin a with ⟨k, e⟩ | ⟨_, e⟩ <;> rw [e]
  · intro he
    rw [he] at k
    exact slt_empty _ k
  · exact h

/-- A valid tomb's piece is valid, but for its bounds' length. -/
theorem cut_ok {a b : ByteArray} {x : Tomb} (h : x.ok) (hs : slt (cutOf a b x).Begin (cutOf a b x).End) (h1 : ((cutOf a b x).Begin.size : Int) ≤ 1024) (h2 : ((cutOf a b x).End.size : Int) ≤ 1025) : (cutOf a b x).ok :=
  ⟨cut_nonempty h.1, h1, h2, hs, h.2.2.2.2⟩

theorem covers_cuts (a b key : ByteArray) (n : Int) (ha : (a.size : Int) ≤ 1024) (hb : (b.size : Int) ≤ 1025) : ∀ (l : List Tomb) (c : Int × Bool),
    covers key n (cuts a b (l.filter (fun x => decide x.ok))) c = if inside a b key then covers key n l c else c := by
  intro l
  induction l with
  | nil => intro c; simp [covers, cuts]
  | cons x l ih =>
    intro c
    have hx : covers key n (x :: l) c = covers key n l (if x.cov key n then (maxI c.1 x.Seq, true) else c) := rfl
    by_cases hok : x.ok
    · have e1 : (x :: l).filter (fun x => decide x.ok) = x :: l.filter (fun x => decide x.ok) := by simp [hok]
      rw [e1]
      by_cases hs : slt (cutOf a b x).Begin (cutOf a b x).End
      · have e2 : cuts a b (x :: l.filter (fun x => decide x.ok)) = cutOf a b x :: cuts a b (l.filter (fun x => decide x.ok)) := by simp [cuts, hs]
        have e3 : covers key n (cutOf a b x :: cuts a b (l.filter (fun x => decide x.ok))) c = covers key n (cuts a b (l.filter (fun x => decide x.ok))) (if (cutOf a b x).cov key n then (maxI c.1 x.Seq, true) else c) := rfl
        have hc : (cutOf a b x).cov key n ↔ x.cov key n ∧ inside a b key := by
          unfold Tomb.cov inside
          rw [cut_begin, cut_end]
          have hk := cut_ok hok hs (cut_begin_size hok.2.1 ha) (cut_end_size hok.2.2.1 hb)
          constructor
          · rintro ⟨_, h1, ⟨h2, h3⟩, h4, h5⟩
            exact ⟨⟨hok, h1, h2, h4⟩, h3, h5⟩
          · rintro ⟨⟨_, h1, h2, h4⟩, h3, h5⟩
            exact ⟨hk, h1, ⟨h2, h3⟩, h4, h5⟩
        rw [e2, e3, ih, hx]
        by_cases hi : inside a b key
        · by_cases hv : x.cov key n <;> simp [hc, hi, hv]
        · simp [hc, hi]
      · have e2 : cuts a b (x :: l.filter (fun x => decide x.ok)) = cuts a b (l.filter (fun x => decide x.ok)) := by simp [cuts, hs]
        rw [e2, ih, hx]
        by_cases hi : inside a b key
        · have hv : ¬ x.cov key n := by
            rintro ⟨_, _, h1, h2⟩
            exact hs (slt_of_le_lt (cut_begin.2 ⟨h1, hi.1⟩) (cut_end.2 ⟨h2, hi.2⟩))
          simp [hi, hv]
        · simp [hi]
    · have e1 : (x :: l).filter (fun x => decide x.ok) = l.filter (fun x => decide x.ok) := by simp [hok]
      have hv : ¬ x.cov key n := fun h => hok h.1
      rw [e1, ih, hx]
      simp [hv]

theorem cuts_mem {a b : ByteArray} {l : List Tomb} {x : Tomb} (h : x ∈ cuts a b (l.filter (fun x => decide x.ok))) : ∃ y, y.ok ∧ x = cutOf a b y ∧ slt x.Begin x.End := by
  unfold cuts at h
  obtain ⟨h1, h2⟩ := List.mem_filter.1 h
  obtain ⟨y, hy, rfl⟩ := List.mem_map.1 h1
  exact ⟨y, by simpa using (List.mem_filter.1 hy).2, rfl, by simpa using h2⟩

theorem example_cut (k : Nat) (hk : 1 < k) : tomb_Cut k [(⟨(ByteArray.mk #[97]), (ByteArray.mk #[100]), 5⟩ : Tomb)] (ByteArray.mk #[98]) (ByteArray.mk #[99]) = some [⟨ByteArray.mk #[98], ByteArray.mk #[99], 5⟩] := by
  rw [tomb_Cut_eq _ _ _ (by decide) (by decide) k (by simpa using hk)]
  have hne : ∀ x : UInt8, ByteArray.mk #[x] ≠ ByteArray.mk #[] := by
    intro x h
    have := congrArg ByteArray.size h
    cases this
  have hok : Tomb.ok ⟨ByteArray.mk #[97], ByteArray.mk #[100], 5⟩ := ⟨hne _, by decide, by decide, small_lt (by decide), by decide⟩
  have e1 : maxS (ByteArray.mk #[97]) (ByteArray.mk #[98]) = ByteArray.mk #[98] := by
    rcases maxS_cases (ByteArray.mk #[97]) (ByteArray.mk #[98]) with ⟨_, e⟩ | ⟨h, _⟩
    · exact e
    · exact absurd (small_lt (by decide)) h
  have e2 : minS (ByteArray.mk #[100]) (ByteArray.mk #[99]) = ByteArray.mk #[99] := by
    rcases minS_cases (ByteArray.mk #[100]) (ByteArray.mk #[99]) with ⟨h, _⟩ | ⟨_, e⟩
    · exact absurd (small_lt (by decide)) h
    · exact e
  have h3 : slt (ByteArray.mk #[98]) (ByteArray.mk #[99]) := small_lt (by decide)
  simp [cuts, cutOf, hok, hne, e1, e2, h3]

theorem eqb_self (x : Tomb) : Tomb.eqb x x = true := by simp [Tomb.eqb, sEq_refl]

theorem loop (a0 : List Tomb) (a1 : L09_Ask) (R : List Tomb) (r8 : Int × Bool) (i : Int) (b : Bool) (hR : R = cuts a1.Least a1.Limit (a0.filter (fun x => decide x.ok))) (hm : R.length ≤ maxLen) :
    ∀ (s p : List Tomb) (k : Nat), R = p ++ s → s.length + 3 < k →
      l09_TombCut.l0 a0 a1 R r8 i b k (p.length : Int) = some ((decide ((R.length : Int) ≤ (a0.length : Int))) && (((decide (1024 < (a1.Least.size : Int))) || (decide (1025 < (a1.Limit.size : Int)))) || ((r8.1 == i) && (r8.2 == b)))) := by
  intro s
  induction s with
  | nil =>
    intro p k hl hk
    obtain ⟨k, rfl⟩ : ∃ j, k = j + 1 := ⟨k - 1, by simp at hk; omega⟩
    unfold l09_TombCut.l0
    rw [hl, idx_end, example_cut k (by simp at hk; omega)]
    have i0 : idx [(⟨ByteArray.mk #[98], ByteArray.mk #[99], 5⟩ : Tomb)] 0 = some ⟨ByteArray.mk #[98], ByteArray.mk #[99], 5⟩ := rfl
    have hl1 : ((([(⟨ByteArray.mk #[98], ByteArray.mk #[99], 5⟩ : Tomb)].length : Int)) != 1) = false := rfl
    simp only [Bool.false_eq_true, if_false, Option.bind_some, Jn, hl1, i0, eqb_self, Bool.not_true]
  | cons x s ih =>
    intro p k hl hk
    obtain ⟨k, rfl⟩ : ∃ j, k = j + 1 := ⟨k - 1, by simp at hk; omega⟩
    have hmem : x ∈ R := by rw [hl]; simp
    rw [hR] at hmem
    obtain ⟨y, hy, hxy, hlt⟩ := cuts_mem hmem
    have hbeg : sle a1.Least x.Begin := by rw [hxy]; exact (cut_begin.1 (sle_refl _)).2
    have hend : a1.Limit ≠ ByteArray.mk #[] → sle x.End a1.Limit := by
      intro hne
      rw [hxy]
      show sle (if a1.Limit = ByteArray.mk #[] then y.End else minS y.End a1.Limit) a1.Limit
      rw [if_neg hne]
      rcases minS_cases y.End a1.Limit with ⟨h, e⟩ | ⟨h, e⟩ <;> rw [e]
      · exact h
      · exact sle_refl _
    have hsz : x.ok ∨ ¬ (x.Begin.size : Int) ≤ 1024 ∨ ¬ (x.End.size : Int) ≤ 1025 := by
      by_cases h1 : (x.Begin.size : Int) ≤ 1024
      · by_cases h2 : (x.End.size : Int) ≤ 1025
        · left
          rw [hxy] at hlt h1 h2 ⊢
          exact cut_ok hy hlt h1 h2
        · exact .inr (.inr h2)
      · exact .inr (.inl h1)
    have hI : idx R (p.length : Int) = some x := by rw [hl]; exact idx_at _ _ _
    have hlt' : decide ((p.length : Int) < (R.length : Int)) = true := by rw [hl]; exact idx_lt _ _ _
    have hst : w64 ((p.length : Int) + 1) = ((p ++ [x]).length : Int) := idx_step p s x (by rw [← hl]; exact hm)
    unfold l09_TombCut.l0
    rw [hlt', hI, hst, ih (p ++ [x]) k (by rw [hl]; simp) (by simp at hk; omega)]
    have q1 : sLt x.Begin a1.Least = false := sLt_false.2 hbeg
    simp only [if_true, Option.bind_some, Jn, q1, Bool.false_eq_true, if_false, tomb_Valid_eq, sLe_dec, sEq_dec]
    generalize (decide ((R.length : Int) ≤ (a0.length : Int)) && (((decide (1024 < (a1.Least.size : Int))) || (decide (1025 < (a1.Limit.size : Int)))) || ((r8.1 == i) && (r8.2 == b)))) = E
    clear ih hR hmem hI hlt' hst hxy hl hk hm q1 hbeg hy hlt
    by_cases hne : a1.Limit = ByteArray.mk #[]
    · by_cases hok : x.ok
      · simp [hne, hok]
      · by_cases hb1 : (x.Begin.size : Int) ≤ 1024
        · have hb2 : ¬ (x.End.size : Int) ≤ 1025 := by
            rcases hsz with h | h | h
            · exact absurd h hok
            · exact absurd hb1 h
            · exact h
          simp only [hne, hok, hb1, hb2, decide_true, decide_false, Bool.not_true, Bool.not_false, Bool.false_eq_true, if_true, if_false]
        · simp only [hne, hok, hb1, decide_true, decide_false, Bool.not_true, Bool.not_false, Bool.false_eq_true, if_true, if_false]
    · have he0 := hend hne
      have he : (sLt x.End a1.Limit || decide (x.End = a1.Limit)) = true := by rw [← sEq_dec, sLe_dec]; simpa using he0
      by_cases hok : x.ok
      · simp only [hne, hok, he, decide_true, decide_false, Bool.not_true, Bool.not_false, Bool.false_eq_true, if_true, if_false]
      · by_cases hb1 : (x.Begin.size : Int) ≤ 1024
        · have hb2 : ¬ (x.End.size : Int) ≤ 1025 := by
            rcases hsz with h | h | h
            · exact absurd h hok
            · exact absurd hb1 h
            · exact h
          simp only [hne, hok, hb1, hb2, he, decide_true, decide_false, Bool.not_true, Bool.not_false, Bool.false_eq_true, if_true, if_false]
        · simp only [hne, hok, hb1, he, decide_true, decide_false, Bool.not_true, Bool.not_false, Bool.false_eq_true, if_true, if_false]

theorem pure : ∀ (a0 : (List Tomb)) (a1 : L09_Ask), ((∀ y ∈ a0, Tomb.good y) ∧ a0.length ≤ maxLen) → a0.length * 40 ≤ 140737488351232 → (L09_Ask.good a1) → ∃ k, l09_TombCut k a0 a1 = some true := by
  intro a0 a1 hm hz _
  have hm := hm.2
  refine ⟨a0.length + 10, ?_⟩
  unfold l09_TombCut
  rw [tomb_Cut_eq a0 _ _ hm hz _ (by omega)]
  simp only [Option.bind_some]
  have hlen : (cuts a1.Least a1.Limit (a0.filter (fun x => decide x.ok))).length ≤ a0.length := by
    unfold cuts
    refine Nat.le_trans (List.length_filter_le _ _) ?_
    rw [List.length_map]
    exact List.length_filter_le _ _
  rw [tomb_Cover_eq _ _ _ (by omega) _ (by omega), tomb_Cover_eq a0 _ _ hm _ (by omega)]
  simp only [Option.bind_some, Jn]
  have L := fun r8 i b => loop a0 a1 (cuts a1.Least a1.Limit (a0.filter (fun x => decide x.ok))) r8 i b rfl (by omega) (cuts a1.Least a1.Limit (a0.filter (fun x => decide x.ok))) [] (a0.length + 10) rfl (by omega)
  simp only [List.length_nil, Int.natCast_zero] at L
  have hin : ((sLt a1.Key a1.Least) || ((!sEq a1.Limit (ByteArray.mk #[])) && (!sLt a1.Key a1.Limit))) = decide (¬ inside a1.Least a1.Limit a1.Key) := by
    rw [sLt_dec, sEq_dec, sLt_dec]
    unfold inside sle
    by_cases h1 : slt a1.Key a1.Least <;> by_cases h2 : a1.Limit = ByteArray.mk #[] <;> by_cases h3 : slt a1.Key a1.Limit <;> simp [h1, h2, h3]
  rw [hin]
  have hl : decide (((cuts a1.Least a1.Limit (a0.filter (fun x => decide x.ok))).length : Int) ≤ (a0.length : Int)) = true := by simpa using hlen
  by_cases ha : 1024 < (a1.Least.size : Int)
  · by_cases hi : inside a1.Least a1.Limit a1.Key <;> simp [L, hl, ha, hi] <;> omega
  by_cases hb : 1025 < (a1.Limit.size : Int)
  · by_cases hi : inside a1.Least a1.Limit a1.Key <;> simp [L, hl, hb, hi] <;> omega
  rw [covers_cuts _ _ _ _ (by omega) (by omega)] at *
  by_cases hi : inside a1.Least a1.Limit a1.Key
  · simp [hi, L, hl] <;> omega
  · simp [hi, L, hl] <;> omega
end Go.Proofs.Ytmbhgfigffahbaa.Mo.tombCut
