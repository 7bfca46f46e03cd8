/- What fragments say of keys. (Template: VTa: the module of fragments in plain words.) -/
import Derived.Test.YtmbhgfigffahbaaVTa
set_option linter.unusedVariables false
set_option linter.unusedSectionVars false
set_option linter.unusedSimpArgs false
set_option maxRecDepth 100000
namespace Go.Proofs.Ytmbhgfigffahbaa.Mo
open Go Go.Proofs.Ytmbhgfigffahbaa.Sy

def onKey (key : ByteArray) (t : Tomb) : Bool := decide (sle t.Begin key) && decide (slt key t.End)
/-- The numbers of the tombs that cover a key, falling, each once. -/
def covS (l : List Tomb) (key : ByteArray) : List Int := (uq (fun x y : Int => x < y) ((l.filter (onKey key)).map (·.Seq))).reverse
theorem mem_covS {l : List Tomb} {key : ByteArray} {n : Int} : n ∈ covS l key ↔ ∃ t ∈ l, onKey key t = true ∧ t.Seq = n := by
  unfold covS
  rw [List.mem_reverse, mem_uq so_int]
  simp [and_assoc]
theorem covS_pw (l : List Tomb) (key : ByteArray) : (covS l key).Pairwise (fun x y => y < x) := by
  unfold covS
  rw [List.pairwise_reverse]
  exact uq_pw so_int _
theorem covS_seg {l : List Tomb} {b e key : ByteArray} (h1 : sle b key) (h2 : slt key e) (hc : ∀ t ∈ l, (sle t.Begin b ∨ sle e t.Begin) ∧ (sle t.End b ∨ sle e t.End)) : covS l key = seqsOf l b e := by
  unfold covS seqsOf
  congr 3
  refine List.filter_congr fun t ht => ?_
  obtain ⟨c1, c2⟩ := hc t ht
  unfold onKey onSeg
  congr 1
  · refine decide_eq_decide.2 ⟨fun h => ?_, fun h => sle_trans h h1⟩
    rcases c1 with c | c
    · exact c
    · exact absurd (slt_of_le_lt h h2) c
  · refine decide_eq_decide.2 ⟨fun h => ?_, fun h => slt_of_lt_le h2 h⟩
    rcases c2 with c | c
    · exact absurd (slt_of_le_lt h1 h) c
    · exact c

structure FI (l : List Tomb) (b : ByteArray) (out : List Fragment) : Prop where
  ok : ∀ f ∈ out, slt f.Begin f.End ∧ f.Seqs ≠ [] ∧ sle f.End b ∧ ∀ key, sle f.Begin key → slt key f.End → f.Seqs = covS l key
  pw : out.Pairwise fun f g => sle f.End g.Begin
  all : ∀ key, slt key b → covS l key ≠ [] → ∃ f ∈ out, sle f.Begin key ∧ slt key f.End

theorem FI.step {l : List Tomb} {b e : ByteArray} {out : List Fragment} (h : FI l b out) (hbe : slt b e) (hc : ∀ t ∈ l, (sle t.Begin b ∨ sle e t.Begin) ∧ (sle t.End b ∨ sle e t.End)) : FI l e (addF out b e (seqsOf l b e)) := by
  have hseg : ∀ key, sle b key → slt key e → covS l key = seqsOf l b e := fun key h1 h2 => covS_seg h1 h2 hc
  have hbs : sle b e := sle_of_lt hbe
  have two : ∀ key, slt key e → slt key b ∨ sle b key := fun key _ => by
    rcases slt_tri key b with k | k | k
    · exact .inl k
    · subst k; exact .inr (sle_refl _)
    · exact .inr (sle_of_lt k)
  unfold addF
  split
  · rename_i hs
    refine ⟨fun f hf => ?_, h.pw, fun key hk hne => ?_⟩
    · obtain ⟨h1, h2, h3, h4⟩ := h.ok f hf
      exact ⟨h1, h2, sle_trans h3 hbs, h4⟩
    · rcases two key hk with k | k
      · exact h.all key k hne
      · exact absurd ((hseg key k hk).trans hs) hne
  · rename_i hs
    have pushed : FI l e (out ++ [⟨b, e, seqsOf l b e⟩]) := by
      refine ⟨fun f hf => ?_, ?_, fun key hk hne => ?_⟩
      · rcases List.mem_append.1 hf with hf | hf
        · obtain ⟨h1, h2, h3, h4⟩ := h.ok f hf
          exact ⟨h1, h2, sle_trans h3 hbs, h4⟩
        · simp at hf; subst hf
          exact ⟨hbe, hs, sle_refl _, fun key h1 h2 => (hseg key h1 h2).symm⟩
      · refine List.pairwise_append.2 ⟨h.pw, List.pairwise_singleton _ _, fun f hf g hg => ?_⟩
        simp at hg; subst hg
        exact (h.ok f hf).2.2.1
      · rcases two key hk with k | k
        · obtain ⟨f, hf, q⟩ := h.all key k hne
          exact ⟨f, by simp [hf], q⟩
        · exact ⟨⟨b, e, seqsOf l b e⟩, by simp, k, hk⟩
    split
    · rename_i f hf
      obtain ⟨out', rfl⟩ : ∃ out', out = out' ++ [f] := by
        rcases nil_or_snoc out with rfl | ⟨o, x, rfl⟩
        · simp at hf
        · simp at hf; subst hf; exact ⟨o, rfl⟩
      split
      · rename_i hfe
        obtain ⟨hfe, hfs⟩ := hfe
        obtain ⟨k1, k2, k3, k4⟩ := h.ok f (by simp)
        simp only [List.dropLast_concat]
        obtain ⟨p1, p2, p3⟩ := List.pairwise_append.1 h.pw
        refine ⟨fun g hg => ?_, ?_, fun key hk hne => ?_⟩
        · rcases List.mem_append.1 hg with hg | hg
          · obtain ⟨h1, h2, h3, h4⟩ := h.ok g (by simp [hg])
            exact ⟨h1, h2, sle_trans h3 hbs, h4⟩
          · simp at hg; subst hg
            refine ⟨slt_trans (by rw [← hfe]; exact k1) hbe, k2, sle_refl _, fun key h1 h2 => ?_⟩
            rcases two key h2 with k | k
            · exact k4 key h1 (by rw [hfe]; exact k)
            · show f.Seqs = _
              rw [hfs]; exact (hseg key k h2).symm
        · refine List.pairwise_append.2 ⟨p1, List.pairwise_singleton _ _, fun g hg g' hg' => ?_⟩
          simp at hg'; subst hg'
          exact p3 g hg f (by simp)
        · rcases two key hk with k | k
          · obtain ⟨g, hg, q1, q2⟩ := h.all key k hne
            rcases List.mem_append.1 hg with hg | hg
            · exact ⟨g, by simp [hg], q1, q2⟩
            · simp at hg; subst hg
              exact ⟨⟨g.Begin, e, g.Seqs⟩, by simp, q1, hk⟩
          · exact ⟨⟨f.Begin, e, f.Seqs⟩, by simp, sle_trans (sle_of_lt (by rw [← hfe]; exact k1)) k, hk⟩
      · exact pushed
    · exact pushed

theorem build_FI {l : List Tomb} : ∀ (s : List ByteArray) (b : ByteArray) (out : List Fragment), (b :: s).Pairwise slt → (∀ t ∈ l, (sle t.Begin b ∨ t.Begin ∈ s) ∧ (sle t.End b ∨ t.End ∈ s)) → FI l b out → ∃ b', (∀ t ∈ l, sle t.End b') ∧ FI l b' (build l b s out)
  | [], b, out, _, hm, h => ⟨b, fun t ht => by rcases (hm t ht).2 with k | k; exact k; simp at k, h⟩
  | e :: s, b, out, hp, hm, h => by
    have hp' := List.pairwise_cons.1 hp
    have hp2 := List.pairwise_cons.1 hp'.2
    have split : ∀ x, (sle x b ∨ x ∈ e :: s) → (sle x b ∨ sle e x) ∧ (sle x e ∨ x ∈ s) := fun x hx => by
      rcases hx with k | k
      · exact ⟨.inl k, .inl (sle_trans k (sle_of_lt (hp'.1 e (by simp))))⟩
      · rcases List.mem_cons.1 k with k | k
        · subst k; exact ⟨.inr (sle_refl _), .inl (sle_refl _)⟩
        · exact ⟨.inr (sle_of_lt (hp2.1 x k)), .inr k⟩
    refine build_FI s e _ hp'.2 (fun t ht => ⟨(split _ (hm t ht).1).2, (split _ (hm t ht).2).2⟩) ?_
    exact h.step (hp'.1 e (by simp)) fun t ht => ⟨(split _ (hm t ht).1).1, (split _ (hm t ht).2).1⟩

theorem frags_spec (l : List Tomb) : (∀ f ∈ frags l, slt f.Begin f.End ∧ f.Seqs ≠ [] ∧ ∀ key, sle f.Begin key → slt key f.End → f.Seqs = covS l key) ∧ (frags l).Pairwise (fun f g => sle f.End g.Begin) ∧
    (∀ key, covS l key ≠ [] → ∃ f ∈ frags l, sle f.Begin key ∧ slt key f.End) := by
  have hmem : ∀ t ∈ l, t.Begin ∈ uq slt (endsOf l) ∧ t.End ∈ uq slt (endsOf l) := fun t ht => by
    rw [mem_uq so_str, mem_uq so_str]
    unfold endsOf
    rw [List.mem_flatMap, List.mem_flatMap]
    exact ⟨⟨t, ht, by simp⟩, ⟨t, ht, by simp⟩⟩
  have hpw := uq_pw so_str (endsOf l)
  unfold frags
  cases hu : uq slt (endsOf l) with
  | nil =>
    rw [hu] at hmem
    refine ⟨fun f hf => by simp [fragsU] at hf, List.Pairwise.nil, fun key hne => ?_⟩
    obtain ⟨n, hn⟩ := List.exists_mem_of_ne_nil _ hne
    obtain ⟨t, ht, _⟩ := mem_covS.1 hn
    have := (hmem t ht).1
    simp at this
  | cons b s =>
    rw [hu] at hmem hpw
    have hb := (List.pairwise_cons.1 hpw).1
    have hle : ∀ x, x ∈ b :: s → sle b x := fun x hx => by
      rcases List.mem_cons.1 hx with e | e
      · subst e; exact sle_refl _
      · exact sle_of_lt (hb x e)
    have start : FI l b [] := by
      refine ⟨fun f hf => by simp at hf, List.Pairwise.nil, fun key hk hne => ?_⟩
      obtain ⟨n, hn⟩ := List.exists_mem_of_ne_nil _ hne
      obtain ⟨t, ht, hk2, _⟩ := mem_covS.1 hn
      unfold onKey at hk2
      simp only [Bool.and_eq_true, decide_eq_true_eq] at hk2
      exact absurd (slt_of_le_lt (sle_trans (hle _ (hmem t ht).1) hk2.1) hk) (slt_irrefl _)
    obtain ⟨b', hend, hF⟩ := build_FI (l := l) s b [] hpw (fun t ht => by
      obtain ⟨h1, h2⟩ := hmem t ht
      refine ⟨?_, ?_⟩
      · rcases List.mem_cons.1 h1 with e | e
        · exact .inl (by rw [e]; exact sle_refl _)
        · exact .inr e
      · rcases List.mem_cons.1 h2 with e | e
        · exact .inl (by rw [e]; exact sle_refl _)
        · exact .inr e) start
    refine ⟨fun f hf => ?_, hF.pw, fun key hne => ?_⟩
    · obtain ⟨h1, h2, h3, h4⟩ := hF.ok f hf
      exact ⟨h1, h2, h4⟩
    · obtain ⟨n, hn⟩ := List.exists_mem_of_ne_nil _ hne
      obtain ⟨t, ht, hk2, _⟩ := mem_covS.1 hn
      unfold onKey at hk2
      simp only [Bool.and_eq_true, decide_eq_true_eq] at hk2
      exact hF.all key (slt_of_lt_le hk2.2 (hend t ht)) hne

/-- The greatest number of those that cover a key. -/
theorem covers_covS {l : List Tomb} {key : ByteArray} {n : Int} (hs : ∀ t ∈ l, okT t = true → 0 ≤ t.Seq ∧ t.Seq ≤ n) :
    (covers key n l (0, false)).2 = decide (0 < (covS (l.filter okT) key).length) ∧ ((covS (l.filter okT) key) ≠ [] → (covS (l.filter okT) key)[0]? = some (covers key n l (0, false)).1) := by
  have hcov : ∀ t ∈ l, (cov key n t = true ↔ t ∈ l.filter okT ∧ onKey key t = true) := fun t ht => by
    unfold cov onKey
    rw [sLe_dec, sLt_dec, List.mem_filter]
    by_cases ho : okT t = true
    · have := (hs t ht ho).2
      simp [ho, ht, this]
    · simp [ho]
  have hok := covers_ok key n l (0, false)
  obtain ⟨_, hmax, hor⟩ := covers_max key n l (0, false)
  have hne : (covS (l.filter okT) key) ≠ [] ↔ ∃ t ∈ l, cov key n t = true := by
    constructor
    · intro h
      obtain ⟨m, hm⟩ := List.exists_mem_of_ne_nil _ h
      obtain ⟨t, ht, hk, _⟩ := mem_covS.1 hm
      exact ⟨t, (List.mem_filter.1 ht).1, (hcov t (List.mem_filter.1 ht).1).2 ⟨ht, hk⟩⟩
    · rintro ⟨t, ht, hc⟩ h0
      have := (hcov t ht).1 hc
      have : t.Seq ∈ covS (l.filter okT) key := mem_covS.2 ⟨t, this.1, this.2, rfl⟩
      rw [h0] at this
      simp at this
  refine ⟨?_, fun h => ?_⟩
  · rw [Bool.eq_iff_iff, hok, decide_eq_true_eq, List.length_pos_iff, hne]
    simp
  · obtain ⟨t0, ht0, hc0⟩ := hne.1 h
    have hex : ∃ x ∈ l, cov key n x = true ∧ (covers key n l (0, false)).1 = x.Seq := by
      rcases hor with e | e
      · refine ⟨t0, ht0, hc0, ?_⟩
        have h1 := hmax t0 ht0 hc0
        have h2 := (hs t0 ht0 (List.mem_filter.1 ((hcov t0 ht0).1 hc0).1).2).1
        simp only at e
        omega
      · exact e
    obtain ⟨x, hx, hcx, ex⟩ := hex
    have hxm : x.Seq ∈ covS (l.filter okT) key := mem_covS.2 ⟨x, ((hcov x hx).1 hcx).1, ((hcov x hx).1 hcx).2, rfl⟩
    cases hcs : covS (l.filter okT) key with
    | nil => exact absurd hcs h
    | cons a r =>
      have hpw := covS_pw (l.filter okT) key
      rw [hcs] at hxm hpw
      have ha : a ∈ covS (l.filter okT) key := by rw [hcs]; simp
      obtain ⟨t, ht, hk, et⟩ := mem_covS.1 ha
      have h1 := hmax t (List.mem_filter.1 ht).1 ((hcov t (List.mem_filter.1 ht).1).2 ⟨ht, hk⟩)
      simp only [List.getElem?_cons_zero]
      congr 1
      rcases List.mem_cons.1 hxm with e | e
      · omega
      · have := (List.pairwise_cons.1 hpw).1 _ e
        omega
end Go.Proofs.Ytmbhgfigffahbaa.Mo
