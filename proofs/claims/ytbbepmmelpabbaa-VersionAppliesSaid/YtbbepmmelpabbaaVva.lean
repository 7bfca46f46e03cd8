/- Asks: which files a key's reader asks, in plain words. -/
import Derived.Test.YtbbepmmelpabbaaVvr
import Derived.Test.YtbbepmmelpabbaaSySt
set_option linter.unusedVariables false
set_option linter.unusedSectionVars false
set_option linter.unusedSimpArgs false
set_option maxRecDepth 100000
namespace Go.Proofs.Ytbbepmmelpabbaa.Mo
open Go Go.Proofs.Ytbbepmmelpabbaa.Sy

theorem nodup_len : ∀ (n : Nat) (l : List Int), l.Nodup → (∀ x ∈ l, 1 ≤ x ∧ x ≤ (n : Int)) → l.length ≤ n
  | 0, l, _, h => by
    cases l with
    | nil => simp
    | cons x r => have := h x (by simp); omega
  | n + 1, l, hd, h => by
    have h1 : (l.erase ((n : Int) + 1)).length ≤ n := nodup_len n _ (hd.erase _) fun x hx => by
      have hm := hd.mem_erase_iff.1 hx
      have := h x hm.2
      omega
    have h2 := List.length_erase (a := ((n : Int) + 1)) (l := l)
    split at h2 <;> omega

theorem valid_len {l : List (List File)} (hv : validB l = true) : l.flatten.length ≤ 2147483647 := by
  obtain ⟨_, _, ho, hn⟩ := validB_iff.1 hv
  have := nodup_len 2147483647 (nums l.flatten) hn fun x hx => by
    obtain ⟨f, hf, rfl⟩ := List.mem_map.1 hx
    obtain ⟨fs, hfs, hf⟩ := List.mem_flatten.1 hf
    obtain ⟨j, hj⟩ := List.getElem?_of_mem hfs
    have := okF_may (okL_get ho hj) f hf
    have := (may_iff.1 this).1
    omega
  rwa [nums, List.length_map] at this
theorem len_le_flatten {α : Type} : ∀ {l : List (List α)} {y : List α}, y ∈ l → y.length ≤ l.flatten.length
  | x :: l, y, h => by
    rcases List.mem_cons.1 h with rfl | h
    · rw [List.flatten_cons, List.length_append]; omega
    · have := len_le_flatten h
      rw [List.flatten_cons, List.length_append]; omega
theorem ofS_le (l : List (List File)) (i : Int) : (ofS l i).length ≤ 2147483647 := by
  unfold ofS
  split
  · simp
  · rename_i h
    have hv : validB l = true := by
      cases hv : validB l with
      | true => rfl
      | false => exact absurd (by simp [hv]) h
    rw [List.getD_eq_getElem?_getD]
    cases hg : l[i.toNat]? with
    | none => simp
    | some y =>
      have := len_le_flatten (List.mem_of_getElem? hg)
      have := valid_len hv
      simp only [Option.getD_some]
      omega
theorem ofS_bad {l : List (List File)} (h : validB l = false) (i : Int) : ofS l i = [] := by simp [ofS, h]
theorem valid_ne {l : List (List File)} {i : Int} (h : ofS l i ≠ []) : validB l = true := by
  cases hv : validB l with
  | true => rfl
  | false => exact absurd (ofS_bad hv i) h

def bearsB (f : File) (key : ByteArray) : Bool := (sLt f.Least key || sEq f.Least key) && (sLt key f.Limit)
theorem bears_eq (f : File) (key : ByteArray) : r16_Bears f key = some (bearsB f key) := rfl
theorem bears_iff {f : File} {key : ByteArray} : bearsB f key = true ↔ sle f.Least key ∧ slt key f.Limit := by
  unfold bearsB
  rw [sLe_dec, sLt_dec]
  simp
def askI (i : Int) (key : ByteArray) (fs : List File) : List Place := (fs.filter fun f => bearsB f key).map fun f => ⟨i, f.Number⟩
theorem askI_len (i : Int) (key : ByteArray) (fs : List File) : (askI i key fs).length ≤ fs.length := by
  simp only [askI, List.length_map]
  exact List.length_filter_le _ _
theorem askI_cons (i : Int) (key : ByteArray) (f : File) (fs : List File) : askI i key (f :: fs) = (if bearsB f key = true then [⟨i, f.Number⟩] else []) ++ askI i key fs := by
  unfold askI
  by_cases h : bearsB f key = true
  · simp [h]
  · simp [h]
/-- What the levels from j on add, n of them. -/
def askR (l : List (List File)) (key : ByteArray) : Nat → Nat → List Place
  | _, 0 => []
  | j, n + 1 => askI (j : Int) key (ofS l (j : Int)) ++ askR l key (j + 1) n
def asksS (l : List (List File)) (key : ByteArray) : List Place := askI 0 key (ofS l 0).reverse ++ askR l key 1 (l.length - 1)

theorem rasks_l2 (key : ByteArray) (i : Int) (fs : List File) (hl : fs.length ≤ 2147483647) : ∀ (s p : List File) (acc : List Place), fs = p ++ s → acc.length + s.length ≤ 14073748835378 → ∀ (J : Nat → List Place → Option (List Place)) r, Ev (fun k => J k (acc ++ askI i key s)) r → Ev (fun k => r16_Asks.l2 key i (J k) fs k acc p.length) r
  | [], p, acc, hp, ha, J, r, hJ => by
    subst hp
    refine Ev.succ ?_
    simp only [r16_Asks.l2, lt_end, Bool.false_eq_true, if_false]
    simpa [askI] using hJ.shift
  | f :: s, p, acc, hp, ha, J, r, hJ => by
    refine Ev.succ ?_
    subst hp
    simp only [List.length_append, List.length_cons] at hl ha
    have hst := step_at p s f (by rw [maxLen_val]; simp; omega)
    simp only [r16_Asks.l2, lt_at, idx_at, if_true, Option.bind_some, hst, Jn, bears_eq]
    rw [askI_cons] at hJ
    by_cases h : bearsB f key = true
    · simp only [h, if_true, push_ok (show acc.length < 14073748835379 by omega), Option.bind_some]
      refine rasks_l2 key i (p ++ f :: s) (by simp; omega) s (p ++ [f]) (acc ++ [⟨i, f.Number⟩]) (by simp) (by simp; omega) (fun k => J (k + 1)) r ?_
      simpa [h] using hJ.shift
    · simp only [h, if_false]
      refine rasks_l2 key i (p ++ f :: s) (by simp; omega) s (p ++ [f]) acc (by simp) (by omega) (fun k => J (k + 1)) r ?_
      simpa [h] using hJ.shift

theorem rasks_l1 (l : List (List File)) (hg : goodL l) (key : ByteArray) (J : Nat → List Place → Option (List Place)) (r : List Place) : ∀ (n j : Nat) (acc : List Place), j + n = l.length → (validB l = true → acc.length ≤ j * 2147483647) → (validB l = false → acc.length ≤ 2147483647) → Ev (fun k => J k (acc ++ askR l key j n)) r → Ev (fun k => r16_Asks.l1 l key (J k) k acc j) r
  | 0, j, acc, hj, h1, h0, hJ => by
    refine Ev.succ ?_
    simp only [r16_Asks.l1, decF (show l.length ≤ j by omega), Bool.false_eq_true, if_false]
    simpa [askR] using hJ.shift
  | n + 1, j, acc, hj, h1, h0, hJ => by
    have hj' := hg.2
    refine Ev.succ ?_
    simp only [r16_Asks.l1, decT (show j < l.length by omega), if_true, Jn]
    refine Ev.bind (level_ev l hg j) ?_
    have hle := ofS_le l j
    have hw : w64 ((j : Int) + 1) = ((j + 1 : Nat) : Int) := by rw [w64_of (by omega) (by omega)]; omega
    rw [hw]
    have hb : acc.length + (ofS l (j : Int)).length ≤ 14073748835378 := by
      cases hv : validB l with
      | true =>
        have := h1 hv
        have := (validB_iff.1 hv).2.1
        have : j * 2147483647 ≤ 7 * 2147483647 := Nat.mul_le_mul_right _ (by omega)
        omega
      | false =>
        have := h0 hv
        rw [ofS_bad hv]
        simp; omega
    refine rasks_l2 key j (ofS l j) hle (ofS l j) [] acc (by simp) hb (fun k l_401 => r16_Asks.l1 l key (J (k + 1)) k l_401 ((j + 1 : Nat) : Int)) r ?_
    refine rasks_l1 l hg key (fun k => J (k + 1)) r n (j + 1) _ (by omega) (fun hv => ?_) (fun hv => ?_) ?_
    · have := h1 hv
      have := askI_len j key (ofS l (j : Int))
      simp only [List.length_append, Nat.add_mul]
      omega
    · rw [ofS_bad hv]
      simpa [askI] using h0 hv
    · rw [List.append_assoc]
      exact hJ.shift

theorem rasks_l0 (l : List (List File)) (hg : goodL l) (key : ByteArray) : ∀ (n : Nat) (p s : List File) (acc : List Place) (i : Int), p.length = n → ofS l 0 = p ++ s → i = (p.length : Int) - 1 → acc = askI 0 key s.reverse → Ev (fun k => r16_Asks.l0 l key (ofS l 0) k acc i) (asksS l key) := by
  have hle := ofS_le l 0
  intro n
  induction n with
  | zero =>
    intro p s acc i hn hp hi ha
    have : p = [] := List.eq_nil_of_length_eq_zero hn
    subst this
    have hi' : decide ((0 : Int) ≤ i) = false := by rw [hi]; simp
    have hl0 : ofS l 0 = s := by simpa using hp
    refine Ev.succ ?_
    simp only [r16_Asks.l0, hi', Bool.false_eq_true, if_false, Jn]
    have hlen := askI_len 0 key (ofS l 0).reverse
    cases hq : l with
    | nil =>
      have e : ofS l 0 = [] := by rw [hq]; simp [ofS, validB]
      have ea : acc = [] := by rw [ha, ← hl0, e]; rfl
      subst hq
      refine Ev.succ ?_
      have : asksS [] key = [] := by simp [asksS, ofS, validB, askI, askR]
      simp only [r16_Asks.l1, ea, this]
      have : decide ((1 : Int) < (([] : List (List File)).length : Int)) = false := by decide
      simp only [this, Bool.false_eq_true, if_false]
      exact Ev.ret
    | cons x y =>
      have hlq : 1 + (l.length - 1) = l.length := by rw [hq]; simp; omega
      rw [← hq]
      have hal : acc.length ≤ 2147483647 := by
        rw [ha, ← hl0]
        simp at hlen
        omega
      have := rasks_l1 l hg key (fun _ x => some x) (asksS l key) (l.length - 1) 1 acc hlq (fun _ => by omega) (fun _ => hal) (by
        refine Ev.of fun _ => ?_
        rw [ha, ← hl0]; rfl)
      exact this
  | succ n ih =>
    intro p s acc i hn hp hi ha
    rcases nil_or_snoc p with rfl | ⟨p, f, rfl⟩
    · simp at hn
    · simp only [List.length_append, List.length_singleton] at hn hi
      have hl0 := hle
      rw [hp] at hl0
      simp only [List.length_append, List.length_singleton] at hl0
      have hi0 : i = (p.length : Int) := by rw [hi]; omega
      have h1 : decide ((0 : Int) ≤ i) = true := decide_eq_true (by omega)
      have h2 : idx (ofS l 0) i = some f := by rw [hp, hi0]; simpa using idx_at p f s
      refine Ev.succ ?_
      have hsl : acc.length < 14073748835379 := by
        have := askI_len 0 key s.reverse
        rw [ha]
        simp at this
        omega
      have hw : w64 (i - 1) = (p.length : Int) - 1 := by rw [hi0]; exact w64_of (by omega) (by omega)
      have e : askI 0 key (f :: s).reverse = askI 0 key s.reverse ++ (if bearsB f key = true then [⟨0, f.Number⟩] else []) := by
        simp only [askI, List.reverse_cons, List.filter_append, List.map_append]
        by_cases h : bearsB f key = true <;> simp [h]
      simp only [r16_Asks.l0, h1, h2, if_true, Option.bind_some, bears_eq, Jn, hw]
      by_cases h : bearsB f key = true
      · simp only [h, if_true, push_ok hsl, Option.bind_some]
        exact ih p (f :: s) _ _ (by omega) (by simp [hp]) rfl (by rw [e, ha]; simp [h])
      · simp only [h, if_false]
        exact ih p (f :: s) _ _ (by omega) (by simp [hp]) rfl (by rw [e, ha]; simp [h])
theorem rasks_ev (l : List (List File)) (hg : goodL l) (key : ByteArray) : Ev (fun k => r16_Asks k l key) (asksS l key) := by
  unfold r16_Asks
  refine Ev.bind (level_ev l hg 0) ?_
  have := ofS_le l 0
  have hw : w64 (((ofS l 0).length : Int) - 1) = ((ofS l 0).length : Int) - 1 := w64_of (by omega) (by omega)
  rw [hw]
  exact rasks_l0 l hg key _ (ofS l 0) [] [] _ rfl (by simp) rfl rfl
end Go.Proofs.Ytbbepmmelpabbaa.Mo
