/- Find, Below, files, Same, copied, wiped, in plain words. -/
import Derived.Test.YtbbepmmelpabbaaVvb
set_option linter.unusedVariables false
set_option linter.unusedSectionVars false
set_option linter.unusedSimpArgs false
set_option maxRecDepth 100000
namespace Go.Proofs.Ytbbepmmelpabbaa.Mo
open Go Go.Proofs.Ytbbepmmelpabbaa.Sy

def zeroF : File := ⟨0, 0, ByteArray.mk #[], ByteArray.mk #[], 0, 0⟩
def findG (n : Int) : Nat → List (List File) → Int × File × Bool
  | _, [] => (0, zeroF, false)
  | i, fs :: r => match fs.find? fun f => f.Number == n with
    | some f => ((i : Int), f, true)
    | none => findG n (i + 1) r
def findS (l : List (List File)) (n : Int) : Int × File × Bool := if validB l = true then findG n 0 l else (0, zeroF, false)

theorem vfind_l1 (n i : Int) (fs : List File) (hl : fs.length ≤ 9223372036854775000) : ∀ (s p : List File), fs = p ++ s → ∀ (J : Nat → Option (Int × File × Bool)) r, (∀ f, (s.find? fun f => f.Number == n) = some f → r = (i, f, true)) → ((s.find? fun f => f.Number == n) = none → Ev J r) →
    Ev (fun k => version_Find.l1 n (fun (i_63 : Int) (i_64 : Int) (i_65 : Int) (s_66 : ByteArray) (s_67 : ByteArray) (i_68 : Int) (i_69 : Int) (b_70 : Bool) => some (i_63, (⟨i_64, i_65, s_66, s_67, i_68, i_69⟩ : File), b_70)) i (J k) fs k p.length) r
  | [], p, hp, J, r, h1, h2 => by
    subst hp
    refine Ev.succ ?_
    simp only [version_Find.l1, lt_end, Bool.false_eq_true, if_false]
    exact (h2 rfl).shift
  | f :: s, p, hp, J, r, h1, h2 => by
    refine Ev.succ ?_
    subst hp
    simp only [version_Find.l1, lt_at, idx_at, if_true, Option.bind_some, step_at p s f (by rw [maxLen_val]; omega)]
    by_cases h : (f.Number == n) = true
    · simp only [h, if_true]
      rw [h1 f (by simp [h])]
      exact Ev.ret
    · simp only [h, if_false]
      refine vfind_l1 n i (p ++ f :: s) hl s (p ++ [f]) (by simp) (fun k => J (k + 1)) r (fun g hg => h1 g ?_) (fun hg => (h2 ?_).shift)
      · simp only [List.find?_cons, h]; exact hg
      · simp only [List.find?_cons, h]; exact hg
theorem vfind_l0 (l : List (List File)) (hg : goodL l) (n : Int) : ∀ (s p : List (List File)), l = p ++ s → Ev (fun k => version_Find.l0 l n (fun (i_63 : Int) (i_64 : Int) (i_65 : Int) (s_66 : ByteArray) (s_67 : ByteArray) (i_68 : Int) (i_69 : Int) (b_70 : Bool) => some (i_63, (⟨i_64, i_65, s_66, s_67, i_68, i_69⟩ : File), b_70)) k p.length) (findG n p.length s)
  | [], p, hp => by
    subst hp
    refine Ev.succ ?_
    simp only [version_Find.l0, lt_end, Bool.false_eq_true, if_false]
    exact Ev.ret
  | fs :: s, p, hp => by
    have hl2 := hg.2
    have hfs : fs.length ≤ 2199023255552 := (hg.1 fs (by rw [hp]; simp)).1
    subst hp
    refine Ev.succ ?_
    simp only [version_Find.l0, lt_at, idx_at, if_true, Option.bind_some, step_at p s fs (by rw [maxLen_val]; omega), Jn]
    refine vfind_l1 n p.length fs (by omega) fs [] (by simp) (fun k => version_Find.l0 (p ++ fs :: s) n _ k ((p ++ [fs]).length : Int)) _ (fun f hf => by simp [findG, hf]) (fun hf => ?_)
    have := vfind_l0 (p ++ fs :: s) hg n s (p ++ [fs]) (by simp)
    simpa [findG, hf] using this
theorem find_ev (l : List (List File)) (hg : goodL l) (n : Int) : Ev (fun k => version_Find k l n) (findS l n) := by
  unfold version_Find findS
  refine Ev.bind (valid_ev l hg) ?_
  cases hv : validB l with
  | false =>
    simp only [Bool.not_false, if_true, Bool.false_eq_true, if_false]
    exact Ev.ret
  | true =>
    simp only [Bool.not_true, Bool.false_eq_true, if_false, if_true, Jn]
    exact vfind_l0 l hg n l [] (by simp)

theorem rfind_l1 (n i : Int) (fs : List File) (hl : fs.length ≤ 9223372036854775000) : ∀ (s p : List File), fs = p ++ s → ∀ (J : Nat → Option (Int × File × Bool)) r, (∀ f, (s.find? fun f => f.Number == n) = some f → r = (i, f, true)) → ((s.find? fun f => f.Number == n) = none → Ev J r) →
    Ev (fun k => r16_Find.l1 n i (J k) fs k p.length) r
  | [], p, hp, J, r, h1, h2 => by
    subst hp
    refine Ev.succ ?_
    simp only [r16_Find.l1, lt_end, Bool.false_eq_true, if_false]
    exact (h2 rfl).shift
  | f :: s, p, hp, J, r, h1, h2 => by
    refine Ev.succ ?_
    subst hp
    simp only [r16_Find.l1, lt_at, idx_at, if_true, Option.bind_some, step_at p s f (by rw [maxLen_val]; omega)]
    by_cases h : (f.Number == n) = true
    · simp only [h, if_true]
      rw [h1 f (by simp [h])]
      exact Ev.ret
    · simp only [h, if_false]
      refine rfind_l1 n i (p ++ f :: s) hl s (p ++ [f]) (by simp) (fun k => J (k + 1)) r (fun g hg => h1 g ?_) (fun hg => (h2 ?_).shift)
      · simp only [List.find?_cons, h]; exact hg
      · simp only [List.find?_cons, h]; exact hg
theorem ofS_at {l p s : List (List File)} {fs : List File} (hp : l = p ++ fs :: s) (hv : validB l = true) : ofS l (p.length : Int) = fs := ofS_valid hv (by rw [hp]; simp)
theorem rfind_l0 (l : List (List File)) (hg : goodL l) (n : Int) : ∀ (s p : List (List File)), l = p ++ s → Ev (fun k => r16_Find.l0 l n k p.length) (if validB l = true then findG n p.length s else (0, zeroF, false))
  | [], p, hp => by
    subst hp
    refine Ev.succ ?_
    simp only [r16_Find.l0, lt_end, Bool.false_eq_true, if_false]
    simp only [findG, ite_self]
    exact Ev.ret
  | fs :: s, p, hp => by
    have hl2 := hg.2
    have hle := ofS_le l (p.length : Int)
    have hat := ofS_at hp
    have ih := rfind_l0 l hg n s (p ++ [fs]) (by simp [hp])
    have hst : w64 ((p.length : Int) + 1) = ((p ++ [fs]).length : Int) := by rw [hp] at hl2; exact step_at p s fs (by rw [maxLen_val]; omega)
    have hlt : decide ((p.length : Int) < (l.length : Int)) = true := by rw [hp]; exact lt_at p s fs
    refine Ev.succ ?_
    simp only [r16_Find.l0, hlt, if_true, hst, Jn]
    refine Ev.bind (level_ev l hg p.length) ?_
    refine rfind_l1 n p.length (ofS l p.length) (by omega) (ofS l p.length) [] (by simp) (fun k => r16_Find.l0 l n k ((p ++ [fs]).length : Int)) _ (fun f hf => ?_) (fun hf => ?_)
    · have hv : validB l = true := valid_ne (i := p.length) (fun h => by rw [h] at hf; simp at hf)
      rw [hat hv] at hf
      simp [hv, findG, hf]
    · cases hv : validB l with
      | false => simpa [hv] using ih
      | true =>
        rw [hat hv] at hf
        simpa [hv, findG, hf] using ih
theorem rfind_ev (l : List (List File)) (hg : goodL l) (n : Int) : Ev (fun k => r16_Find k l n) (findS l n) := rfind_l0 l hg n l [] (by simp)

/-! ### Below -/
def belowG (a : Int) : Nat → List (List File) → List File
  | _, [] => []
  | i, fs :: r => (if decide (a < (i : Int)) = true then fs else []) ++ belowG a (i + 1) r
def belowS (l : List (List File)) (a : Int) : List File := if validB l = true then belowG a 0 l else []
theorem belowG_len (a : Int) : ∀ (i : Nat) (s : List (List File)), (belowG a i s).length ≤ s.flatten.length
  | _, [] => by simp [belowG]
  | i, fs :: s => by
    have := belowG_len a (i + 1) s
    simp only [belowG, List.flatten_cons, List.length_append]
    split
    · omega
    · rw [List.length_nil]; omega
theorem vbelow_l0 (l : List (List File)) (hl : l.length ≤ 7) (a : Int) : ∀ (s p : List (List File)) (acc : List File), l = p ++ s → acc.length + s.flatten.length ≤ 3518437208000 → Ev (fun k => version_Below.l0 l a k acc p.length) (acc ++ belowG a p.length s)
  | [], p, acc, hp, hb => by
    subst hp
    refine Ev.succ ?_
    simp only [version_Below.l0, lt_end, Bool.false_eq_true, if_false]
    simpa [belowG] using Ev.ret
  | fs :: s, p, acc, hp, hb => by
    subst hp
    rw [List.flatten_cons, List.length_append] at hb
    refine Ev.succ ?_
    simp only [version_Below.l0, lt_at, idx_at, if_true, Option.bind_some, step_at p s fs (by rw [maxLen_val]; omega), Jn]
    by_cases h : decide (a < (p.length : Int)) = true
    · simp only [h, if_true, pushN_ok (show acc.length + fs.length ≤ 3518437208730 by omega), Option.bind_some]
      have := vbelow_l0 (p ++ fs :: s) hl a s (p ++ [fs]) (acc ++ fs) (by simp) (by rw [List.length_append]; omega)
      simpa [belowG, h] using this
    · simp only [h, if_false]
      have := vbelow_l0 (p ++ fs :: s) hl a s (p ++ [fs]) acc (by simp) (by omega)
      simpa [belowG, h] using this
theorem below_ev (l : List (List File)) (hg : goodL l) (a : Int) : Ev (fun k => version_Below k l a) (belowS l a) := by
  unfold version_Below belowS
  refine Ev.bind (valid_ev l hg) ?_
  cases hv : validB l with
  | false => simpa using Ev.ret
  | true =>
    have := valid_len hv
    simp only [Bool.not_true, Bool.false_eq_true, if_false, if_true]
    have := vbelow_l0 l (validB_iff.1 hv).2.1 a l [] [] (by simp) (by simp only [List.length_nil]; omega)
    simpa using this
theorem rbelow_l0 (l : List (List File)) (hg : goodL l) (a : Int) : ∀ (s p : List (List File)) (acc : List File), l = p ++ s → (validB l = true → acc.length + s.flatten.length ≤ 3518437208000) → (validB l = false → acc = []) → Ev (fun k => r16_Below.l0 l a k acc p.length) (if validB l = true then acc ++ belowG a p.length s else [])
  | [], p, acc, hp, hb, h0 => by
    refine Ev.succ ?_
    have : decide ((p.length : Int) < (l.length : Int)) = false := by rw [hp]; exact lt_end p
    simp only [r16_Below.l0, this, Bool.false_eq_true, if_false]
    cases hv : validB l with
    | false => rw [h0 hv]; exact Ev.ret
    | true => simpa [belowG] using Ev.ret
  | fs :: s, p, acc, hp, hb, h0 => by
    have hl2 := hg.2
    have hat := ofS_at hp
    have hst : w64 ((p.length : Int) + 1) = ((p ++ [fs]).length : Int) := by rw [hp] at hl2; exact step_at p s fs (by rw [maxLen_val]; omega)
    have hlt : decide ((p.length : Int) < (l.length : Int)) = true := by rw [hp]; exact lt_at p s fs
    refine Ev.succ ?_
    simp only [r16_Below.l0, hlt, if_true, hst, Jn]
    by_cases h : decide (a < (p.length : Int)) = true
    · simp only [h, if_true]
      refine Ev.bind (level_ev l hg p.length) ?_
      cases hv : validB l with
      | false =>
        rw [ofS_bad hv, h0 hv]
        simp only [pushN_ok (show ([] : List File).length + ([] : List File).length ≤ 3518437208730 by simp), Option.bind_some, List.append_nil, Bool.false_eq_true, if_false]
        have := rbelow_l0 l hg a s (p ++ [fs]) [] (by simp [hp]) (fun h => by rw [hv] at h; cases h) (fun _ => rfl)
        simpa [hv] using this
      | true =>
        have hb' := hb hv
        rw [List.flatten_cons, List.length_append] at hb'
        rw [hat hv]
        simp only [pushN_ok (show acc.length + fs.length ≤ 3518437208730 by omega), Option.bind_some, if_true]
        have := rbelow_l0 l hg a s (p ++ [fs]) (acc ++ fs) (by simp [hp]) (fun _ => by rw [List.length_append]; omega) (fun h => by rw [hv] at h; cases h)
        simpa [hv, belowG, h] using this
    · simp only [h, if_false]
      have := rbelow_l0 l hg a s (p ++ [fs]) acc (by simp [hp]) (fun hv => by have := hb hv; rw [List.flatten_cons, List.length_append] at this; omega) h0
      simpa [belowG, h] using this
theorem rbelow_ev (l : List (List File)) (hg : goodL l) (a : Int) : Ev (fun k => r16_Below k l a) (belowS l a) := by
  unfold r16_Below belowS
  have := rbelow_l0 l hg a l [] [] (by simp) (fun hv => by have := valid_len hv; simp only [List.length_nil]; omega) (fun _ => rfl)
  simpa using this

/-! ### The same files -/
def eqlB : List File → List File → Bool
  | [], [] => true
  | f :: u, g :: v => File.eqb f g && eqlB u v
  | _, _ => false
theorem eqlB_iff : ∀ {u v : List File}, eqlB u v = true ↔ u = v
  | [], [] => by simp [eqlB]
  | [], g :: v => by simp [eqlB]
  | f :: u, [] => by simp [eqlB]
  | f :: u, g :: v => by
    simp only [eqlB, Bool.and_eq_true, eqb_iff, List.cons.injEq, eqlB_iff (u := u) (v := v)]
end Go.Proofs.Ytbbepmmelpabbaa.Mo
