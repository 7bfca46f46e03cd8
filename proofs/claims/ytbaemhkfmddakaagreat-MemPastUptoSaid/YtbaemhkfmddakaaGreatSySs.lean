import Derived.Test.YtbaemhkfmddakaaGreatSyRow
import Derived.Test.YtbaemhkfmddakaaGreatSySt
import Derived.Test.YtbaemhkfmddakaaGreatSyPlain
import Derived.Shelf.Slices.In.SortNone
import Derived.Shelf.Sort.Plain
import Derived.Sort.OwnSorted
set_option linter.unusedVariables false
set_option linter.unusedSectionVars false
set_option linter.unusedSimpArgs false
namespace Go.Proofs.YtbaemhkfmddakaaGreat.Sy
open Go Go.Sort Go.Proofs
def strL (b : ByteArray) : List UInt8 := b.data.toList
def strB (l : List UInt8) : ByteArray := ⟨l.toArray⟩
def sortB (a : List ByteArray) : List ByteArray := ((a.map strL).mergeSort fun x y => decide (x ≤ y)).map strB
theorem els_cells {w : World} : ∀ {xs : List ByteArray} {css : List (List Value)} {G : Nat → Prop}, Els Kd.str G w xs css → css.flatten = xs.map Value.string
  | [], [], _, _ => rfl
  | x :: xs, cs :: css, _, ⟨_, _, _, _, _, hM, h⟩ => by
    have e : cs = [Value.string x] := hM
    rw [e, List.flatten_cons, els_cells h]; rfl
  | [], _ :: _, _, h => h.elim
  | _ :: _, [], _, h => h.elim
theorem els_str {w : World} {G : Nat → Prop} : ∀ xs : List ByteArray, Els Kd.str G w xs (xs.map fun x => [Value.string x])
  | [] => trivial
  | x :: xs => ⟨fun _ => False, G, fun _ h => h.elim, fun _ h => h, fun _ h => h.elim, rfl, els_str xs⟩
theorem flat_str (xs : List ByteArray) : (xs.map fun x => [Value.string x]).flatten = xs.map Value.string := by
  induction xs with
  | nil => rfl
  | cons x xs ih => rw [List.map_cons, List.flatten_cons, ih]; rfl
theorem sortB_len (a : List ByteArray) : (sortB a).length = a.length := by simp [sortB, List.length_mergeSort]
theorem sort_str {P : Program} {ρ : Go.Shelf.Ren} (Ly : Lays.n190 P ρ) (w : World) (GG : Nat → Prop) (e : TypeId) (va0 : Value) (a0 : List ByteArray) (hsep : Sep GG w [Row Kd.str e va0 a0]) (hmx : a0.length ≤ 1152921504606846976) :
    Calls P (ρ.f 190) ([va0] : List Value).toArray w fun ex w' => ex = .returned (.tuple #[]) ∧ SH GG w w' [Row Kd.str e va0 (sortB a0)] := by
  have hsep0 := hsep
  obtain ⟨G1, G2, h1, h2, h3, hA, _⟩ := hsep
  rcases hA with ⟨ad, rfl, rfl⟩ | ⟨css, hrow, hblk, hels⟩
  · refine (Any.slices_Sort_string_none Ly (some ad) 0 w).mono ?_
    rintro ex w' ⟨rfl, rfl⟩
    refine ⟨rfl, ?_⟩
    have : sortB [] = [] := by simp [sortB]
    rw [this]
    exact SH.start hsep0
  · rcases hrow.2 with ⟨rfl, hn⟩ | ⟨g, cap, cur, rfl, hb0, hb, hle, hm, hcs, htk⟩
    · have ha : a0 = [] := List.eq_nil_of_length_eq_zero hn
      subst ha
      refine (Any.slices_Sort_string_none Ly none 0 w).mono ?_
      rintro ex w' ⟨rfl, rfl⟩
      refine ⟨rfl, ?_⟩
      have : sortB [] = [] := by simp [sortB]
      rw [this]
      exact SH.start hsep0
    · have hg : g < w.heap.size := (Array.getElem?_eq_some_iff.1 hb).1
      have hsl : (a0.map strL).length = a0.length := List.length_map _
      have hcel : (a0.map strL).map encStr = a0.map Value.string := by rw [List.map_map]; rfl
      have htk' : cur.toList.take (a0.map strL).length = (a0.map strL).map encStr := by
        rw [hsl, hcel, ← els_cells hels]
        have : a0.length * Kd.str.sz = a0.length := Nat.mul_one _
        rw [this] at htk
        exact htk
      have hcall := Any.slices_Sort_string Ly g 0 cap (a0.map strL) w (holds_of_block hb htk') hg (by rw [hsl]; omega)
      rw [hsl] at hcall
      refine hcall.mono ?_
      rintro ex w' ⟨rfl, n, os, rfl⟩
      refine ⟨rfl, ?_⟩
      have hgb := grownBy_sorted (w := w) (g := g) (n := n) (os := os) ((a0.map strL).mergeSort fun x y => decide (x ≤ y)).toArray
      have hlen : ((a0.map strL).mergeSort fun x y => decide (x ≤ y)).length = (a0.map strL).length := by simp [List.length_mergeSort]
      have hown := ownsRow_sorted (n := n) (os := os) hlen hb0 hb (by rw [hsl]; exact hle) hm (by rw [hcs]; rfl)
      generalize grow (putRow encStr (Sort.ahead w n) g 0 ((a0.map strL).mergeSort fun x y => decide (x ≤ y)).toArray) os = w2 at hgb hown ⊢
      refine ⟨⟨hgb.os, hgb.tape, hgb.output, hgb.size, fun k hk hn => hgb.block k hk fun ek => hn ?_⟩, ?_⟩
      · cases ek
        exact h1 g (hblk g rfl)
      · refine ⟨fun k => G1 k ∧ k < w2.heap.size, fun _ => False, fun k hk => ⟨hk.2, .inl (h1 k hk.1)⟩, fun k hk => hk.elim, fun k _ hk => hk, .inr ⟨(sortB a0).map fun x => [Value.string x], ?_, fun k hk => ?_, els_str _⟩, trivial⟩
        · rw [flat_str]
          have e1 : (sortB a0).map Value.string = ((a0.map strL).mergeSort fun x y => decide (x ≤ y)).map encStr := by unfold sortB; rw [List.map_map]; rfl
          rw [e1, sortB_len]
          rw [hsl] at hown
          exact hown
        · refine ⟨hblk k hk, ?_⟩
          have ek : g = k := by simpa [Value.ownBlock] using hk
          subst ek
          exact Nat.lt_of_lt_of_le hg hgb.size
theorem strB_toList (l : List UInt8) : (strB l).toList = l := by rw [ByteArray.toList_eq]; rfl
theorem sortB_spec (l : List ByteArray) : Srt slt (sortB l) ∧ l.Perm (sortB l) := by
  constructor
  · unfold Srt sortB
    rw [List.pairwise_map]
    have := List.pairwise_mergeSort (le := fun x y : List UInt8 => decide (x ≤ y)) (fun a b c h k => by
      simp only [decide_eq_true_eq] at h k ⊢; exact List.le_trans h k) (fun a b => by
      simp only [Bool.or_eq_true, decide_eq_true_eq]; exact List.le_total a b) (l.map strL)
    refine this.imp fun {x y} h => ?_
    unfold slt
    rw [strB_toList, strB_toList]
    exact List.not_lt.2 (of_decide_eq_true h)
  · have := ((List.mergeSort_perm (l.map strL) fun x y => decide (x ≤ y)).map strB).symm
    rw [List.map_map] at this
    have e : l.map (strB ∘ strL) = l := by
      have : (strB ∘ strL) = id := rfl
      rw [this, List.map_id]
    rw [e] at this
    exact this
end Go.Proofs.YtbaemhkfmddakaaGreat.Sy
