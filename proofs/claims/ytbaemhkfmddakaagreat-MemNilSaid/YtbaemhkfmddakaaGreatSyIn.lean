import Derived.Test.YtbaemhkfmddakaaGreatSyQuiet
import Derived.Deep.Slices
import Derived.Carry
import Derived.SizedLaws
set_option linter.unusedVariables false
set_option linter.unusedSectionVars false
set_option linter.unusedSimpArgs false
namespace Go.Proofs.YtbaemhkfmddakaaGreat.Sy
open Go
/-- A measure of data that counts at least each value and each letter. -/
structure Bulk (B : {H : Type} → DataW H → Nat) (A : {H : Type} → List (DataW H) → Nat) : Prop where
  one : ∀ {H : Type} (d : DataW H), 1 ≤ B d
  str : ∀ {H : Type} (l : List UInt8), l.length + 1 ≤ B (DataW.lit (H := H) (.string l))
  slice : ∀ {H : Type} (e s : List (DataW H)), A e + 1 ≤ B (DataW.slice e s)
  agg : ∀ {H : Type} (l : List (DataW H)), A l + 1 ≤ B (DataW.agg l)
  ptr : ∀ {H : Type} (d : DataW H), B d + 1 ≤ B (DataW.ptr d)
  nil : ∀ {H : Type}, A (H := H) [] = 0
  cons : ∀ {H : Type} (d : DataW H) (l : List (DataW H)), A (d :: l) = B d + A l
def inb (W : World) : Nat → Prop := fun k => k < W.heap.size
section
variable {B : {H : Type} → DataW H → Nat} {A : {H : Type} → List (DataW H) → Nat}
/-- What reads at type t is a value of kind d, good, of measure at most that of the data read. -/
structure In (P : Program) (B : {H : Type} → DataW H → Nat) (t : TypeId) {α : Type} (d : Kd α) (G : α → Prop) (m : α → Nat) (S : α → Prop) : Prop where
  sz : P.cellsOf t = d.sz
  go : ∀ {H : Type} {enc : TypeId × Value → H} {W : World} {sp : Nat → Bool} {held : Bool} {fuel : Nat} {cs : List Value} {x : DataW H × List MemPlace},
    DataW.trod enc P W 0 sp held fuel t cs = some x → ∃ a, d.K (inb W) W a cs ∧ G a ∧ m a ≤ B x.1 ∧ ((x.1.weights P t).all (· ≤ reachBytes) = true → S a)
theorem in_str {P : Program} (hB : Bulk B A) {t : TypeId} (ht : P.underlying t = some .string) (hc : P.cellsOf t = 1) : In P B t Kd.str (fun s => s.size ≤ maxLen) (fun s => s.size + 1) (fun s => s.size ≤ 140737488355327) where
  sz := hc
  go h := by
    obtain ⟨s, rfl, rfl, hs⟩ := DataW.trod_string ht h
    refine ⟨s, rfl, hs, ?_, fun hz => ?_⟩
    · have := fun H => hB.str (H := H) s.data.toList
      simpa using this _
    · have h2 := reachBytes_lt
      have := (List.all_eq_true.1 hz) s.data.toList.length (by simp [DataW.weights])
      have h3 : s.data.toList.length = s.size := by simp
      rw [h3] at this
      simp at this
      omega
theorem in_int {P : Program} (hB : Bulk B A) {t : TypeId} {k : IntKind} (ht : P.underlying t = some (.int k)) (hc : P.cellsOf t = 1) : In P B t (Kd.int k) (fun s => (Lit.int k s).wf = true) (fun _ => 1) (fun _ => True) where
  sz := hc
  go h := by
    obtain ⟨s, rfl, rfl, hs⟩ := DataW.trod_int ht h
    exact ⟨s, rfl, hs, hB.one _, fun _ => trivial⟩
theorem In.map {P : Program} {t : TypeId} {α β : Type} {d : Kd α} {G : α → Prop} {m : α → Nat} {S : α → Prop} (h : In P B t d G m S) {d' : Kd β} {G' : β → Prop} {m' : β → Nat} {S' : β → Prop} (f : α → β) (hs : d'.sz = d.sz)
    (hk : ∀ {Z W a cs}, d.K Z W a cs → d'.K Z W (f a) cs) (hg : ∀ a, G a → G' (f a)) (hm : ∀ a, m' (f a) ≤ m a) (hS : ∀ a, S a → S' (f a)) : In P B t d' G' m' S' where
  sz := h.sz.trans hs.symm
  go hx := by
    obtain ⟨a, h1, h2, h3, h4⟩ := h.go hx
    exact ⟨f a, hk h1, hg a h2, Nat.le_trans (hm a) h3, fun hz => hS a (h4 hz)⟩
/-- A struct's fields from one on. -/
structure InF (P : Program) (B : {H : Type} → DataW H → Nat) (A : {H : Type} → List (DataW H) → Nat) (fs : List Field) (off : Nat) {α : Type} (d : Kd α) (G : α → Prop) (m : α → Nat) (S : α → Prop) : Prop where
  go : ∀ {H : Type} {enc : TypeId × Value → H} {W : World} {sp : Nat → Bool} {held : Bool} {fuel : Nat} {cs : List Value} {xs : List (DataW H × List MemPlace)}, xs.length = fs.length →
    (∀ (i : Nat) (f : Field), fs[i]? = some f → DataW.trod enc P W 0 sp held fuel f.type ((cs.drop f.offset).take (P.cellsOf f.type)) = xs[i]?) →
    ∃ a, d.K (inb W) W a ((cs.drop off).take d.sz) ∧ G a ∧ m a ≤ A (xs.map (·.1)) ∧ ((DataW.weightsEach P (fs.map (·.type)) (xs.map (·.1))).all (· ≤ reachBytes) = true → S a)
theorem inF_one {P : Program} (hB : Bulk B A) {f : Field} {α : Type} {d : Kd α} {G : α → Prop} {m : α → Nat} {S : α → Prop} (h : In P B f.type d G m S) : InF P B A [f] f.offset d G m S where
  go {H enc W sp held fuel cs xs} hl hf := by
    obtain ⟨x, rfl⟩ : ∃ x, xs = [x] := by
      match xs, hl with
      | [x], _ => exact ⟨x, rfl⟩
    have h0 := hf 0 f rfl
    rw [h.sz] at h0
    obtain ⟨a, h1, h2, h3, h4⟩ := h.go h0
    refine ⟨a, h1, h2, ?_, fun hz => h4 ?_⟩
    · simp only [List.map_cons, List.map_nil, hB.cons, hB.nil]
      omega
    · simpa [DataW.weightsEach] using hz
theorem inF_cons {P : Program} (hB : Bulk B A) {f : Field} {fs : List Field} {α β : Type} {d : Kd α} {G : α → Prop} {m : α → Nat} {S : α → Prop} (h : In P B f.type d G m S) {d' : Kd β} {G' : β → Prop} {m' : β → Nat} {S' : β → Prop}
    {off : Nat} (ho : off = f.offset + d.sz) (h' : InF P B A fs off d' G' m' S') : InF P B A (f :: fs) f.offset (Kd.pair d d') (fun x => G x.1 ∧ G' x.2) (fun x => m x.1 + m' x.2) (fun x => S x.1 ∧ S' x.2) where
  go {H enc W sp held fuel cs xs} hl hf := by
    obtain ⟨x, xs, rfl⟩ : ∃ x r, xs = x :: r := by
      match xs, hl with
      | x :: r, _ => exact ⟨x, r, rfl⟩
    have h0 := hf 0 f rfl
    rw [h.sz] at h0
    obtain ⟨a, h1, h2, h3, h4⟩ := h.go h0
    obtain ⟨b, k1, k2, k3, k4⟩ := h'.go (cs := cs) (xs := xs) (by simpa using hl) (fun i g hg => by simpa using hf (i + 1) g (by simpa using hg))
    refine ⟨(a, b), ⟨_, _, ?_, h1, k1⟩, ⟨h2, k2⟩, ?_, fun hz => ?_⟩
    · show List.take (d.sz + d'.sz) _ = _
      rw [List.take_add, List.drop_drop, ho]
    · simp only [List.map_cons, hB.cons]
      omega
    · simp only [List.map_cons, DataW.weightsEach, List.all_append, Bool.and_eq_true] at hz
      exact ⟨h4 hz.1, k4 hz.2⟩
theorem in_struct {P : Program} (hB : Bulk B A) {t : TypeId} {fs : Array Field} (ht : P.underlying t = some (.struct fs)) {α : Type} {d : Kd α} {G : α → Prop} {m : α → Nat} {S : α → Prop} (hc : P.cellsOf t = d.sz)
    (h : InF P B A fs.toList 0 d G m S) : In P B t d G (fun x => m x + 1) S where
  sz := hc
  go hx := by
    obtain ⟨xs, n, rfl, rfl, hl, hn, hf⟩ := DataW.trod_struct ht hx
    obtain ⟨a, h1, h2, h3, h4⟩ := h.go (by simpa using hn) (fun i f hi => hf i f (by simpa using hi))
    refine ⟨a, ?_, h2, ?_, fun hz => h4 ?_⟩
    · rw [hc] at hl
      rw [List.drop_zero, List.take_of_length_le (by omega)] at h1
      exact h1
    · have := hB.agg (xs.map (·.1))
      dsimp only
      omega
    · simpa [DataW.weights, ht] using hz
end
theorem Kp.below {w w' : World} (h : Kp (fun _ => False) w w') : RowKit.Below w.heap.size w w' := ⟨h.os, h.tape, h.output, h.size, fun k hk => h.keep k hk (fun h => h)⟩
theorem SH.below {w w' : World} {L : List SP} (h : SH (fun _ => False) w w' L) : RowKit.Below w.heap.size w w' := h.kp.below
end Go.Proofs.YtbaemhkfmddakaaGreat.Sy
