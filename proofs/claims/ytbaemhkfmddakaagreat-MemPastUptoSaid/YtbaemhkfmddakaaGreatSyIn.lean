import Derived.Test.YtbaemhkfmddakaaGreatSyQuiet
import Derived.Deep.Slices
import Derived.Carry
import Derived.SizedLaws
set_option linter.unusedVariables false
set_option linter.unusedSectionVars false
set_option linter.unusedSimpArgs false
namespace Go.Proofs.YtbaemhkfmddakaaGreat.Sy
open Go
/-- A measure of data that counts at least each value and each letter. -/
structure Bulk (B : {H : Type} → DataW H → Nat) (A : {H : Type} → List (DataW H) → Nat) : Prop where
  one : ∀ {H : Type} (d : DataW H), 1 ≤ B d
  str : ∀ {H : Type} (l : List UInt8), l.length + 1 ≤ B (DataW.lit (H := H) (.string l))
  slice : ∀ {H : Type} (e s : List (DataW H)), A e + 1 ≤ B (DataW.slice e s)
  agg : ∀ {H : Type} (l : List (DataW H)), A l + 1 ≤ B (DataW.agg l)
  ptr : ∀ {H : Type} (d : DataW H), B d + 1 ≤ B (DataW.ptr d)
  nil : ∀ {H : Type}, A (H := H) [] = 0
  cons : ∀ {H : Type} (d : DataW H) (l : List (DataW H)), A (d :: l) = B d + A l
def inb (W : World) : Nat → Prop := fun k => k < W.heap.size
section
variable {B : {H : Type} → DataW H → Nat} {A : {H : Type} → List (DataW H) → Nat}
/-- What reads at type t is a value of kind d, good, of measure at most that of the data read. -/
structure In (P : Program) (B : {H : Type} → DataW H → Nat) (t : TypeId) {α : Type} (d : Kd α) (G : α → Prop) (m : α → Nat) (S : α → Prop) : Prop where
  sz : P.cellsOf t = d.sz
  go : ∀ {H : Type} {enc : TypeId × Value → H} {W : World} {sp : Nat → Bool} {held : Bool} {fuel : Nat} {cs : List Value} {x : DataW H × List MemPlace},
    DataW.trod enc P W 0 sp held fuel t cs = some x → ∃ a, d.K (inb W) W a cs ∧ G a ∧ m a ≤ B x.1 ∧ ((x.1.weights P t).all (· ≤ reachBytes) = true → S a)
theorem in_str {P : Program} (hB : Bulk B A) {t : TypeId} (ht : P.underlying t = some .string) (hc : P.cellsOf t = 1) : In P B t Kd.str (fun s => s.size ≤ maxLen) (fun s => s.size + 1) (fun s => s.size ≤ 140737488355327) where
  sz := hc
  go h := by
    obtain ⟨s, rfl, rfl, hs⟩ := DataW.trod_string ht h
    refine ⟨s, rfl, hs, ?_, fun hz => ?_⟩
    · have := fun H => hB.str (H := H) s.data.toList
      simpa using this _
    · have h2 := reachBytes_lt
      have := (List.all_eq_true.1 hz) s.data.toList.length (by simp [DataW.weights])
      have h3 : s.data.toList.length = s.size := by simp
      rw [h3] at this
      simp at this
      omega
theorem in_int {P : Program} (hB : Bulk B A) {t : TypeId} {k : IntKind} (ht : P.underlying t = some (.int k)) (hc : P.cellsOf t = 1) : In P B t (Kd.int k) (fun s => (Lit.int k s).wf = true) (fun _ => 1) (fun _ => True) where
  sz := hc
  go h := by
    obtain ⟨s, rfl, rfl, hs⟩ := DataW.trod_int ht h
    exact ⟨s, rfl, hs, hB.one _, fun _ => trivial⟩
theorem In.map {P : Program} {t : TypeId} {α β : Type} {d : Kd α} {G : α → Prop} {m : α → Nat} {S : α → Prop} (h : In P B t d G m S) {d' : Kd β} {G' : β → Prop} {m' : β → Nat} {S' : β → Prop} (f : α → β) (hs : d'.sz = d.sz)
    (hk : ∀ {Z W a cs}, d.K Z W a cs → d'.K Z W (f a) cs) (hg : ∀ a, G a → G' (f a)) (hm : ∀ a, m' (f a) ≤ m a) (hS : ∀ a, S a → S' (f a)) : In P B t d' G' m' S' where
  sz := h.sz.trans hs.symm
  go hx := by
    obtain ⟨a, h1, h2, h3, h4⟩ := h.go hx
    exact ⟨f a, hk h1, hg a h2, Nat.le_trans (hm a) h3, fun hz => hS a (h4 hz)⟩
/-- A struct's fields from one on. -/
structure InF (P : Program) (B : {H : Type} → DataW H → Nat) (A : {H : Type} → List (DataW H) → Nat) (fs : List Field) (off : Nat) {α : Type} (d : Kd α) (G : α → Prop) (m : α → Nat) (S : α → Prop) : Prop where
  go : ∀ {H : Type} {enc : TypeId × Value → H} {W : World} {sp : Nat → Bool} {held : Bool} {fuel : Nat} {cs : List Value} {xs : List (DataW H × List MemPlace)}, xs.length = fs.length →
    (∀ (i : Nat) (f : Field), fs[i]? = some f → DataW.trod enc P W 0 sp held fuel f.type ((cs.drop f.offset).take (P.cellsOf f.type)) = xs[i]?) →
    ∃ a, d.K (inb W) W a ((cs.drop off).take d.sz) ∧ G a ∧ m a ≤ A (xs.map (·.1)) ∧ ((DataW.weightsEach P (fs.map (·.type)) (xs.map (·.1))).all (· ≤ reachBytes) = true → S a)
theorem inF_one {P : Program} (hB : Bulk B A) {f : Field} {α : Type} {d : Kd α} {G : α → Prop} {m : α → Nat} {S : α → Prop} (h : In P B f.type d G m S) : InF P B A [f] f.offset d G m S where
  go {H enc W sp held fuel cs xs} hl hf := by
    obtain ⟨x, rfl⟩ : ∃ x, xs = [x] := by
      match xs, hl with
      | [x], _ => exact ⟨x, rfl⟩
    have h0 := hf 0 f rfl
    rw [h.sz] at h0
    obtain ⟨a, h1, h2, h3, h4⟩ := h.go h0
    refine ⟨a, h1, h2, ?_, fun hz => h4 ?_⟩
    · simp only [List.map_cons, List.map_nil, hB.cons, hB.nil]
      omega
    · simpa [DataW.weightsEach] using hz
theorem inF_cons {P : Program} (hB : Bulk B A) {f : Field} {fs : List Field} {α β : Type} {d : Kd α} {G : α → Prop} {m : α → Nat} {S : α → Prop} (h : In P B f.type d G m S) {d' : Kd β} {G' : β → Prop} {m' : β → Nat} {S' : β → Prop}
    {off : Nat} (ho : off = f.offset + d.sz) (h' : InF P B A fs off d' G' m' S') : InF P B A (f :: fs) f.offset (Kd.pair d d') (fun x => G x.1 ∧ G' x.2) (fun x => m x.1 + m' x.2) (fun x => S x.1 ∧ S' x.2) where
  go {H enc W sp held fuel cs xs} hl hf := by
    obtain ⟨x, xs, rfl⟩ : ∃ x r, xs = x :: r := by
      match xs, hl with
      | x :: r, _ => exact ⟨x, r, rfl⟩
    have h0 := hf 0 f rfl
    rw [h.sz] at h0
    obtain ⟨a, h1, h2, h3, h4⟩ := h.go h0
    obtain ⟨b, k1, k2, k3, k4⟩ := h'.go (cs := cs) (xs := xs) (by simpa using hl) (fun i g hg => by simpa using hf (i + 1) g (by simpa using hg))
    refine ⟨(a, b), ⟨_, _, ?_, h1, k1⟩, ⟨h2, k2⟩, ?_, fun hz => ?_⟩
    · show List.take (d.sz + d'.sz) _ = _
      rw [List.take_add, List.drop_drop, ho]
    · simp only [List.map_cons, hB.cons]
      omega
    · simp only [List.map_cons, DataW.weightsEach, List.all_append, Bool.and_eq_true] at hz
      exact ⟨h4 hz.1, k4 hz.2⟩
theorem in_struct {P : Program} (hB : Bulk B A) {t : TypeId} {fs : Array Field} (ht : P.underlying t = some (.struct fs)) {α : Type} {d : Kd α} {G : α → Prop} {m : α → Nat} {S : α → Prop} (hc : P.cellsOf t = d.sz)
    (h : InF P B A fs.toList 0 d G m S) : In P B t d G (fun x => m x + 1) S where
  sz := hc
  go hx := by
    obtain ⟨xs, n, rfl, rfl, hl, hn, hf⟩ := DataW.trod_struct ht hx
    obtain ⟨a, h1, h2, h3, h4⟩ := h.go (by simpa using hn) (fun i f hi => hf i f (by simpa using hi))
    refine ⟨a, ?_, h2, ?_, fun hz => h4 ?_⟩
    · rw [hc] at hl
      rw [List.drop_zero, List.take_of_length_le (by omega)] at h1
      exact h1
    · have := hB.agg (xs.map (·.1))
      dsimp only
      omega
    · simpa [DataW.weights, ht] using hz
theorem cell_spot {w : World} {a : Addr} {u : Value} (h : w.cell? a = some u) : a.spot = none := by
  cases hsp : a.spot with
  | none => rfl
  | some s =>
    simp only [World.cell?] at h
    split at h
    · simp [hsp] at h
    · cases h
theorem add_zero' (a : Addr) : a.add 0 = a := rfl
theorem add_plain' {a : Addr} (h : a.spot = none) (i j : Nat) : (a.add i).add j = ⟨a.block, a.off + (i + j), none⟩ := by
  obtain ⟨b, o, s⟩ := a
  cases h
  unfold Addr.add
  by_cases hi : i = 0 <;> by_cases hj : j = 0 <;> simp [hi, hj, Nat.add_assoc]
theorem choose_list {β : Type} : ∀ (n : Nat) (p : Nat → β → Prop), (∀ i, i < n → ∃ x, p i x) → ∃ l : List β, l.length = n ∧ ∀ i x, l[i]? = some x → p i x
  | 0, _, _ => ⟨[], rfl, fun i x h => by simp at h⟩
  | n + 1, p, h => by
    obtain ⟨x, hx⟩ := h 0 (by omega)
    obtain ⟨l, hl, hp⟩ := choose_list n (fun i => p (i + 1)) (fun i hi => h (i + 1) (by omega))
    refine ⟨x :: l, by simp [hl], fun i y hy => ?_⟩
    cases i with
    | zero => simp at hy; subst hy; exact hx
    | succ i => exact hp i y (by simpa using hy)
theorem all_le (hB : Bulk B A) {H : Type} {α : Type} (m : α → Nat) : ∀ (l : List α) (ds : List (DataW H)), l.length = ds.length → (∀ (i : Nat) (x : α) (d : DataW H), l[i]? = some x → ds[i]? = some d → m x ≤ B d) → (l.map m).sum ≤ A ds
  | [], [], _, _ => by simp [hB.nil]
  | x :: l, d :: ds, hl, h => by
    have h0 := h 0 x d rfl rfl
    have := all_le hB m l ds (by simpa using hl) (fun i x d h1 h2 => h (i + 1) x d (by simpa using h1) (by simpa using h2))
    simp only [List.map_cons, List.sum_cons, hB.cons]
    omega
  | [], _ :: _, hl, _ => by simp at hl
  | _ :: _, [], hl, _ => by simp at hl
theorem weights_all_mem {H : Type} {P : Program} {e : TypeId} : ∀ {l : List (DataW H)} {d : DataW H}, d ∈ l → ∀ n ∈ d.weights P e, n ∈ DataW.weightsAll P e l
  | x :: l, d, hd, n, hn => by
    simp only [DataW.weightsAll, List.mem_append]
    rcases List.mem_cons.1 hd with rfl | hd
    · exact .inl hn
    · exact .inr (weights_all_mem hd n hn)
/-- A slice that reads, with its data. -/
theorem rd_of {P : Program} (hB : Bulk B A) {t e : TypeId} (ht : P.underlying t = some (.slice e)) {α : Type} {d : Kd α} {G : α → Prop} {m : α → Nat} {S : α → Prop} (h : In P B e d G m S) (h0 : 0 < d.sz)
    {H : Type} {enc : TypeId × Value → H} {W : World} {sp : Nat → Bool} {held : Bool} {fuel : Nat} {cs : List Value} {x : DataW H × List MemPlace} (hx : DataW.trod enc P W 0 sp held fuel t cs = some x) :
    ∃ v l, cs = [v] ∧ RD d (inb W) W v l ∧ (∀ y ∈ l, G y) ∧ l.length ≤ maxLen ∧ (l.map m).sum + 1 ≤ B x.1 ∧ ((x.1.weights P t).all (· ≤ reachBytes) = true → l.length * P.bytesOf e ≤ 140737488355327 ∧ ∀ y ∈ l, S y) := by
  rcases DataW.trod_slice ht hx with ⟨rfl, rfl⟩ | ⟨a, len, cap, elems, rest, n, rfl, rfl, rfl, hb, hlc, hcm, hel, hget, _, _⟩
  · exact ⟨_, [], rfl, RD.nil _ _ _, by simp, by simp [maxLen], hB.one _, fun _ => ⟨by simp, by simp⟩⟩
  · obtain ⟨l, hl, hp⟩ := choose_list (β := α) len (fun i y => a.spot = none ∧ a.block < W.heap.size ∧ G y ∧ (∃ z, elems[i]? = some z ∧ m y ≤ B z.1 ∧ ((z.1.weights P e).all (· ≤ reachBytes) = true → S y)) ∧ ∃ cs, d.K (inb W) W y cs ∧ ∀ j u, cs[j]? = some u → W.cell? ⟨a.block, a.off + (i * d.sz + j), none⟩ = some u) (fun i hi => by
      have hg := hget i hi
      rw [List.getElem?_eq_getElem (by omega)] at hg
      obtain ⟨cs', h1, h2⟩ := Option.bind_eq_some_iff.1 hg
      obtain ⟨y, k1, k2, k3, k4⟩ := h.go h2
      obtain ⟨_, hlen, hcell⟩ := World.cells?_some h1
      rw [h.sz] at hlen hcell
      have hsp : a.spot = none := by
        have hg := hget 0 (by omega)
        rw [List.getElem?_eq_getElem (by omega)] at hg
        obtain ⟨cs', h1, h2⟩ := Option.bind_eq_some_iff.1 hg
        obtain ⟨_, hlen, hcell⟩ := World.cells?_some h1
        rw [h.sz] at hlen hcell
        have h00 := hcell 0 h0
        rw [Nat.zero_mul, add_zero', add_zero', List.getElem?_eq_getElem (by omega)] at h00
        exact cell_spot h00
      have key : ∀ j u, cs'[j]? = some u → W.cell? ⟨a.block, a.off + (i * d.sz + j), none⟩ = some u := by
        intro j u hu
        have hj : j < d.sz := by have := (List.getElem?_eq_some_iff.1 hu).1; omega
        have hc := hcell j hj
        rw [hu, add_plain' hsp] at hc
        exact hc
      have hy0 : ∃ u, cs'[0]? = some u := ⟨_, List.getElem?_eq_getElem (by omega)⟩
      obtain ⟨u0, hu0⟩ := hy0
      have := key 0 u0 hu0
      exact ⟨y, hsp, World.block_lt_of_cell? (a := ⟨a.block, a.off + (i * d.sz + 0), none⟩) W this, k2, ⟨_, List.getElem?_eq_getElem (by omega), k3, k4⟩, cs', k1, fun j u hu => key j u hu⟩)
    subst hl
    refine ⟨_, l, rfl, ⟨some a, cap, rfl, hlc, hcm, fun i y hi => ?_⟩, fun y hy => ?_, by omega, ?_, fun hz => ?_⟩
    · obtain ⟨p1, p2, p3, p4, p5⟩ := hp i y hi
      exact ⟨a, rfl, p1, p2, p5⟩
    · obtain ⟨i, hi⟩ := List.getElem?_of_mem hy
      exact (hp i y hi).2.2.1
    · refine Nat.le_trans (Nat.succ_le_succ (all_le hB m l (elems.map (·.1)) (by simp [hel]) fun i y z hy hz => ?_)) (hB.slice _ _)
      obtain ⟨q, hq, hm, _⟩ := (hp i y hy).2.2.2.1
      rw [List.getElem?_map, hq] at hz
      simp at hz
      subst hz
      exact hm
    · simp only [DataW.weights, ht, List.all_cons, List.all_append, Bool.and_eq_true, decide_eq_true_eq, List.length_map] at hz
      have hlt := reachBytes_lt
      refine ⟨?_, fun y hy => ?_⟩
      · have h1 : l.length * P.bytesOf e ≤ (elems.length + rest.length) * P.bytesOf e := Nat.mul_le_mul_right _ (by omega)
        omega
      · obtain ⟨i, hi⟩ := List.getElem?_of_mem hy
        obtain ⟨q, hq, _, hS⟩ := (hp i y hi).2.2.2.1
        refine hS (List.all_eq_true.2 fun n hn => ?_)
        refine List.all_eq_true.1 hz.2.1 n ?_
        exact weights_all_mem (List.mem_map.2 ⟨q, List.mem_of_getElem? hq, rfl⟩) n hn
theorem in_slice {P : Program} (hB : Bulk B A) {t e : TypeId} (ht : P.underlying t = some (.slice e)) (hc : P.cellsOf t = 1) {α : Type} {d : Kd α} {G : α → Prop} {m : α → Nat} {S : α → Prop} (h : In P B e d G m S) (h0 : 0 < d.sz) :
    In P B t (Kd.slice e d) (fun l => (∀ y ∈ l, G y) ∧ l.length ≤ maxLen) (fun l => (l.map m).sum + 1) (fun l => l.length * P.bytesOf e ≤ 140737488355327 ∧ ∀ y ∈ l, S y) where
  sz := hc
  go hx := by
    obtain ⟨v, l, rfl, h1, h2, h3, h4, h5⟩ := rd_of hB ht h h0 hx
    exact ⟨l, ⟨v, rfl, h1⟩, ⟨h2, h3⟩, h4, h5⟩
end
theorem cells_one {v u : Value} (h : v.cells.toList = [u]) (hv : ∀ cs, v ≠ .agg cs) : v = u := by
  cases v <;> simp_all [Value.cells]
theorem Kp.below {w w' : World} (h : Kp (fun _ => False) w w') : RowKit.Below w.heap.size w w' := ⟨h.os, h.tape, h.output, h.size, fun k hk => h.keep k hk (fun h => h)⟩
theorem SH.below {w w' : World} {L : List SP} (h : SH (fun _ => False) w w' L) : RowKit.Below w.heap.size w w' := h.kp.below
end Go.Proofs.YtbaemhkfmddakaaGreat.Sy
