import Derived.Test.YtbaemhkfmddakaaGreatSyBase
import Derived.Maps.AppendAt
set_option linter.unusedVariables false
set_option linter.unusedSectionVars false
namespace Go.Proofs.YtbaemhkfmddakaaGreat.Sy
open Go
structure Kd (α : Type) where
  sz : Nat
  K : (Nat → Prop) → World → α → List Value → Prop
  M : (Nat → Prop) → World → α → List Value → Prop
  K_len : ∀ {Z w x cs}, K Z w x cs → cs.length = sz
  K_one : ∀ {Z w x cs}, K Z w x cs → ∀ u ∈ cs, u.oneCell' = true
  K_stable : ∀ {Z} {w w' : World} {x cs}, (∀ k, Z k → k < w.heap.size → w'.heap[k]? = w.heap[k]?) → K Z w x cs → K Z w' x cs
  K_mono : ∀ {Z Z' : Nat → Prop} {w x cs}, (∀ k, Z k → Z' k) → K Z w x cs → K Z' w x cs
  M_K : ∀ {G w x cs}, M G w x cs → K G w x cs
  M_stable : ∀ {G} {w w' : World} {x cs}, (∀ k, G k → k < w.heap.size → w'.heap[k]? = w.heap[k]?) → M G w x cs → M G w' x cs
  M_mono : ∀ {G G' : Nat → Prop} {w x cs}, (∀ k, G k → G' k) → M G w x cs → M G' w x cs
  M_inb : ∀ {G} {w : World} {x cs}, M G w x cs → M (fun k => G k ∧ k < w.heap.size) w x cs
/-- Data without memory of their own: the cells are a function of the value. -/
def Kd.flat {α : Type} (sz : Nat) (enc : α → List Value) (hl : ∀ x, (enc x).length = sz) (h1 : ∀ x, ∀ u ∈ enc x, u.oneCell' = true) : Kd α where
  sz := sz
  K _ _ x cs := cs = enc x
  M _ _ x cs := cs = enc x
  K_len h := by rw [h]; exact hl _
  K_one h := by rw [h]; exact h1 _
  K_stable _ h := h
  K_mono _ h := h
  M_K h := h
  M_stable _ h := h
  M_mono _ h := h
  M_inb h := h
def Kd.int (k : IntKind) : Kd Int := Kd.flat 1 (fun x => [.int k x]) (fun _ => rfl) (fun _ u hu => by simp at hu; subst hu; rfl)
def Kd.bool : Kd Bool := Kd.flat 1 (fun x => [.bool x]) (fun _ => rfl) (fun _ u hu => by simp at hu; subst hu; rfl)
def Kd.str : Kd ByteArray := Kd.flat 1 (fun x => [.string x]) (fun _ => rfl) (fun _ u hu => by simp at hu; subst hu; rfl)
/-- The elements of a row that a call owns: each in memory of its own. -/
def Els {α : Type} (d : Kd α) : (Nat → Prop) → World → List α → List (List Value) → Prop
  | _, _, [], [] => True
  | G, w, x :: xs, cs :: css => ∃ G1 G2 : Nat → Prop, (∀ k, G1 k → G k) ∧ (∀ k, G2 k → G k) ∧ (∀ k, G1 k → ¬ G2 k) ∧ d.M G1 w x cs ∧ Els d G2 w xs css
  | _, _, _, _ => False
section
variable {α : Type} {d : Kd α}
theorem Els.length {w : World} : ∀ {xs : List α} {css : List (List Value)} {G : Nat → Prop}, Els d G w xs css → css.length = xs.length
  | [], [], _, _ => rfl
  | _ :: _, _ :: _, _, ⟨_, _, _, _, _, _, h⟩ => by simp [Els.length h]
  | [], _ :: _, _, h => h.elim
  | _ :: _, [], _, h => h.elim
theorem Els.stable {w w' : World} : ∀ {xs : List α} {css : List (List Value)} {G : Nat → Prop}, (∀ k, G k → k < w.heap.size → w'.heap[k]? = w.heap[k]?) → Els d G w xs css → Els d G w' xs css
  | [], [], _, _, _ => trivial
  | _ :: _, _ :: _, _, hs, ⟨G1, G2, h1, h2, h3, hx, h⟩ => ⟨G1, G2, h1, h2, h3, d.M_stable (fun k hk => hs k (h1 k hk)) hx, Els.stable (fun k hk => hs k (h2 k hk)) h⟩
  | [], _ :: _, _, _, h => h.elim
  | _ :: _, [], _, _, h => h.elim
theorem Els.mono {w : World} : ∀ {xs : List α} {css : List (List Value)} {G G' : Nat → Prop}, (∀ k, G k → G' k) → Els d G w xs css → Els d G' w xs css
  | [], [], _, _, _, _ => trivial
  | _ :: _, _ :: _, _, _, hs, ⟨G1, G2, h1, h2, h3, hx, h⟩ => ⟨G1, G2, fun k hk => hs k (h1 k hk), fun k hk => hs k (h2 k hk), h3, hx, h⟩
  | [], _ :: _, _, _, _, h => h.elim
  | _ :: _, [], _, _, _, h => h.elim
theorem Els.inb {w : World} : ∀ {xs : List α} {css : List (List Value)} {G : Nat → Prop}, Els d G w xs css → Els d (fun k => G k ∧ k < w.heap.size) w xs css
  | [], [], _, _ => trivial
  | _ :: _, _ :: _, _, ⟨G1, G2, h1, h2, h3, hx, h⟩ =>
    ⟨fun k => G1 k ∧ k < w.heap.size, fun k => G2 k ∧ k < w.heap.size, fun k hk => ⟨h1 k hk.1, hk.2⟩, fun k hk => ⟨h2 k hk.1, hk.2⟩, fun k hk hk' => h3 k hk.1 hk'.1, d.M_inb hx, Els.inb h⟩
  | [], _ :: _, _, h => h.elim
  | _ :: _, [], _, h => h.elim
theorem Els.snoc {w : World} {x : α} {cs : List Value} : ∀ {xs : List α} {css : List (List Value)} {G1 G2 G : Nat → Prop}, (∀ k, G1 k → G k) → (∀ k, G2 k → G k) → (∀ k, G1 k → ¬ G2 k) →
    Els d G1 w xs css → d.M G2 w x cs → Els d G w (xs ++ [x]) (css ++ [cs])
  | [], [], G1, G2, G, _, h2, _, _, hx => ⟨G2, fun _ => False, h2, fun _ h => h.elim, fun _ _ h => h, hx, trivial⟩
  | y :: ys, c :: css, G1, G2, G, h1, h2, h3, ⟨E1, E2, e1, e2, e3, hy, h⟩, hx => by
    refine ⟨E1, fun k => E2 k ∨ G2 k, fun k hk => h1 k (e1 k hk), fun k hk => hk.elim (fun h => h1 k (e2 k h)) (h2 k), ?_, hy, Els.snoc (G1 := E2) (G2 := G2) (fun _ => .inl) (fun _ => .inr) (fun k hk hk' => h3 k (e2 k hk) hk') h hx⟩
    rintro k hk (h | h)
    · exact e3 k hk h
    · exact h3 k (e1 k hk) h
  | [], _ :: _, _, _, _, _, _, _, h, _ => h.elim
  | _ :: _, [], _, _, _, _, _, _, h, _ => h.elim
theorem Els.get {w : World} : ∀ {xs : List α} {css : List (List Value)} {G : Nat → Prop}, Els d G w xs css → ∀ (i : Nat) (x : α), xs[i]? = some x → ∃ cs, css[i]? = some cs ∧ d.M G w x cs
  | [], [], _, _, i, x, hi => by simp at hi
  | y :: ys, c :: css, G, ⟨E1, E2, e1, e2, e3, hy, h⟩, 0, x, hi => by
    simp only [List.getElem?_cons_zero, Option.some.injEq] at hi
    subst hi
    exact ⟨c, rfl, d.M_mono e1 hy⟩
  | y :: ys, c :: css, G, ⟨E1, E2, e1, e2, e3, hy, h⟩, i + 1, x, hi => by
    obtain ⟨cs, h1, h2⟩ := Els.get h i x (by simpa using hi)
    exact ⟨cs, by simpa using h1, d.M_mono e2 h2⟩
  | [], _ :: _, _, h, _, _, _ => h.elim
  | _ :: _, [], _, h, _, _, _ => h.elim
theorem Els.set {w : World} {y : α} {cs' : List Value} (hM : ∀ G x cs, d.M G w x cs → d.M G w y cs') : ∀ {xs : List α} {css : List (List Value)} {G : Nat → Prop} (i : Nat), Els d G w xs css →
    Els d G w (xs.set i y) (css.set i cs')
  | [], [], _, _, _ => trivial
  | x :: xs, c :: css, G, 0, ⟨E1, E2, e1, e2, e3, hy, h⟩ => ⟨E1, E2, e1, e2, e3, hM _ _ _ hy, h⟩
  | x :: xs, c :: css, G, i + 1, ⟨E1, E2, e1, e2, e3, hy, h⟩ => ⟨E1, E2, e1, e2, e3, hy, Els.set hM i h⟩
  | [], _ :: _, _, _, h => h.elim
  | _ :: _, [], _, _, h => h.elim
theorem Els.lens {w : World} : ∀ {xs : List α} {css : List (List Value)} {G : Nat → Prop}, Els d G w xs css → ∀ cs ∈ css, cs.length = d.sz ∧ ∀ u ∈ cs, u.oneCell' = true
  | [], [], _, _, cs, hc => by simp at hc
  | y :: ys, c :: css, G, ⟨E1, E2, e1, e2, e3, hy, h⟩, cs, hc => by
    rcases List.mem_cons.1 hc with rfl | hc
    · exact ⟨d.K_len (d.M_K hy), d.K_one (d.M_K hy)⟩
    · exact Els.lens h cs hc
  | [], _ :: _, _, h, _, _ => h.elim
  | _ :: _, [], _, h, _, _ => h.elim
end
theorem flatten_len {sz : Nat} : ∀ {css : List (List Value)}, (∀ cs ∈ css, cs.length = sz) → css.flatten.length = css.length * sz
  | [], _ => by simp
  | c :: r, h => by
    rw [List.flatten_cons, List.length_append, flatten_len (fun cs hc => h cs (List.mem_cons_of_mem _ hc)), h c (List.mem_cons_self ..), List.length_cons, Nat.add_mul]
    omega
theorem flatten_get {sz : Nat} : ∀ {css : List (List Value)}, (∀ cs ∈ css, cs.length = sz) → ∀ (i : Nat) (cs : List Value), css[i]? = some cs → ∀ (j : Nat) (u : Value), cs[j]? = some u → css.flatten[i * sz + j]? = some u
  | [], _, i, cs, hi, _, _, _ => by simp at hi
  | c :: r, h, 0, cs, hi, j, u, hu => by
    simp only [List.getElem?_cons_zero, Option.some.injEq] at hi
    subst hi
    have hj : j < c.length := (List.getElem?_eq_some_iff.1 hu).1
    rw [List.flatten_cons, Nat.zero_mul, Nat.zero_add, List.getElem?_append_left hj]
    exact hu
  | c :: r, h, i + 1, cs, hi, j, u, hu => by
    have := flatten_get (fun cs hc => h cs (List.mem_cons_of_mem _ hc)) i cs (by simpa using hi) j u hu
    have hc := h c (List.mem_cons_self ..)
    rw [List.flatten_cons, List.getElem?_append_right (by rw [hc, Nat.add_mul]; omega), hc, show (i + 1) * sz + j - sz = i * sz + j by rw [Nat.add_mul]; omega]
    exact this
def base : Value → Addr
  | .slice (some a) _ _ => a
  | _ => ⟨0, 0, none⟩
/-- A slice that is read: its blocks lie in Z. -/
def RD {α : Type} (d : Kd α) (Z : Nat → Prop) (w : World) (v : Value) (xs : List α) : Prop :=
  ∃ A c, v = .slice A xs.length c ∧ xs.length ≤ c ∧ c ≤ maxLen ∧ ∀ i x, xs[i]? = some x →
    ∃ ad : Addr, A = some ad ∧ ad.spot = none ∧ Z ad.block ∧ ∃ cs, d.K Z w x cs ∧ ∀ j u, cs[j]? = some u → w.cell? ⟨ad.block, ad.off + (i * d.sz + j), none⟩ = some u
/-- A slice that a call owns: the row, and what hangs on its elements, lie in G. -/
def Own {α : Type} (d : Kd α) (e : TypeId) (G : Nat → Prop) (w : World) (v : Value) (xs : List α) : Prop :=
  (∃ ad, v = .slice (some ad) 0 0 ∧ xs = []) ∨ ∃ css, w.ownsRow 0 e d.sz v xs.length css.flatten ∧ (∀ k, v.ownBlock = some k → G k) ∧ Els d (fun k => G k ∧ v.ownBlock ≠ some k) w xs css
section
variable {α : Type} {d : Kd α} {e : TypeId}
theorem cell_keep {w w' : World} {a : Addr} {u : Value} (h : w'.heap[a.block]? = w.heap[a.block]?) (hc : w.cell? a = some u) : w'.cell? a = some u :=
  (World.cell?_of_block (w := w) h).trans hc
theorem RD.stable {Z : Nat → Prop} {w w' : World} {v : Value} {xs : List α} (hs : ∀ k, Z k → k < w.heap.size → w'.heap[k]? = w.heap[k]?) (h : RD d Z w v xs) : RD d Z w' v xs := by
  obtain ⟨A, c, rfl, h1, hm, h2⟩ := h
  refine ⟨A, c, rfl, h1, hm, fun i x hi => ?_⟩
  obtain ⟨ad, hA, hsp, hZ, cs, hK, hc⟩ := h2 i x hi
  refine ⟨ad, hA, hsp, hZ, cs, d.K_stable hs hK, fun j u hu => ?_⟩
  have := hc j u hu
  exact cell_keep (hs _ hZ (World.block_lt_of_cell? w _ this)) this
theorem RD.mono {Z Z' : Nat → Prop} {w : World} {v : Value} {xs : List α} (hs : ∀ k, Z k → Z' k) (h : RD d Z w v xs) : RD d Z' w v xs := by
  obtain ⟨A, c, rfl, h1, hm, h2⟩ := h
  refine ⟨A, c, rfl, h1, hm, fun i x hi => ?_⟩
  obtain ⟨ad, hA, hsp, hZ, cs, hK, hc⟩ := h2 i x hi
  exact ⟨ad, hA, hsp, hs _ hZ, cs, d.K_mono hs hK, hc⟩
theorem RD.nil (d : Kd α) (Z : Nat → Prop) (w : World) : RD d Z w (.slice none 0 0) [] := ⟨none, 0, rfl, Nat.le_refl _, Nat.zero_le _, fun i x hi => by simp at hi⟩
theorem Own.nil (d : Kd α) (e : TypeId) (G : Nat → Prop) (w : World) : Own d e G w (.slice none 0 0) [] := .inr ⟨[], World.ownsRow_nil _ _ _ _, fun k hk => by simp [Value.ownBlock] at hk, trivial⟩
theorem own_block_of {w : World} {b e size n : Nat} {v : Value} {xs : List Value} (h : w.ownsRow b e size v n xs) {k : Nat} (hk : v.ownBlock = some k) : k < w.heap.size := (h.lt k hk).2
theorem Own.stable {G : Nat → Prop} {w w' : World} {v : Value} {xs : List α} (hs : ∀ k, G k → k < w.heap.size → w'.heap[k]? = w.heap[k]?) (h : Own d e G w v xs) : Own d e G w' v xs := by
  rcases h with h | ⟨css, h1, h2, h3⟩
  · exact .inl h
  refine .inr ⟨css, ⟨h1.1, ?_⟩, h2, h3.stable fun k hk => hs k hk.1⟩
  rcases h1.2 with hn | ⟨g, cap, cur, rfl, hb, hgg, rest⟩
  · exact .inl hn
  · exact .inr ⟨g, cap, cur, rfl, hb, (hs g (h2 g rfl) (Array.getElem?_eq_some_iff.1 hgg).1).trans hgg, rest⟩
theorem Own.mono {G G' : Nat → Prop} {w : World} {v : Value} {xs : List α} (hs : ∀ k, G k → G' k) (h : Own d e G w v xs) : Own d e G' w v xs := by
  rcases h with h | ⟨css, h1, h2, h3⟩
  · exact .inl h
  exact .inr ⟨css, h1, fun k hk => hs k (h2 k hk), h3.mono fun k hk => ⟨hs k hk.1, hk.2⟩⟩
theorem Own.inb {G : Nat → Prop} {w : World} {v : Value} {xs : List α} (h : Own d e G w v xs) : Own d e (fun k => G k ∧ k < w.heap.size) w v xs := by
  rcases h with h | ⟨css, h1, h2, h3⟩
  · exact .inl h
  exact .inr ⟨css, h1, fun k hk => ⟨h2 k hk, own_block_of h1 hk⟩, h3.inb.mono fun k hk => ⟨⟨hk.1.1, hk.2⟩, hk.1.2⟩⟩
/-- What is owned can be read. -/
theorem Own.rd {G : Nat → Prop} {w : World} {v : Value} {xs : List α} (h : Own d e G w v xs) : RD d G w v xs := by
  rcases h with ⟨ad, rfl, rfl⟩ | ⟨css, h1, h2, h3⟩
  · exact ⟨_, 0, rfl, Nat.le_refl _, Nat.zero_le _, fun i x hi => by simp at hi⟩
  have hl := fun cs hc => (h3.lens cs hc).1
  rcases h1.2 with ⟨rfl, hn⟩ | ⟨g, cap, cur, rfl, hb, hgg, hle, hm, hcs, htk⟩
  · obtain rfl : xs = [] := List.eq_nil_of_length_eq_zero hn
    exact RD.nil _ _ _
  · refine ⟨_, cap, rfl, hle, hm, fun i x hi => ⟨⟨g, 0, none⟩, rfl, rfl, h2 g rfl, ?_⟩⟩
    obtain ⟨cs, hci, hM⟩ := h3.get i x hi
    refine ⟨cs, d.M_K (d.M_mono (fun k hk => hk.1) hM), fun j u hu => ?_⟩
    have hf := flatten_get hl i cs hci j u hu
    rw [cell_of_row w g _ cur e (0, 0) hgg]
    rw [← htk, List.getElem?_take] at hf
    split at hf
    · simpa using hf
    · cases hf
end
/-- An owned slice as a piece of memory. -/
def Row {α : Type} (d : Kd α) (e : TypeId) (v : Value) (xs : List α) : SP where
  H G w := Own d e G w v xs
  stable hs h := h.stable hs
  mono hs h := h.mono hs
  inb h := h.inb
/-- Slices as elements. -/
def Kd.slice {α : Type} (e : TypeId) (d : Kd α) : Kd (List α) where
  sz := 1
  K Z w xs cs := ∃ v, cs = [v] ∧ RD d Z w v xs
  M G w xs cs := ∃ v, cs = [v] ∧ Own d e G w v xs
  K_len h := by obtain ⟨v, rfl, _⟩ := h; rfl
  K_one h u hu := by
    obtain ⟨v, rfl, A, c, rfl, _⟩ := h
    simp at hu
    subst hu
    rfl
  K_stable hs h := by obtain ⟨v, rfl, h⟩ := h; exact ⟨v, rfl, h.stable hs⟩
  K_mono hs h := by obtain ⟨v, rfl, h⟩ := h; exact ⟨v, rfl, h.mono hs⟩
  M_K h := by obtain ⟨v, rfl, h⟩ := h; exact ⟨v, rfl, h.rd⟩
  M_stable hs h := by obtain ⟨v, rfl, h⟩ := h; exact ⟨v, rfl, h.stable hs⟩
  M_mono hs h := by obtain ⟨v, rfl, h⟩ := h; exact ⟨v, rfl, h.mono hs⟩
  M_inb h := by obtain ⟨v, rfl, h⟩ := h; exact ⟨v, rfl, h.inb⟩
/-- Two things one behind the other. -/
def Kd.pair {α β : Type} (a : Kd α) (b : Kd β) : Kd (α × β) where
  sz := a.sz + b.sz
  K Z w x cs := ∃ c1 c2, cs = c1 ++ c2 ∧ a.K Z w x.1 c1 ∧ b.K Z w x.2 c2
  M G w x cs := ∃ c1 c2, cs = c1 ++ c2 ∧ ∃ G1 G2 : Nat → Prop, (∀ k, G1 k → G k) ∧ (∀ k, G2 k → G k) ∧ (∀ k, G1 k → ¬ G2 k) ∧ a.M G1 w x.1 c1 ∧ b.M G2 w x.2 c2
  K_len h := by obtain ⟨c1, c2, rfl, h1, h2⟩ := h; rw [List.length_append, a.K_len h1, b.K_len h2]
  K_one h u hu := by
    obtain ⟨c1, c2, rfl, h1, h2⟩ := h
    rcases List.mem_append.1 hu with hu | hu
    · exact a.K_one h1 u hu
    · exact b.K_one h2 u hu
  K_stable hs h := by obtain ⟨c1, c2, rfl, h1, h2⟩ := h; exact ⟨c1, c2, rfl, a.K_stable hs h1, b.K_stable hs h2⟩
  K_mono hs h := by obtain ⟨c1, c2, rfl, h1, h2⟩ := h; exact ⟨c1, c2, rfl, a.K_mono hs h1, b.K_mono hs h2⟩
  M_K h := by obtain ⟨c1, c2, rfl, G1, G2, g1, g2, _, h1, h2⟩ := h; exact ⟨c1, c2, rfl, a.K_mono g1 (a.M_K h1), b.K_mono g2 (b.M_K h2)⟩
  M_stable hs h := by
    obtain ⟨c1, c2, rfl, G1, G2, g1, g2, g3, h1, h2⟩ := h
    exact ⟨c1, c2, rfl, G1, G2, g1, g2, g3, a.M_stable (fun k hk => hs k (g1 k hk)) h1, b.M_stable (fun k hk => hs k (g2 k hk)) h2⟩
  M_mono hs h := by
    obtain ⟨c1, c2, rfl, G1, G2, g1, g2, g3, h1, h2⟩ := h
    exact ⟨c1, c2, rfl, G1, G2, fun k hk => hs k (g1 k hk), fun k hk => hs k (g2 k hk), g3, h1, h2⟩
  M_inb h := by
    obtain ⟨c1, c2, rfl, G1, G2, g1, g2, g3, h1, h2⟩ := h
    exact ⟨c1, c2, rfl, _, _, fun k hk => ⟨g1 k hk.1, hk.2⟩, fun k hk => ⟨g2 k hk.1, hk.2⟩, fun k hk hk' => g3 k hk.1 hk'.1, a.M_inb h1, b.M_inb h2⟩
/-- The same under another shape. -/
def Kd.iso {α β : Type} (d : Kd α) (f : β → α) : Kd β where
  sz := d.sz
  K Z w x cs := d.K Z w (f x) cs
  M G w x cs := d.M G w (f x) cs
  K_len h := d.K_len h
  K_one h := d.K_one h
  K_stable hs h := d.K_stable hs h
  K_mono hs h := d.K_mono hs h
  M_K h := d.M_K h
  M_stable hs h := d.M_stable hs h
  M_mono hs h := d.M_mono hs h
  M_inb h := d.M_inb h
end Go.Proofs.YtbaemhkfmddakaaGreat.Sy
