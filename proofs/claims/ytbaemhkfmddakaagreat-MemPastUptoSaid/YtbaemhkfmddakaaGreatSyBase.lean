import Derived.Test.YtbaemhkfmddakaaGreatSyWq
import Derived.Deep.MidRow
import Derived.Deep.Draws
import Derived.Laws.AppendOwn
import Derived.KernelRfl
set_option linter.unusedVariables false
set_option linter.unusedSectionVars false
namespace Go.Proofs.YtbaemhkfmddakaaGreat.Sy
open Go
def look : List (Nat × Value) → Nat → Option Value
  | [], _ => none
  | p :: r, i => cond (Nat.beq p.1 i) (some p.2) (look r i)
structure ST (Δ : List Deferred) (N : Nat) (a : Act) (L : List (Nat × Value)) : Prop where
  size : a.tmps.size = N
  defers : a.defers = Δ
  get : ∀ i v, look L i = some v → a.tmps[i]? = some v
def ev (L : List (Nat × Value)) : Operand → Option Value
  | .tmp t => look L t
  | .const v => some v
  | .global g => some (.pointer (some ⟨g, 0, none⟩))
  | .func f => some (.func (.func f) #[] #[])
theorem ST.ev {Δ N a L} (h : ST Δ N a L) {x : Operand} {v : Value} (hx : ev L x = some v) : a.eval x = v := by
  cases x with
  | tmp t =>
    have := h.get t v hx
    simp [Act.eval, this]
  | const u => exact Option.some.inj hx
  | global g => exact Option.some.inj hx
  | func f => exact Option.some.inj hx
theorem ST.put {Δ N a L} (h : ST Δ N a L) {d : Nat} (hd : Nat.blt d N = true) (v : Value) : ST Δ N (a.put (some d) v) ((d, v) :: L) := by
  have hd' : d < N := by simpa [Nat.blt_eq] using hd
  refine ⟨by simp [Act.put, h.size], h.defers, ?_⟩
  intro i u hu
  simp only [look] at hu
  by_cases hi : d = i
  · subst hi
    simp only [Nat.beq_refl, cond_true, Option.some.injEq] at hu
    subst hu
    simp [Act.put, h.size, hd']
  · have : Nat.beq d i = false := by
      cases hb : Nat.beq d i with
      | false => rfl
      | true => exact absurd (Nat.eq_of_beq_eq_true hb) hi
    rw [this, cond_false] at hu
    simp only [Act.put, Array.getElem?_setIfInBounds]
    rw [if_neg hi]
    exact h.get i u hu
theorem ST.putN {Δ N a L} (h : ST Δ N a L) (v : Value) : ST Δ N (a.put none v) L := h
/-- Which slots are kept. -/
def Keep (L : List (Nat × Value)) : List (Nat × Value) → Prop
  | [] => True
  | p :: r => look L p.1 = some p.2 ∧ Keep L r
theorem ST.keep {Δ N a L} (h : ST Δ N a L) (L' : List (Nat × Value)) (hk : Keep L L') : ST Δ N a L' := by
  refine ⟨h.size, h.defers, ?_⟩
  induction L' with
  | nil => intro i v hv; simp [look] at hv
  | cons p r ih =>
    intro i v hv
    simp only [look] at hv
    cases hb : Nat.beq p.1 i with
    | true =>
      rw [hb, cond_true] at hv
      have := Nat.eq_of_beq_eq_true hb
      subst this
      injection hv with hv
      subst hv
      exact h.get _ _ hk.1
    | false =>
      rw [hb, cond_false] at hv
      exact ih hk.2 i v hv
/-- The slots of the parameters. -/
def args0 : Nat → List Value → List (Nat × Value)
  | _, [] => []
  | i, v :: r => (i, v) :: args0 (i + 1) r
theorem look_args0 : ∀ (l : List Value) (k i : Nat) (v : Value), look (args0 k l) i = some v → k ≤ i ∧ l[i - k]? = some v
  | [], k, i, v, h => by simp [args0, look] at h
  | u :: r, k, i, v, h => by
    simp only [args0, look] at h
    cases hb : Nat.beq k i with
    | true =>
      rw [hb, cond_true] at h
      have := Nat.eq_of_beq_eq_true hb
      subst this
      exact ⟨Nat.le_refl _, by simpa using h⟩
    | false =>
      rw [hb, cond_false] at h
      obtain ⟨h1, h2⟩ := look_args0 r (k + 1) i v h
      refine ⟨by omega, ?_⟩
      rw [show i - k = (i - (k + 1)) + 1 by omega]
      simpa using h2
theorem ST.init (N : Nat) (l : List Value) (hN : l.length ≤ N) : ST [] N { tmps := l.toArray ++ Array.replicate (N - l.toArray.size) undef, defers := [] } (args0 0 l) := by
  refine ⟨by simp; omega, rfl, ?_⟩
  intro i v h
  obtain ⟨_, h2⟩ := look_args0 l 0 i v h
  have hi : i < l.length := by
    rcases Nat.lt_or_ge i l.length with h | h
    · exact h
    · simp only [Nat.sub_zero, List.getElem?_eq_none h] at h2
      cases h2
  simp only [Nat.sub_zero] at h2
  rw [Array.getElem?_append_left (by simpa using hi)]
  simpa using h2
section
variable {J : Act → World → Prop} {Q : Exit → Act → World → Prop} {a : Act} {w : World}
theorem then_normal (h : J a w) : Exit.then J Q .normal a w := h
theorem then_ret (h : Q .ret a w) : Exit.then J Q .ret a w := h
theorem then_exit {id : Nat} (h : Q (.exit id) a w) : Exit.then J Q (.exit id) a w := h
theorem block_normal {id : Nat} (h : Q .normal a w) : Exit.inBlock id Q .normal a w := h
theorem block_ret {id : Nat} (h : Q .ret a w) : Exit.inBlock id Q .ret a w := h
theorem block_hit {id : Nat} (h : Q .normal a w) : Exit.inBlock id Q (.exit id) a w := by
  show (if id = id then Q .normal a w else Q (.exit id) a w)
  rw [if_pos rfl]; exact h
theorem block_miss {id id' : Nat} (hne : Nat.beq id' id = false) (h : Q (.exit id') a w) : Exit.inBlock id Q (.exit id') a w := by
  show (if id' = id then Q .normal a w else Q (.exit id') a w)
  rw [if_neg (fun e => by subst e; simp at hne)]; exact h
end
section
variable {ρ : Option Nat} {Δ : List Deferred} variable {P : Program} {Q : Exit → Act → World → Prop} {a : Act} {w : World}
/-- The ways of x meet again in J. -/
theorem wq_cut {x y : Code} (J : Act → World → Prop) (hy : ∀ a w, J a w → wq y ρ P Q a w) (hx : wq x ρ P (Exit.then J Q) a w) : wq (Code.seq x y) ρ P Q a w :=
  wq_seq (wq_mono (fun e a' w' h => by cases e <;> first | exact hy _ _ h | exact h) hx)
theorem wq_loop_fuel {c : Code} (I : Nat → Act → World → Prop) (k : Nat) (h0 : I k a w)
    (round : ∀ k a w, I k a w → wq c ρ P (Exit.then (fun a' w' => ∃ k', k' < k ∧ I k' a' w') Q) a w) : wq (Code.loop c) ρ P Q a w :=
  wq_loop_ghost I k h0 round
end
structure Kp (F : Nat → Prop) (w w' : World) : Prop where
  os : w'.os = w.os
  tape : w'.tape = w.tape
  output : w'.output = w.output
  size : w.heap.size ≤ w'.heap.size
  keep : ∀ k, k < w.heap.size → ¬ F k → w'.heap[k]? = w.heap[k]?
theorem Kp.refl (F : Nat → Prop) (w : World) : Kp F w w := ⟨rfl, rfl, rfl, Nat.le_refl _, fun _ _ _ => rfl⟩
theorem Kp.trans {F F' : Nat → Prop} {a b c : World} (h : Kp F a b) (k : Kp F' b c) (hF : ∀ i, F' i → F i ∨ a.heap.size ≤ i) : Kp F a c :=
  ⟨k.os.trans h.os, k.tape.trans h.tape, k.output.trans h.output, Nat.le_trans h.size k.size, fun i hi hn => by
    rw [k.keep i (Nat.lt_of_lt_of_le hi h.size) (fun hf => by rcases hF i hf with h1 | h1; exact hn h1; omega)]
    exact h.keep i hi hn⟩
theorem Kp.mono {F F' : Nat → Prop} {w w' : World} (h : Kp F w w') (hF : ∀ i, F i → F' i) : Kp F' w w' :=
  ⟨h.os, h.tape, h.output, h.size, fun k hk hn => h.keep k hk fun hf => hn (hF k hf)⟩
theorem Kp.drew {F : Nat → Prop} {w w' : World} (h : Kp F w w') : Kp F w w'.drew := ⟨h.os, h.tape, h.output, h.size, h.keep⟩
structure SP where
  H : (Nat → Prop) → World → Prop
  stable : ∀ {G w w'}, (∀ k, G k → k < w.heap.size → w'.heap[k]? = w.heap[k]?) → H G w → H G w'
  mono : ∀ {G G' w}, (∀ k, G k → G' k) → H G w → H G' w
  inb : ∀ {G w}, H G w → H (fun k => G k ∧ k < w.heap.size) w
/-- One block, known whole. -/
def Box (g : Nat) (cs : List Value) (t : TypeId) : SP where
  H G w := G g ∧ w.heap[g]? = some (.cells cs.toArray t (0, 0))
  stable h h' := ⟨h'.1, (h g h'.1 (Array.getElem?_eq_some_iff.1 h'.2).1).trans h'.2⟩
  mono h h' := ⟨h _ h'.1, h'.2⟩
  inb h := ⟨⟨h.1, (Array.getElem?_eq_some_iff.1 h.2).1⟩, h.2⟩
def Sep : (Nat → Prop) → World → List SP → Prop
  | _, _, [] => True
  | G, w, A :: r => ∃ G1 G2 : Nat → Prop, (∀ k, G1 k → G k) ∧ (∀ k, G2 k → G k) ∧ (∀ k, G1 k → ¬ G2 k) ∧ A.H G1 w ∧ Sep G2 w r
theorem Sep.stable {w w' : World} : ∀ {L : List SP} {G : Nat → Prop}, (∀ k, G k → k < w.heap.size → w'.heap[k]? = w.heap[k]?) → Sep G w L → Sep G w' L
  | [], _, _, _ => trivial
  | _ :: _, _, h, ⟨G1, G2, h1, h2, h3, hA, hr⟩ => ⟨G1, G2, h1, h2, h3, SP.stable _ (fun k hk => h k (h1 k hk)) hA, Sep.stable (fun k hk => h k (h2 k hk)) hr⟩
theorem Sep.mono {w : World} : ∀ {L : List SP} {G G' : Nat → Prop}, (∀ k, G k → G' k) → Sep G w L → Sep G' w L
  | [], _, _, _, _ => trivial
  | _ :: _, _, _, h, ⟨G1, G2, h1, h2, h3, hA, hr⟩ => ⟨G1, G2, fun k hk => h k (h1 k hk), fun k hk => h k (h2 k hk), h3, hA, hr⟩
theorem Sep.inb {w : World} : ∀ {L : List SP} {G : Nat → Prop}, Sep G w L → Sep (fun k => G k ∧ k < w.heap.size) w L
  | [], _, _ => trivial
  | _ :: _, _, ⟨G1, G2, h1, h2, h3, hA, hr⟩ =>
    ⟨fun k => G1 k ∧ k < w.heap.size, fun k => G2 k ∧ k < w.heap.size, fun k hk => ⟨h1 k hk.1, hk.2⟩, fun k hk => ⟨h2 k hk.1, hk.2⟩, fun k hk hk' => h3 k hk.1 hk'.1, SP.inb _ hA, Sep.inb hr⟩
/-- The piece at place i, and the others. -/
theorem Sep.pull {w : World} : ∀ {L : List SP} {G : Nat → Prop} (i : Nat) {A : SP}, L[i]? = some A → Sep G w L → Sep G w (A :: L.eraseIdx i)
  | B :: r, G, 0, A, hi, h => by
    simp only [List.getElem?_cons_zero, Option.some.injEq] at hi
    subst hi
    simpa using h
  | B :: r, G, i + 1, A, hi, ⟨G1, G2, h1, h2, h3, hB, hr⟩ => by
    simp only [List.getElem?_cons_succ] at hi
    obtain ⟨E1, E2, e1, e2, e3, hA, hr'⟩ := Sep.pull i hi hr
    refine ⟨E1, fun k => G1 k ∨ E2 k, fun k hk => h2 k (e1 k hk), fun k hk => hk.elim (h1 k) (fun h => h2 k (e2 k h)), ?_, hA, ?_⟩
    · rintro k hk (h | h)
      · exact h3 k h (e1 k hk)
      · exact e3 k hk h
    · exact ⟨G1, E2, fun k => .inl, fun k => .inr, fun k hk hk' => h3 k hk (e2 k hk'), hB, hr'⟩
  | [], _, _, _, hi, _ => by simp at hi
theorem Sep.tail {w : World} {A : SP} {L : List SP} {G : Nat → Prop} (h : Sep G w (A :: L)) : Sep G w L := by
  obtain ⟨G1, G2, h1, h2, h3, hA, hr⟩ := h
  exact hr.mono h2
theorem Sep.head {w : World} {A : SP} {L : List SP} {G : Nat → Prop} (h : Sep G w (A :: L)) : A.H G w := by
  obtain ⟨G1, G2, h1, h2, h3, hA, hr⟩ := h
  exact A.mono h1 hA
theorem Sep.split {w : World} : ∀ {L L' : List SP} {G : Nat → Prop}, Sep G w (L ++ L') → ∃ G1 G2 : Nat → Prop, (∀ k, G1 k → G k) ∧ (∀ k, G2 k → G k) ∧ (∀ k, G1 k → ¬ G2 k) ∧ Sep G1 w L ∧ Sep G2 w L'
  | [], L', G, h => ⟨fun _ => False, G, fun _ h => h.elim, fun _ h => h, fun _ h => h.elim, trivial, h⟩
  | A :: r, L', G, ⟨G1, G2, h1, h2, h3, hA, hr⟩ => by
    obtain ⟨E1, E2, e1, e2, e3, k1, k2⟩ := Sep.split hr
    refine ⟨fun k => G1 k ∨ E1 k, E2, fun k hk => hk.elim (h1 k) (fun h => h2 k (e1 k h)), fun k hk => h2 k (e2 k hk), ?_, ⟨G1, E1, fun _ => .inl, fun _ => .inr, fun k hk hk' => h3 k hk (e1 k hk'), hA, k1⟩, k2⟩
    rintro k (h | h) h'
    · exact h3 k h (e2 k h')
    · exact e3 k h h'
theorem Sep.join {w : World} : ∀ {L L' : List SP} {G1 G2 G : Nat → Prop}, (∀ k, G1 k → G k) → (∀ k, G2 k → G k) → (∀ k, G1 k → ¬ G2 k) → Sep G1 w L → Sep G2 w L' → Sep G w (L ++ L')
  | [], L', G1, G2, G, _, h2, _, _, h' => h'.mono h2
  | A :: r, L', G1, G2, G, h1, h2, h3, ⟨E1, E2, e1, e2, e3, hA, hr⟩, h' => by
    refine ⟨E1, fun k => E2 k ∨ G2 k, fun k hk => h1 k (e1 k hk), fun k hk => hk.elim (fun h => h1 k (e2 k h)) (h2 k), ?_, hA, Sep.join (fun _ => .inl) (fun _ => .inr) (fun k hk hk' => h3 k (e2 k hk) hk') hr h'⟩
    rintro k hk (h | h)
    · exact e3 k hk h
    · exact h3 k (e1 k hk) h
/-- What this call owns now: blocks of F that it was handed, and new ones. -/
def Mine (F : Nat → Prop) (w0 w : World) : Nat → Prop := fun k => k < w.heap.size ∧ (F k ∨ w0.heap.size ≤ k)
structure SH (F : Nat → Prop) (w0 w : World) (L : List SP) : Prop where
  kp : Kp F w0 w
  sep : Sep (Mine F w0 w) w L
theorem SH.start {F : Nat → Prop} {w : World} {L : List SP} (h : Sep F w L) : SH F w w L :=
  ⟨Kp.refl F w, h.inb.mono fun k hk => ⟨hk.2, .inl hk.1⟩⟩
theorem SH.zero (F : Nat → Prop) (w : World) : SH F w w [] := ⟨Kp.refl F w, trivial⟩
/-- The pieces in another order; some let go. -/
def picks (L : List SP) : List Nat → List SP
  | [] => []
  | i :: r => match L[i]? with
    | some A => A :: picks (L.eraseIdx i) r
    | none => picks L r
theorem Sep.picks {w : World} : ∀ (σ : List Nat) {L : List SP} {G : Nat → Prop}, Sep G w L → Sep G w (picks L σ)
  | [], _, _, _ => trivial
  | i :: r, L, G, h => by
    unfold Sy.picks
    split
    · rename_i A hA
      obtain ⟨G1, G2, h1, h2, h3, hA', hr⟩ := Sep.pull i hA h
      exact ⟨G1, G2, h1, h2, h3, hA', Sep.picks r hr⟩
    · exact Sep.picks r h
/-- σ: places, each one counted in what the ones before it left. -/
theorem SH.pick {F : Nat → Prop} {w0 w : World} {L : List SP} (h : SH F w0 w L) (σ : List Nat) : SH F w0 w (Sy.picks L σ) := ⟨h.kp, h.sep.picks σ⟩
theorem SH.drew {F : Nat → Prop} {w0 w : World} {L : List SP} (h : SH F w0 w L) : SH F w0 w.drew L := ⟨h.kp.drew, Sep.stable (w := w) (w' := w.drew) (fun _ _ _ => rfl) h.sep⟩
theorem alloc_old (w : World) (o : Obj) (k : Nat) (h : k < w.heap.size) : (w.alloc o).heap[k]? = w.heap[k]? := heap_alloc_old w o k h
theorem Mine.alloc {F : Nat → Prop} {w0 w : World} (o : Obj) {k : Nat} (h : Mine F w0 w k) : Mine F w0 (w.alloc o) k := ⟨by have := h.1; simp; omega, h.2⟩
/-- A new block. -/
theorem SH.alloc {F : Nat → Prop} {w0 w : World} {L : List SP} (h : SH F w0 w L) (cs : List Value) (t : TypeId) : SH F w0 (w.alloc (.cells cs.toArray t)) (Box w.heap.size cs t :: L) := by
  have hs : ∀ k, k < w.heap.size → (w.alloc (.cells cs.toArray t)).heap[k]? = w.heap[k]? := fun k hk => alloc_old w _ k hk
  refine ⟨⟨h.kp.os, h.kp.tape, h.kp.output, by have := h.kp.size; simp; omega, fun k hk hn => by rw [hs k (by have := h.kp.size; omega)]; exact h.kp.keep k hk hn⟩, ?_⟩
  refine ⟨fun k => k = w.heap.size, Mine F w0 w, ?_, fun k hk => hk.alloc _, ?_, ⟨rfl, heap_alloc_new w _⟩, h.sep.stable fun k hk _ => hs k hk.1⟩
  · rintro k rfl
    exact ⟨by simp, .inr h.kp.size⟩
  · rintro k rfl hk
    exact absurd hk.1 (Nat.lt_irrefl _)
theorem setCell_far (w : World) (a : Addr) (v : Value) (k : Nat) (h : k ≠ a.block) : (w.setCell a v).heap[k]? = w.heap[k]? := by
  simp only [World.setCell, Array.getElem?_modify]
  rw [if_neg (by omega)]
theorem setCell_at (w : World) (g j : Nat) (v : Value) (cs : List Value) (t : TypeId) (h : w.heap[g]? = some (.cells cs.toArray t (0, 0))) :
    (w.setCell ⟨g, j, none⟩ v).heap[g]? = some (.cells (cs.set j v).toArray t (0, 0)) := by
  simp only [World.setCell, Array.getElem?_modify, if_true, h, Option.map_some]
  simp
theorem SH.box {F : Nat → Prop} {w0 w : World} {L : List SP} (h : SH F w0 w L) (i : Nat) {g : Nat} {cs : List Value} {t : TypeId} (hi : L[i]? = some (Box g cs t)) : w.heap[g]? = some (.cells cs.toArray t (0, 0)) :=
  (h.sep.pull i hi).head.2
/-- The block at place i is written: what it holds now is known. -/
theorem SH.boxSet {F : Nat → Prop} {w0 w w' : World} {L : List SP} (h : SH F w0 w L) (i : Nat) {g : Nat} {cs cs' : List Value} {t : TypeId} (hi : L[i]? = some (Box g cs t))
    (ho : w'.os = w.os) (ht : w'.tape = w.tape) (hp : w'.output = w.output) (hs : w'.heap.size = w.heap.size) (hf : ∀ k, k ≠ g → w'.heap[k]? = w.heap[k]?) (hg : w'.heap[g]? = some (.cells cs'.toArray t (0, 0))) :
    SH F w0 w' (Box g cs' t :: L.eraseIdx i) := by
  obtain ⟨G1, G2, h1, h2, h3, hA, hr⟩ := h.sep.pull i hi
  have hgm := h1 g hA.1
  refine ⟨⟨ho.trans h.kp.os, ht.trans h.kp.tape, hp.trans h.kp.output, by have := h.kp.size; omega, fun k hk hn => ?_⟩, ?_⟩
  · rw [hf k (fun e => by subst e; rcases hgm.2 with h | h; exact hn h; omega)]
    exact h.kp.keep k hk hn
  · refine ⟨G1, G2, fun k hk => ⟨by rw [hs]; exact (h1 k hk).1, (h1 k hk).2⟩, fun k hk => ⟨by rw [hs]; exact (h2 k hk).1, (h2 k hk).2⟩, h3, ⟨hA.1, hg⟩, hr.stable fun k hk _ => hf k ?_⟩
    rintro rfl
    exact h3 k hA.1 hk
/-- A call is handed the first n pieces. -/
theorem SH.call {F : Nat → Prop} {w0 w : World} {L1 L2 : List SP} (h : SH F w0 w (L1 ++ L2)) :
    ∃ G : Nat → Prop, Sep G w L1 ∧ (∀ k, G k → k < w.heap.size ∧ (F k ∨ w0.heap.size ≤ k)) ∧ ∀ w' L', SH G w w' L' → SH F w0 w' (L' ++ L2) := by
  obtain ⟨G1, G2, h1, h2, h3, k1, k2⟩ := h.sep.split
  refine ⟨G1, k1, h1, ?_⟩
  intro w' L' hc
  refine ⟨h.kp.trans hc.kp fun i hi => (h1 i hi).2, ?_⟩
  refine Sep.join (G1 := Mine G1 w w') (G2 := G2) ?_ ?_ ?_ hc.sep ?_
  · rintro k ⟨hk, hg | hn⟩
    · exact ⟨hk, (h1 k hg).2⟩
    · exact ⟨hk, .inr (Nat.le_trans h.kp.size hn)⟩
  · intro k hk
    exact ⟨Nat.lt_of_lt_of_le (h2 k hk).1 hc.kp.size, (h2 k hk).2⟩
  · rintro k ⟨_, hg | hn⟩ hk
    · exact h3 k hg hk
    · have := (h2 k hk).1; omega
  · exact k2.stable fun k hk hlt => hc.kp.keep k hlt fun hg => h3 k hg hk
/-- A call that is handed nothing. -/
theorem SH.call0 {F : Nat → Prop} {w0 w w' : World} {L L' : List SP} (h : SH F w0 w L) (hc : SH (fun _ => False) w w' L') : SH F w0 w' (L' ++ L) := by
  refine ⟨h.kp.trans hc.kp fun i hi => hi.elim, ?_⟩
  refine Sep.join (G1 := Mine (fun _ => False) w w') (G2 := Mine F w0 w) ?_ ?_ ?_ hc.sep ?_
  · rintro k ⟨hk, hg | hn⟩
    · exact hg.elim
    · exact ⟨hk, .inr (Nat.le_trans h.kp.size hn)⟩
  · intro k hk
    exact ⟨Nat.lt_of_lt_of_le hk.1 hc.kp.size, hk.2⟩
  · rintro k ⟨_, hg | hn⟩ hk
    · exact hg.elim
    · have := hk.1; omega
  · exact h.sep.stable fun k hk hlt => hc.kp.keep k hlt fun hg => hg
/-- Blocks of Z read in w as they did in wr. -/
def Same (Z : Nat → Prop) (wr w : World) : Prop := ∀ k, Z k → k < wr.heap.size → w.heap[k]? = wr.heap[k]?
theorem Same.refl (Z : Nat → Prop) (w : World) : Same Z w w := fun _ _ _ => rfl
theorem Same.trans {Z : Nat → Prop} {a b c : World} (h : Same Z a b) (k : Same Z b c) : Same Z a c := fun i hi hl => by
  have := h i hi hl
  refine (k i hi ?_).trans this
  have hs : (b.heap[i]?).isSome := by rw [this]; simp [hl]
  exact (Array.getElem?_eq_some_iff.1 (Option.eq_some_of_isSome hs)).1
theorem Same.sh {Z F : Nat → Prop} {wr w0 w : World} {L : List SP} (h : Same Z wr w0) (hz : ∀ k, Z k → k < w0.heap.size → ¬ F k) (hs : SH F w0 w L) : Same Z wr w :=
  h.trans fun k hk hl => hs.kp.keep k hl (hz k hk hl)
theorem Same.sh0 {Z : Nat → Prop} {wr w0 w : World} {L : List SP} (h : Same Z wr w0) (hs : SH (fun _ => False) w0 w L) : Same Z wr w :=
  h.sh (fun _ _ _ h => h) hs
end Go.Proofs.YtbaemhkfmddakaaGreat.Sy
