import Derived.Test.YtbaemhkfmddakaaGreatSyFun
import Derived.Scope
set_option linter.unusedVariables false
set_option linter.unusedSectionVars false
set_option linter.unusedSimpArgs false
namespace Go.Proofs.YtbaemhkfmddakaaGreat.Sy
open Go
theorem setL_mid : ∀ (vs pre old post : List Value), old.length = vs.length → setL (pre ++ old ++ post) pre.length vs = pre ++ vs ++ post
  | [], pre, old, post, h => by
    have : old = [] := List.eq_nil_of_length_eq_zero h
    subst this
    rfl
  | v :: r, pre, old, post, h => by
    obtain ⟨o, os, rfl⟩ : ∃ o os, old = o :: os := by
      cases old with
      | nil => simp at h
      | cons o os => exact ⟨o, os, rfl⟩
    have hset : (pre ++ o :: os ++ post).set pre.length v = (pre ++ [v]) ++ os ++ post := by
      rw [List.append_assoc, List.set_append_right _ _ (Nat.le_refl _)]
      simp
    have := setL_mid r (pre ++ [v]) os post (by simpa using h)
    simp only [List.length_append, List.length_singleton] at this
    rw [setL, hset, this]
    simp
def upd {α : Type} (xs : List α) (i : Int) (y : α) : Option (List α) := if 0 ≤ i ∧ i < xs.length then some (xs.set i.toNat y) else none
theorem upd_some {α : Type} {xs ys : List α} {i : Int} {y : α} (h : upd xs i y = some ys) : ys = xs.set i.toNat y := by
  unfold upd at h
  split at h
  · injection h with h
    exact h.symm
  · cases h
theorem split_at {β : Type} : ∀ (l : List β) (i : Nat) (x : β), l[i]? = some x → ∃ a b, l = a ++ x :: b ∧ a.length = i
  | [], i, x, h => by simp at h
  | y :: l, 0, x, h => by
    simp at h
    subst h
    exact ⟨[], l, rfl, rfl⟩
  | y :: l, i + 1, x, h => by
    obtain ⟨a, b, rfl, h2⟩ := split_at l i x (by simpa using h)
    exact ⟨y :: a, b, rfl, by simp [h2]⟩
/-- A part of one element's cells written. -/
theorem setL_flatten {sz : Nat} {css : List (List Value)} (hl : ∀ cs ∈ css, cs.length = sz) {i off : Nat} {c vs : List Value} (hi : css[i]? = some c) (ho : off + vs.length ≤ sz) :
    setL css.flatten (i * sz + off) vs = (css.set i (setL c off vs)).flatten := by
  obtain ⟨a, b, rfl, rfl⟩ := split_at css i c hi
  have hc : c.length = sz := hl c (by simp)
  have ha : a.flatten.length = a.length * sz := flatten_len (fun cs h => hl cs (by simp [h]))
  have h1 : c = c.take off ++ (c.drop off).take vs.length ++ c.drop (off + vs.length) := by
    rw [List.append_assoc, ← List.drop_drop, List.take_append_drop, List.take_append_drop]
  have h2 : ((c.drop off).take vs.length).length = vs.length := by simp; omega
  have h3 : (c.take off).length = off := by simp; omega
  have e1 : setL c off vs = c.take off ++ vs ++ c.drop (off + vs.length) := by
    have := setL_mid vs (c.take off) ((c.drop off).take vs.length) (c.drop (off + vs.length)) h2
    rw [h3, ← h1] at this
    exact this
  have e2 := setL_mid vs (a.flatten ++ c.take off) ((c.drop off).take vs.length) (c.drop (off + vs.length) ++ b.flatten) h2
  have e3 : (a ++ c :: b).flatten = a.flatten ++ c.take off ++ (c.drop off).take vs.length ++ (c.drop (off + vs.length) ++ b.flatten) := by
    rw [List.flatten_append, List.flatten_cons]
    conv => lhs; rw [h1]
    simp
  have e4 : (a.flatten ++ c.take off).length = a.length * sz + off := by rw [List.length_append, ha, h3]
  rw [e4] at e2
  rw [e3, e2, e1]
  simp
theorem ownsRow_setCells {base e size g n cap : Nat} : ∀ (vs : List Value) (w : World) (xs : List Value) (j : Nat), w.ownsRow base e size (.slice (some ⟨g, 0, none⟩) n cap) n xs →
    (w.setCells g j vs).ownsRow base e size (.slice (some ⟨g, 0, none⟩) n cap) n (setL xs j vs)
  | [], w, xs, j, h => h
  | v :: r, w, xs, j, h => ownsRow_setCells r (w.setCell ⟨g, j, none⟩ v) (xs.set j v) (j + 1) (h.stored j v).1
section
variable {α : Type} {dk : Kd α} {e : TypeId} {F : Nat → Prop} {w0 w : World} {M : List SP} {v : Value} {xs : List α}
/-- One element of an owned row written, in part or whole. -/
theorem SH.rowStore (h : SH F w0 w M) (i : Nat) (hi : M[i]? = some (Row dk e v xs)) {j : Int} {old new : α} (hx : idx xs j = some old) {off : Nat} {vs cs' : List Value} (ho : off + vs.length ≤ dk.sz)
    (hc : ∀ Z w cs, dk.K Z w old cs → setL cs off vs = cs') (hn : ∀ G w, dk.M G w new cs') :
    (∀ m, m < vs.length → (w.cell? ⟨(base v).block, (base v).off + (j.toNat * dk.sz + off) + m, none⟩).isSome = true ∧ w.frozen? ⟨(base v).block, (base v).off + (j.toNat * dk.sz + off) + m, none⟩ = false) ∧
    SH F w0 (w.setCells (base v).block ((base v).off + (j.toNat * dk.sz + off)) vs) (Row dk e v (xs.set j.toNat new) :: M.eraseIdx i) := by
  obtain ⟨h0, hlt, hxj⟩ := idx_some hx
  obtain ⟨G1, G2, h1, h2, h3, hA, hr⟩ := h.sep.pull i hi
  rcases hA with ⟨ad, rfl, rfl⟩ | ⟨css, hown, hblk, hels⟩
  · simp at hxj
  obtain ⟨c, hcj, hM⟩ := hels.get _ _ hxj
  have hlen := fun cs hc => (hels.lens cs hc).1
  have hcss := hels.length
  rcases hown.2 with ⟨rfl, hn0⟩ | ⟨g, cap, cur, rfl, hb, hgg, hle, hcm, hcs, htk⟩
  · exfalso
    rw [hn0] at hlt
    omega
  have hc' := hc _ _ _ (dk.M_K hM)
  have hfl := setL_flatten hlen (off := off) (vs := vs) hcj ho
  rw [hc'] at hfl
  have hown' := ownsRow_setCells vs w css.flatten (j.toNat * dk.sz + off) hown
  rw [hfl] at hown'
  have hgG := hblk g rfl
  have hgm := h1 g hgG
  obtain ⟨s1, s2, s3, s4⟩ := setCells_same vs w g (j.toNat * dk.sz + off)
  have hfar : ∀ k, k ≠ g → (w.setCells g (j.toNat * dk.sz + off) vs).heap[k]? = w.heap[k]? := fun k hk => setCells_far vs w g (j.toNat * dk.sz + off) k hk
  have hbase : base (.slice (some ⟨g, 0, none⟩) xs.length cap) = ⟨g, 0, none⟩ := rfl
  simp only [hbase, Nat.zero_add]
  refine ⟨fun m hm => ?_, ⟨⟨s1.trans h.kp.os, s2.trans h.kp.tape, s3.trans h.kp.output, by have := h.kp.size; omega, fun k hk hn => ?_⟩, ?_⟩⟩
  · have hin : j.toNat * dk.sz + off + m < xs.length * dk.sz := by
      have : (j.toNat + 1) * dk.sz ≤ xs.length * dk.sz := Nat.mul_le_mul_right _ (by omega)
      rw [Nat.add_mul] at this
      omega
    refine ⟨?_, hown.frozenAt (cap := cap) _⟩
    rw [hown.cellAt _ hin]
    rw [List.getElem?_eq_getElem (by rw [hown.1]; exact hin)]
    rfl
  · rw [hfar k (fun e => by subst e; rcases hgm.2 with h | h; exact hn h; omega)]
    exact h.kp.keep k hk hn
  · refine ⟨G1, G2, fun k hk => ⟨by rw [s4]; exact (h1 k hk).1, (h1 k hk).2⟩, fun k hk => ⟨by rw [s4]; exact (h2 k hk).1, (h2 k hk).2⟩, h3, .inr ⟨css.set j.toNat cs', ?_, ?_, ?_⟩, hr.stable fun k hk _ => hfar k ?_⟩
    · rw [List.length_set]
      exact hown'
    · exact hblk
    · refine Els.stable (w := w) (fun k hk _ => hfar k (fun e => hk.2 (by subst e; rfl))) ?_
      exact els_set hn _ hels
    · rintro rfl
      exact h3 k hgG hk
where
  els_set {new : α} {cs' : List Value} (hn : ∀ G w, dk.M G w new cs') {w : World} : ∀ {xs : List α} {css : List (List Value)} {G : Nat → Prop} (i : Nat), Els dk G w xs css → Els dk G w (xs.set i new) (css.set i cs')
    | _, _, _, i, h => Els.set (fun G x cs _ => hn G w) i h
end
section
variable {ρ : Option Nat} {Δ : List Deferred} variable {P : Program} {ops : Array Oper} {Q : Exit → Act → World → Prop} {a : Act} {w : World} {rest : List Oper} {N : Nat} {L : List (Nat × Value)}
variable {d ty : Nat} {pos : String} {af : Array Edge} {gd : Option (Nat × Bool)} {x y z : Operand}
variable {F : Nat → Prop} {w0 : World} {M : List SP}
/-- The same, one cell. -/
theorem r_storeE {α : Type} {dk : Kd α} {t e i n off : Nat} {v u : Value} {xs : List α} {j : Int} {old new : α} {cs' : List Value} (hst : ST Δ N a L) (hsh : SH F w0 w M) (hw : Wt ops L gd) (ht : ScOf P t)
    (hx : ev L x = some (.pointer (some (elAddr v n)))) (hy : ev L y = some u) (hi : M[i]? = some (Row dk e v xs)) (hxs : idx xs j = some old) (hn : n = j.toNat * dk.sz + off) (ho : off + 1 ≤ dk.sz) (h1 : u.oneCell' = true)
    (hc : ∀ Z w cs, dk.K Z w old cs → cs.set off u = cs') (hnew : ∀ G w, dk.M G w new cs') (k : ∀ a w', SH F w0 w' (Row dk e v (xs.set j.toNat new) :: M.eraseIdx i) → ST Δ N a L → wpL ρ P ops Q rest a w') :
    wpL ρ P ops Q ({ dst := none, op := .store t x y, type := ty, pos := pos, after := af, guard := gd } :: rest) a w := by
  subst hn
  obtain ⟨hth0, hsh'⟩ := hsh.rowStore i hi hxs (vs := [u]) ho hc hnew
  obtain ⟨q1, q2⟩ := hth0 0 (by simp)
  obtain ⟨old', hold⟩ := Option.isSome_iff_exists.1 q1
  have hrun := storeVar_sc (P := P) ht hold q2 h1
  refine wl_skip (w' := w.setCells (base v).block ((base v).off + (j.toNat * dk.sz + off)) [u]) hst hw ?_ (k _ _ hsh' (hst.putN _))
  simp only [Nat.add_zero] at hrun
  simp [execOp, hst.ev hx, hst.ev hy, Instr.storeAt, Instr.sureAddr, elAddr, hrun, World.setCells]
end
section
variable {Q : Exit → Act → World → Prop} {a : Act} {w : World}
theorem ng_ret (h : Q .ret a w) : Exit.noGoto Q .ret a w := h
end
theorem Same.in {Z : Nat → Prop} {wr w : World} (h : Same Z wr w) {k : Nat} (hz : Z k) (hk : k < wr.heap.size) : k < w.heap.size := by
  have := h k hz hk
  rw [Array.getElem?_eq_getElem hk] at this
  exact (Array.getElem?_eq_some_iff.1 this).1
theorem Same.sh2 {Z F : Nat → Prop} {wr w0 w : World} {L : List SP} (h : Same Z wr w0) (hz : ∀ k, Z k → k < wr.heap.size → ¬ F k) (hs : SH F w0 w L) : Same Z wr w :=
  fun k hk hl => (hs.kp.keep k (h.in hk hl) (hz k hk hl)).trans (h k hk hl)
theorem disj_new {Z G : Nat → Prop} {wr w0 w : World} (h : Same Z wr w0) (hG : ∀ k, G k → k < w.heap.size ∧ ((fun _ => False) k ∨ w0.heap.size ≤ k)) : ∀ k, Z k → k < wr.heap.size → ¬ G k := by
  intro k hk hl hg
  have := h.in hk hl
  rcases (hG k hg).2 with h' | h'
  · exact h'
  · omega
theorem disj_own {Z F G : Nat → Prop} {wr w0 w : World} (h : Same Z wr w0) (hd : ∀ k, Z k → k < wr.heap.size → ¬ F k) (hG : ∀ k, G k → k < w.heap.size ∧ (F k ∨ w0.heap.size ≤ k)) : ∀ k, Z k → k < wr.heap.size → ¬ G k := by
  intro k hk hl hg
  have := h.in hk hl
  rcases (hG k hg).2 with h' | h'
  · exact hd k hk hl h'
  · omega
end Go.Proofs.YtbaemhkfmddakaaGreat.Sy
