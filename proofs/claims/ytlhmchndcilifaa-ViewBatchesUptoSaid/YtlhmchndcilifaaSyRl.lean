import Derived.Test.YtlhmchndcilifaaSyLp
set_option linter.unusedVariables false
set_option linter.unusedSectionVars false
set_option linter.unusedSimpArgs false
namespace Go.Proofs.Ytlhmchndcilifaa.Sy
open Go Go.ChangeShapes Go.WideShapes Go.RowKit
def lastL {α : Type} (l : List (List α)) : List α := l.getLast?.getD []
theorem cell_lt {w : World} {a : Addr} {u : Value} (h : w.cell? a = some u) : a.block < w.heap.size := by
  cases hh : w.heap[a.block]? with
  | none => simp [World.cell?, hh] at h
  | some o => exact (Array.getElem?_eq_some_iff.1 hh).1
/-- The last cell of a row. -/
def LastV (G : Nat → Prop) (w : World) (v : Value) (n : Nat) (u : Value) : Prop := (n = 0 ∧ u = .slice none 0 0) ∨ ∃ g m c, G g ∧ n = m + 1 ∧ v = .slice (some ⟨g, 0, none⟩) (m + 1) c ∧ w.cell? ⟨g, m, none⟩ = some u
def RowL {α : Type} (d : Kd α) (e : TypeId) (v : Value) (xs : List α) (u : Value) : SP where
  H G w := Own d e G w v xs ∧ LastV G w v xs.length u
  stable hs h := ⟨h.1.stable hs, by
    rcases h.2 with k | ⟨g, m, c, h0, h1, h2, h3⟩
    · exact .inl k
    · exact .inr ⟨g, m, c, h0, h1, h2, cell_keep (a := ⟨g, m, none⟩) (hs g h0 (cell_lt h3)) h3⟩⟩
  mono hs h := ⟨h.1.mono hs, by
    rcases h.2 with k | ⟨g, m, c, h0, h1⟩
    · exact .inl k
    · exact .inr ⟨g, m, c, hs _ h0, h1⟩⟩
  inb h := ⟨h.1.inb, by
    rcases h.2 with k | ⟨g, m, c, h0, h1, h2, h3⟩
    · exact .inl k
    · exact .inr ⟨g, m, c, ⟨h0, cell_lt h3⟩, h1, h2, h3⟩⟩
section
variable {ρ : Option Nat} {Δ : List Deferred} {P : Program} {ops : Array Oper} {Q : Exit → Act → World → Prop} {a : Act} {w : World} {rest : List Oper} {N : Nat} {L : List (Nat × Value)}
variable {d ty : Nat} {pos : String} {af : Array Edge} {gd : Option (Nat × Bool)} {x y z : Operand}
variable {F : Nat → Prop} {w0 : World} {M : List SP}
theorem SH.unL {α : Type} {dk : Kd α} {e : TypeId} {v u : Value} {xs : List α} (h : SH F w0 w (RowL dk e v xs u :: M)) : SH F w0 w (Row dk e v xs :: M) := by
  obtain ⟨kp, G1, G2, h1, h2, h3, hA, hr⟩ := h
  exact ⟨kp, G1, G2, h1, h2, h3, hA.1, hr⟩
theorem SH.toL {α : Type} {dk : Kd α} {e : TypeId} {v u : Value} {xs : List α} (h : SH F w0 w (Row dk e v xs :: M)) (hl : ∃ g m c, xs.length = m + 1 ∧ v = .slice (some ⟨g, 0, none⟩) (m + 1) c ∧ w.cell? ⟨g, m, none⟩ = some u) : SH F w0 w (RowL dk e v xs u :: M) := by
  obtain ⟨kp, G1, G2, h1, h2, h3, hA, hr⟩ := h
  refine ⟨kp, G1, G2, h1, h2, h3, ⟨hA, ?_⟩, hr⟩
  obtain ⟨g, m, c, k1, k2, k3⟩ := hl
  rcases hA with ⟨ad, k4, k5⟩ | ⟨css, _, hb, _⟩
  · rw [k5] at k1; simp at k1
  · exact .inr ⟨g, m, c, hb g (by rw [k2]; rfl), k1, k2, k3⟩
theorem SH.addNilL {α : Type} (h : SH F w0 w M) (dk : Kd α) (e : TypeId) : SH F w0 w (RowL dk e (.slice none 0 0) [] (.slice none 0 0) :: M) := by
  obtain ⟨kp, G1, G2, h1, h2, h3, hA, hr⟩ := h.addNil dk e
  exact ⟨kp, G1, G2, h1, h2, h3, ⟨hA, .inl ⟨rfl, rfl⟩⟩, hr⟩
/-- The last one is read. -/
theorem SH.rowL {α : Type} {dk : Kd α} {e1 e : TypeId} {v u : Value} {xs : List (List α)} (h : SH F w0 w M) (i : Nat) (hi : M[i]? = some (RowL (Kd.slice e1 dk) e v xs u)) : RD dk (Mine F w0 w) w u (lastL xs) := by
  obtain ⟨hA, hl⟩ := (h.sep.pull i hi).head
  have hr := Own.rd hA
  rcases hl with ⟨h0, h1⟩ | ⟨g, m, c, h0, h1, h2, h3⟩
  · have : xs = [] := List.eq_nil_of_length_eq_zero h0
    subst this h1
    exact RD.nil _ _ _
  · obtain ⟨A, c', k1, k2, k3, k4⟩ := hr
    have hm : m < xs.length := by omega
    obtain ⟨ad, q1, q2, q3, cs, ⟨v', rfl, q5⟩, q6⟩ := k4 m xs[m] (List.getElem?_eq_getElem hm)
    rw [k1] at h2
    injection h2 with e1' e2' e3'
    rw [q1] at e1'
    injection e1' with e1'
    subst e1'
    have hc := q6 0 v' rfl
    have hsz : (Kd.slice e1 dk).sz = 1 := rfl
    rw [hsz, Nat.mul_one, Nat.add_zero, Nat.zero_add] at hc
    rw [h3] at hc
    injection hc with hc
    subst hc
    have : lastL xs = xs[m] := by
      unfold lastL
      rw [List.getLast?_eq_getElem?, show xs.length - 1 = m by omega, List.getElem?_eq_getElem hm]; rfl
    rw [this]
    exact q5
/-- append(s, x), s the call's own, x a row; it stays known. -/
theorem r_append1L {α : Type} {dk : Kd α} {t e e' by_ g bd : Nat} {v u : Value} {xs ys : List α} {xx : α} {C : List SP} (hst : ST Δ N a L) (hsh : SH F w0 w (Row dk e v xs :: Box g [u] e' :: C ++ M)) (hw : Wt ops L gd) (hd : Nat.blt d N = true)
    (ht : P.underlying t = some (.slice e)) (he : ElOf P e dk.sz by_) (hsz : dk.sz = 1) (hbd : (bd + bd / 4 + 192) * by_ ≤ 281474976710656) (hby : 0 < by_) (hx : ev L x = some v) (hy : ev L y = some (.slice (some ⟨g, 0, none⟩) 1 1))
    (hM : ∀ G w, Sep G w C → dk.M G w xx [u]) (hp : push bd xs xx = some ys)
    (k : ∀ v' a w', SH F w0 w' (RowL dk e v' ys u :: M) → ST Δ N a ((d, v') :: L) → wpL ρ P ops Q rest a w') :
    wpL ρ P ops Q ({ dst := some d, op := .call { callee := .builtin .append, args := #[x, y], argTypes := #[t, t] }, type := ty, pos := pos, after := af, guard := gd } :: rest) a w := by
  obtain ⟨hlt, rfl⟩ := push_some hp
  obtain ⟨G, hs, hG, hk⟩ := SH.call (L1 := Row dk e v xs :: Box g [u] e' :: C) (L2 := M) hsh
  obtain ⟨G1, G2, h1, h2, h3, hA, ⟨G3, G4, h4, h5, h6, hbox, hC⟩⟩ := hs
  have hMx := hM _ _ hC
  have hlen := dk.K_len (dk.M_K hMx)
  have hbnd : ((xs.length + 1) + (xs.length + 1) / 4 + 192) * by_ ≤ 281474976710656 := Nat.le_trans (Nat.mul_le_mul_right _ (by omega)) hbd
  have hmx : xs.length + 1 ≤ maxLen := by
    have := Nat.le_mul_of_pos_right ((xs.length + 1) + (xs.length + 1) / 4 + 192) hby
    simp only [maxLen]
    omega
  obtain ⟨v, css, hown, hblk, hels, v', w', hr, hown', hgr, hat⟩ := Own.append (P := P) ty hA ht he (by omega) ⟨g, 0, none⟩ 1 1 [u] (by rw [hlen, Nat.one_mul])
    (fun j u hu => by rw [Addr.add_lit, Nat.zero_add, box_cell hbox.2]; exact hu) (dk.K_one (dk.M_K hMx)) hmx hbnd (by decide)
  have hin : ∀ k, G1 k → k < w.heap.size := fun k hk => (hG k (h1 k hk)).1
  refine wl_val (v := v') (w' := w') hst hw ?_ (k v' _ w' ?_ (hst.put hd _))
  · simp only [execOp, resolve, invoke, builtin, Sem.run_bind, Sem.run_pure, Result.andThen_ok, List.map_toArray, List.map_cons, List.map_nil, hst.ev hx, hst.ev hy, hr]
  · refine SH.toL (hk w' _ (SH.rowNew (C := C) (v := v) (css := css) (cs := [u]) G1 G4 h1 (fun k hk => h2 k (h5 k hk)) (fun k hk hk' => h3 k hk (h5 k hk')) ?_ hgr hblk hat hin (fun k hk => (hG k (h2 k (h5 k hk))).1) hels hMx)) ?_
    · rw [List.length_append, List.length_singleton, List.flatten_append, List.flatten_cons, List.flatten_nil, List.append_nil]
      exact hown'
    · have hcl : css.flatten.length = xs.length := by have := hown.1; rw [hsz, Nat.mul_one] at this; exact this
      rcases hown'.2 with ⟨q1, q2⟩ | ⟨g', cap, cur, q1, _⟩
      · omega
      · refine ⟨g', xs.length, cap, by simp, q1, ?_⟩
        have := hown'.cells (g := g') (by rw [q1]; rfl) xs.length u (by rw [List.getElem?_append_right (by omega), hcl]; simp)
        rw [Addr.add_lit, Nat.zero_add] at this
        exact this
end
end Go.Proofs.Ytlhmchndcilifaa.Sy
