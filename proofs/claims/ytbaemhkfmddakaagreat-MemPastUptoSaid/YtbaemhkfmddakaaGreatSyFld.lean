import Derived.Test.YtbaemhkfmddakaaGreatSyClr
set_option linter.unusedVariables false
set_option linter.unusedSectionVars false
set_option linter.unusedSimpArgs false
namespace Go.Proofs.YtbaemhkfmddakaaGreat.Sy
open Go
def FldOk {α : Type} (d : Kd α) (off : Nat) (u : Value) (x y : α) : Prop := ∀ G w cs, d.M G w x cs → d.M G w y (cs.set off u)
theorem fld_iso {α β : Type} {d : Kd α} {f : β → α} {off : Nat} {u : Value} {x y : β} (h : FldOk d off u (f x) (f y)) : FldOk (Kd.iso d f) off u x y := h
theorem fld_flat {α : Type} {sz : Nat} {enc : α → List Value} {hl h1} {off : Nat} {u : Value} {x y : α} (h : (enc x).set off u = enc y) : FldOk (Kd.flat sz enc hl h1) off u x y := fun G w cs hc => by
  obtain rfl : cs = enc x := hc
  exact h
theorem fld_fst {α β : Type} {a : Kd α} {b : Kd β} {off : Nat} {u : Value} {x y : α} {z : β} (ho : off < a.sz) (h : FldOk a off u x y) : FldOk (Kd.pair a b) off u (x, z) (y, z) := fun G w cs hc => by
  obtain ⟨c1, c2, rfl, G1, G2, g1, g2, g3, h1, h2⟩ := hc
  have hl := a.K_len (a.M_K h1)
  refine ⟨c1.set off u, c2, by rw [List.set_append_left _ _ (by omega)], G1, G2, g1, g2, g3, h _ _ _ h1, h2⟩
theorem fld_snd {α β : Type} {a : Kd α} {b : Kd β} {off n : Nat} {u : Value} {x : α} {y z : β} (hn : n = a.sz + off) (h : FldOk b off u y z) : FldOk (Kd.pair a b) n u (x, y) (x, z) := fun G w cs hc => by
  obtain ⟨c1, c2, rfl, G1, G2, g1, g2, g3, h1, h2⟩ := hc
  have hl := a.K_len (a.M_K h1)
  refine ⟨c1, c2.set off u, ?_, G1, G2, g1, g2, g3, h1, h _ _ _ h2⟩
  rw [List.set_append_right _ _ (by omega)]
  congr 2
  omega
section
variable {α : Type} {dk : Kd α} {e : TypeId} {F : Nat → Prop} {w0 w : World} {M : List SP} {v : Value} {xs : List α}
theorem Els.setF {w : World} {d : Kd α} {x y : α} {c cs' : List Value} (hM : ∀ G, d.M G w x c → d.M G w y cs') : ∀ {xs : List α} {css : List (List Value)} {G : Nat → Prop} (i : Nat), xs[i]? = some x → css[i]? = some c → Els d G w xs css →
    Els d G w (xs.set i y) (css.set i cs')
  | [], [], _, _, _, _, _ => trivial
  | x :: xs, c :: css, G, 0, h1, h2, ⟨E1, E2, e1, e2, e3, hy, h⟩ => by
    simp at h1 h2
    subst h1 h2
    exact ⟨E1, E2, e1, e2, e3, hM _ hy, h⟩
  | x :: xs, c :: css, G, i + 1, h1, h2, ⟨E1, E2, e1, e2, e3, hy, h⟩ => ⟨E1, E2, e1, e2, e3, hy, Els.setF hM i (by simpa using h1) (by simpa using h2) h⟩
  | [], _ :: _, _, _, _, _, h => h.elim
  | _ :: _, [], _, _, _, _, h => h.elim
theorem SH.rowFld (h : SH F w0 w M) (i : Nat) (hi : M[i]? = some (Row dk e v xs)) {j : Int} {old new : α} (hx : idx xs j = some old) {off : Nat} {u : Value} (ho : off + 1 ≤ dk.sz) (hn : FldOk dk off u old new) :
    ((w.cell? ⟨(base v).block, (base v).off + (j.toNat * dk.sz + off), none⟩).isSome = true ∧ w.frozen? ⟨(base v).block, (base v).off + (j.toNat * dk.sz + off), none⟩ = false) ∧
    SH F w0 (w.setCells (base v).block ((base v).off + (j.toNat * dk.sz + off)) [u]) (Row dk e v (xs.set j.toNat new) :: M.eraseIdx i) := by
  obtain ⟨h0, hlt, hxj⟩ := idx_some hx
  obtain ⟨G1, G2, h1, h2, h3, hA, hr⟩ := h.sep.pull i hi
  rcases hA with ⟨ad, rfl, rfl⟩ | ⟨css, hown, hblk, hels⟩
  · simp at hxj
  obtain ⟨c, hcj, hM⟩ := hels.get _ _ hxj
  have hlen := fun cs hc => (hels.lens cs hc).1
  have hcss := hels.length
  rcases hown.2 with ⟨rfl, hn0⟩ | ⟨g, cap, cur, rfl, hb, hgg, hle, hcm, hcs, htk⟩
  · exfalso
    rw [hn0] at hlt
    omega
  have hfl := setL_flatten hlen (off := off) (vs := [u]) hcj ho
  have hown' := ownsRow_setCells [u] w css.flatten (j.toNat * dk.sz + off) hown
  rw [hfl] at hown'
  have hgG := hblk g rfl
  have hgm := h1 g hgG
  obtain ⟨s1, s2, s3, s4⟩ := setCells_same [u] w g (j.toNat * dk.sz + off)
  have hfar : ∀ k, k ≠ g → (w.setCells g (j.toNat * dk.sz + off) [u]).heap[k]? = w.heap[k]? := fun k hk => setCells_far [u] w g (j.toNat * dk.sz + off) k hk
  have hbase : base (.slice (some ⟨g, 0, none⟩) xs.length cap) = ⟨g, 0, none⟩ := rfl
  simp only [hbase, Nat.zero_add]
  refine ⟨?_, ⟨⟨s1.trans h.kp.os, s2.trans h.kp.tape, s3.trans h.kp.output, by have := h.kp.size; omega, fun k hk hn => ?_⟩, ?_⟩⟩
  · have hin : j.toNat * dk.sz + off < xs.length * dk.sz := by
      have : (j.toNat + 1) * dk.sz ≤ xs.length * dk.sz := Nat.mul_le_mul_right _ (by omega)
      rw [Nat.add_mul] at this
      omega
    refine ⟨?_, hown.frozenAt (cap := cap) _⟩
    rw [hown.cellAt _ hin]
    rw [List.getElem?_eq_getElem (by rw [hown.1]; exact hin)]
    rfl
  · rw [hfar k (fun e => by subst e; rcases hgm.2 with h | h; exact hn h; omega)]
    exact h.kp.keep k hk hn
  · refine ⟨G1, G2, fun k hk => ⟨by rw [s4]; exact (h1 k hk).1, (h1 k hk).2⟩, fun k hk => ⟨by rw [s4]; exact (h2 k hk).1, (h2 k hk).2⟩, h3, .inr ⟨css.set j.toNat (setL c off [u]), ?_, ?_, ?_⟩, hr.stable fun k hk _ => hfar k ?_⟩
    · rw [List.length_set]
      exact hown'
    · exact hblk
    · refine Els.stable (w := w) (fun k hk _ => hfar k (fun e => hk.2 (by subst e; rfl))) ?_
      exact Els.setF (fun G hy => by simpa [setL] using hn G w c hy) _ hxj hcj hels
    · rintro rfl
      exact h3 k hgG hk
end
section
variable {ρ : Option Nat} {Δ : List Deferred} variable {P : Program} {ops : Array Oper} {Q : Exit → Act → World → Prop} {a : Act} {w : World} {rest : List Oper} {N : Nat} {L : List (Nat × Value)}
variable {d ty : Nat} {pos : String} {af : Array Edge} {gd : Option (Nat × Bool)} {x y z : Operand}
variable {F : Nat → Prop} {w0 : World} {M : List SP}
theorem r_storeEF {α : Type} {dk : Kd α} {t e i n off : Nat} {v u : Value} {xs : List α} {j : Int} {old new : α} (hst : ST Δ N a L) (hsh : SH F w0 w M) (hw : Wt ops L gd) (ht : ScOf P t)
    (hx : ev L x = some (.pointer (some (elAddr v n)))) (hy : ev L y = some u) (hi : M[i]? = some (Row dk e v xs)) (hxs : idx xs j = some old) (hn : n = j.toNat * dk.sz + off) (ho : off + 1 ≤ dk.sz) (h1 : u.oneCell' = true)
    (hf : FldOk dk off u old new) (k : ∀ a w', SH F w0 w' (Row dk e v (xs.set j.toNat new) :: M.eraseIdx i) → ST Δ N a L → wpL ρ P ops Q rest a w') :
    wpL ρ P ops Q ({ dst := none, op := .store t x y, type := ty, pos := pos, after := af, guard := gd } :: rest) a w := by
  subst hn
  obtain ⟨⟨q1, q2⟩, hsh'⟩ := hsh.rowFld i hi hxs ho hf
  obtain ⟨old', hold⟩ := Option.isSome_iff_exists.1 q1
  have hrun := storeVar_sc (P := P) ht hold q2 h1
  refine wl_skip (w' := w.setCells (base v).block ((base v).off + (j.toNat * dk.sz + off)) [u]) hst hw ?_ (k _ _ hsh' (hst.putN _))
  simp [execOp, hst.ev hx, hst.ev hy, Instr.storeAt, Instr.sureAddr, elAddr, hrun, World.setCells]
end
end Go.Proofs.YtbaemhkfmddakaaGreat.Sy
