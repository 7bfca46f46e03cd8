import Derived.Test.YtbaemhkfmddakaaGreatSyOb
import Derived.Test.YtbaemhkfmddakaaGreatSyIn
set_option linter.unusedVariables false
set_option linter.unusedSectionVars false
set_option linter.unusedSimpArgs false
namespace Go.Proofs.YtbaemhkfmddakaaGreat.Sy
open Go
section
variable {ρ : Option Nat} {Δ : List Deferred} variable {P : Program} {ops : Array Oper} {Q : Exit → Act → World → Prop} {a : Act} {w : World} {rest : List Oper} {N : Nat} {L : List (Nat × Value)}
variable {x y : Operand}
theorem size_sc {e : TypeId} (he : ScOf P e) : (sizeOf e).run P w = .ok 1 w := by
  obtain ⟨d, i, h1, h2, h3, h4⟩ := he
  simp [sizeOf, typeInfo, h3, h4]
theorem x_idxAB {t e len g j : Nat} {k : IntKind} {i : Int} (hst : ST Δ N a L) (ht : P.underlying t = some (.array len e)) (he : ScOf P e) (hx : ev L x = some (.pointer (some ⟨g, j, none⟩))) (hy : ev L y = some (.int k i))
    (hi : 0 ≤ i ∧ i < (len : Int)) : Tell P a w (.indexAddr t x y) (.pointer (some ⟨g, j + i.toNat, none⟩)) := fun o ho => by
  simp only [execOp, ho, hst.ev hx, hst.ev hy, Instr.indexAt, Sem.run_bind, asIntOf, Sem.run_pure, Result.andThen_ok, run_underlying ht, Instr.sureAddr]
  rw [if_pos hi]
  simp [size_sc he, Addr.add_lit]
theorem x_idxAE {t e len b off : Nat} {v : Value} {k : IntKind} {i : Int} (hst : ST Δ N a L) (ht : P.underlying t = some (.array len e)) (he : ScOf P e) (hx : ev L x = some (.pointer (some (elAddr v (b + off))))) (hy : ev L y = some (.int k i))
    (hi : 0 ≤ i ∧ i < (len : Int)) : Tell P a w (.indexAddr t x y) (.pointer (some (elAddr v (b + (off + i.toNat))))) := fun o ho => by
  simp only [execOp, ho, hst.ev hx, hst.ev hy, Instr.indexAt, Sem.run_bind, asIntOf, Sem.run_pure, Result.andThen_ok, run_underlying ht, Instr.sureAddr]
  rw [if_pos hi]
  simp [size_sc he, elAddr, Addr.add_lit, Nat.add_assoc]
theorem x_indexAv {t e len : Nat} {cs : List Value} {u : Value} {k : IntKind} {i : Int} (hst : ST Δ N a L) (ht : P.underlying t = some (.array len e)) (he : ScOf P e) (hx : ev L x = some (.agg cs.toArray)) (hy : ev L y = some (.int k i))
    (hi : 0 ≤ i ∧ i < (len : Int)) (hu : cs[0 + i.toNat]? = some u) : Tell P a w (.index t x y) u := fun o ho => by
  simp only [execOp, ho, hst.ev hx, hst.ev hy, Instr.index, Sem.run_bind, asIntOf, Sem.run_pure, Result.andThen_ok, run_underlying ht]
  rw [if_pos hi]
  obtain ⟨d, inf, h1, h2, h3, h4⟩ := he
  rw [Nat.zero_add] at hu
  simp [sizeOf, typeInfo, h3, h4, part, isAgg_run h1, h2, hu]
end
theorem arr_get {α : Type} {f : α → Value} {z : α} {l : List α} {cs : List Value} {i : Int} {n off : Nat} (h : 0 ≤ i ∧ i < (n : Int)) (hm : (cs.drop off).take n = l.map f) (hl : l.length = n) : cs[off + i.toNat]? = some (f (l.getD i.toNat z)) := by
  have hlt : i.toNat < n := by omega
  have h2 : ((cs.drop off).take n)[i.toNat]? = cs[off + i.toNat]? := by
    rw [List.getElem?_take, if_pos hlt, List.getElem?_drop]
  rw [← h2, hm, List.getElem?_map, List.getD_eq_getElem?_getD, List.getElem?_eq_getElem (by omega)]
  rfl
theorem arr_set {α : Type} {f : α → Value} {l l' : List α} {cs cs' : List Value} {i : Int} {n off : Nat} {v : α} (h : 0 ≤ i ∧ i < (n : Int)) (hm : (cs.drop off).take n = l.map f) (hm' : (cs'.drop off).take n = l'.map f) (hl : l.length = n)
    (hl' : l' = l.set i.toNat v) (hp : cs'.take off = cs.take off) (hs : cs'.drop (off + n) = cs.drop (off + n)) : cs.set (off + i.toNat) (f v) = cs' := by
  have hlt : i.toNat < n := by omega
  have g1 : ∀ q, q < n → cs[off + q]? = (l[q]?).map f := fun q hq => by
    have := congrArg (fun z => z[q]?) hm
    simp only [List.getElem?_take, if_pos hq, List.getElem?_drop, List.getElem?_map] at this
    exact this
  have g2 : ∀ q, q < n → cs'[off + q]? = (l'[q]?).map f := fun q hq => by
    have := congrArg (fun z => z[q]?) hm'
    simp only [List.getElem?_take, if_pos hq, List.getElem?_drop, List.getElem?_map] at this
    exact this
  apply List.ext_getElem?
  intro q
  rcases Nat.lt_or_ge q off with hq | hq
  · have := congrArg (fun z => z[q]?) hp
    simp only [List.getElem?_take, if_pos hq] at this
    rw [List.getElem?_set, if_neg (by omega), this]
  · obtain ⟨q, rfl⟩ : ∃ p, q = off + p := ⟨q - off, by omega⟩
    rcases Nat.lt_or_ge q n with hn | hn
    · rw [g2 q hn, hl', List.getElem?_set]
      have hb : off + i.toNat < cs.length := by
        have := g1 i.toNat hlt
        rw [List.getElem?_eq_getElem (by omega : i.toNat < l.length)] at this
        exact (List.getElem?_eq_some_iff.1 this).1
      rw [List.getElem?_set]
      by_cases e : i.toNat = q
      · subst e
        rw [if_pos rfl, if_pos rfl, if_pos hb, if_pos (by omega)]; rfl
      · rw [if_neg (by omega), if_neg e]; exact g1 q hn
    · have := congrArg (fun z => z[q - n]?) hs
      simp only [List.getElem?_drop] at this
      rw [show off + n + (q - n) = off + q by omega] at this
      rw [List.getElem?_set, if_neg (by omega), this]
theorem arr_blt {i : Int} {n off m : Nat} (h : 0 ≤ i ∧ i < (n : Int)) (hm : Nat.ble (off + n) m = true) : Nat.blt (off + i.toNat) m = true := by
  have := Nat.le_of_ble_eq_true hm
  simp only [Nat.blt_eq]
  omega
theorem arr_le {i : Int} {n off m : Nat} (h : 0 ≤ i ∧ i < (n : Int)) (hm : Nat.ble (off + n) m = true) : off + i.toNat + 1 ≤ m := by
  have := Nat.le_of_ble_eq_true hm
  omega
structure SlV where
  p : Option Addr
  n : Nat
  c : Nat
instance : BEq SlV := ⟨fun _ _ => true⟩
def SlV.nil : SlV := ⟨none, 0, 0⟩
end Go.Proofs.YtbaemhkfmddakaaGreat.Sy
namespace Go.Proofs.YtbaemhkfmddakaaGreat.Sy
open Go
theorem rob_open {α : Type} {t g : Nat} {d : Kd α} {Z : Nat → Prop} {w : World} {x : α} (h : (Kd.ptr t d).K Z w x [.pointer (some ⟨g, 0, none⟩)]) :
    ∃ c, Z g ∧ w.heap[g]? = some (.cells c.toArray t (0, 0)) ∧ d.K Z w x c := by
  obtain ⟨g', c, e1, hg, hb, hk⟩ := h
  simp only [List.cons.injEq, Value.pointer.injEq, Option.some.injEq, Addr.mk.injEq, and_true] at e1
  subst e1
  exact ⟨c, hg, hb, hk⟩
theorem ptr_who {α : Type} {t : Nat} {d : Kd α} {Z : Nat → Prop} {w : World} {x : α} {cs : List Value} (h : (Kd.ptr t d).K Z w x cs) :
    ∃ g, cs = [.pointer (some ⟨g, 0, none⟩)] ∧ (Kd.ptr t d).K Z w x [.pointer (some ⟨g, 0, none⟩)] := by
  have h' := h
  obtain ⟨g, c, rfl, _⟩ := h
  exact ⟨g, rfl, h'⟩
theorem SH.elK {α : Type} {d : Kd α} {F : Nat → Prop} {w0 w : World} {M : List SP} {cs : List Value} {x : α} (h : SH F w0 w M) (i : Nat) (hi : M[i]? = some (El d cs x)) : d.K (Mine F w0 w) w x cs :=
  d.M_K ((h.sep.pull i hi).head)
end Go.Proofs.YtbaemhkfmddakaaGreat.Sy
namespace Go.Proofs.YtbaemhkfmddakaaGreat.Sy
open Go
section
variable {ρ : Option Nat} {Δ : List Deferred} {P : Program} {ops : Array Oper} {E B C X : World → Prop} {QQ : Act → Prop} {Q : Exit → Act → World → Prop} {a : Act} {w : World} {rest : List Oper} {N : Nat} {L : List (Nat × Value)}
variable {KK : (World → Prop) → (World → Prop) → Act → Prop} {restm : List (Nat × Oper)}
variable {d ty : Nat} {pos : String} {af : Array Edge} {gd : Option (Nat × Bool)} {x y z : Operand}
end
end Go.Proofs.YtbaemhkfmddakaaGreat.Sy
namespace Go.Proofs.YtbaemhkfmddakaaGreat.Sy
open Go
theorem Sep.elK {α : Type} {d : Kd α} {Z : Nat → Prop} {w : World} {M : List SP} {cs : List Value} {x : α} (h : Sep Z w M) (i : Nat) (hi : M[i]? = some (El d cs x)) : d.K Z w x cs := d.M_K ((h.pull i hi).head)
end Go.Proofs.YtbaemhkfmddakaaGreat.Sy
