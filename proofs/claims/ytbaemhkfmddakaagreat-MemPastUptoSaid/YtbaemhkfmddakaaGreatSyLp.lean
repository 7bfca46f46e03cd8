import Derived.Test.YtbaemhkfmddakaaGreatSyAv
set_option linter.unusedVariables false
set_option linter.unusedSectionVars false
set_option linter.unusedSimpArgs false
namespace Go.Proofs.YtbaemhkfmddakaaGreat.Sy
open Go Go.ChangeShapes Go.WideShapes Go.RowKit
section
variable {ρ : Option Nat} {Δ : List Deferred} {P : Program} {ops : Array Oper} {Q : Exit → Act → World → Prop} {a : Act} {w : World} {rest : List Oper} {N : Nat} {L : List (Nat × Value)}
variable {d ty : Nat} {pos : String} {af : Array Edge} {gd : Option (Nat × Bool)} {x y z : Operand}
variable {F : Nat → Prop} {w0 : World} {M : List SP}
/-- append of one pointer to nil. -/
theorem r_appendPn {t e e2 g2 i2 by_ : Nat} {u : Value} (hst : ST Δ N a L) (hsh : SH F w0 w M) (hw : Wt ops L gd) (hd : Nat.blt d N = true)
    (ht : P.underlying t = some (.slice e)) (he : ElOf P e 1 by_) (hby : by_ ≤ 16) (hx : ev L x = some (.slice none 0 0)) (hy : ev L y = some (.slice (some ⟨g2, 0, none⟩) 1 1)) (h2 : M[i2]? = some (Box g2 [u] e2))
    (k : ∀ g c r a w', SH F w0 w' (Box g (u :: r) e :: M) → ST Δ N a ((d, .slice (some ⟨g, 0, none⟩) 1 c) :: L) → wpL ρ P ops Q rest a w') :
    wpL ρ P ops Q ({ dst := some d, op := .call { callee := .builtin .append, args := #[x, y], argTypes := #[t, t] }, type := ty, pos := pos, after := af, guard := gd } :: rest) a w := by
  obtain ⟨inf, zz, hinf, hz, hzs, hisz, hib⟩ := he
  have hr := run_append_nil (P := P) (w := w) t ty e inf zz ht hinf hz ⟨g2, 0, none⟩ 1 1 [u] (by rw [hisz]; rfl) (fun j v hv => by rw [Addr.add_lit, Nat.zero_add, box_cell (hsh.box i2 h2)]; exact hv) (by decide) (by decide) (by rw [hib]; omega)
  have e1 : ([u].toArray ++ Builtin.zeroCells zz.cells (grownCap w 1 0 e - 1)) = (u :: (Builtin.zeroCells zz.cells (grownCap w 1 0 e - 1)).toList).toArray := by apply Array.ext'; simp
  rw [e1] at hr
  refine wl_val (v := .slice (some ⟨w.heap.size, 0, none⟩) 1 (grownCap w 1 0 e)) (w' := w.drew.alloc (.cells (u :: (Builtin.zeroCells zz.cells (grownCap w 1 0 e - 1)).toList).toArray e)) hst hw ?_ (k w.heap.size _ _ _ _ (hsh.drew.alloc (u :: (Builtin.zeroCells zz.cells (grownCap w 1 0 e - 1)).toList) e) (hst.put hd _))
  simp only [execOp, resolve, invoke, builtin, Sem.run_bind, Sem.run_pure, Result.andThen_ok, List.map_toArray, List.map_cons, List.map_nil, hst.ev hx, hst.ev hy, hr]
/-- append of one pointer to a row that is full. -/
theorem r_appendP1 {t e e1 e2 g1 g2 i1 i2 by_ n : Nat} {cs : List Value} {u : Value} (full : List Value → List Value) (hst : ST Δ N a L) (hsh : SH F w0 w M) (hw : Wt ops L gd) (hd : Nat.blt d N = true)
    (ht : P.underlying t = some (.slice e)) (he : ElOf P e 1 by_) (hby : by_ ≤ 16) (hn : n ≤ 1000) (hx : ev L x = some (.slice (some ⟨g1, 0, none⟩) n n)) (h1 : M[i1]? = some (Box g1 cs e1)) (hl : cs.length = n)
    (hy : ev L y = some (.slice (some ⟨g2, 0, none⟩) 1 1)) (h2 : M[i2]? = some (Box g2 [u] e2)) (hf : ∀ r, cs ++ u :: r = full r)
    (k : ∀ g c r a w', SH F w0 w' (Box g (full r) e :: M) → ST Δ N a ((d, .slice (some ⟨g, 0, none⟩) (n + 1) c) :: L) → wpL ρ P ops Q rest a w') :
    wpL ρ P ops Q ({ dst := some d, op := .call { callee := .builtin .append, args := #[x, y], argTypes := #[t, t] }, type := ty, pos := pos, after := af, guard := gd } :: rest) a w := by
  obtain ⟨inf, zz, hinf, hz, hzs, hisz, hib⟩ := he
  have hfit : Builtin.nextslicecap (n + 1) n * inf.bytes ≤ 281474976710656 := growslice_fits_succ (Nat.le_trans (Nat.mul_le_mul hn (hib ▸ hby : inf.bytes ≤ 16)) (by decide)) (by rw [hib]; omega)
  have hr := run_append_grow (P := P) (w := w) t ty e inf zz ht hinf hz ⟨g1, 0, none⟩ n n cs (by rw [hisz, hl, Nat.mul_one]) (fun j v hv => by rw [Addr.add_lit, Nat.zero_add, box_cell (hsh.box i1 h1)]; exact hv)
    ⟨g2, 0, none⟩ 1 1 [u] (by rw [hisz]; rfl) (fun j v hv => by rw [Addr.add_lit, Nat.zero_add, box_cell (hsh.box i2 h2)]; exact hv) (by omega) (by omega) hfit
  have e1 : (cs.toArray ++ [u].toArray ++ Builtin.zeroCells zz.cells (grownCap w (n + 1) n e - (n + 1))) = (full (Builtin.zeroCells zz.cells (grownCap w (n + 1) n e - (n + 1))).toList).toArray := by rw [← hf]; apply Array.ext'; simp
  rw [e1] at hr
  refine wl_val (v := .slice (some ⟨w.heap.size, 0, none⟩) (n + 1) (grownCap w (n + 1) n e)) (w' := w.drew.alloc (.cells (full (Builtin.zeroCells zz.cells (grownCap w (n + 1) n e - (n + 1))).toList).toArray e)) hst hw ?_ (k w.heap.size _ _ _ _ (hsh.drew.alloc (full (Builtin.zeroCells zz.cells (grownCap w (n + 1) n e - (n + 1))).toList) e) (hst.put hd _))
  simp only [execOp, resolve, invoke, builtin, Sem.run_bind, Sem.run_pure, Result.andThen_ok, List.map_toArray, List.map_cons, List.map_nil, hst.ev hx, hst.ev hy, hr]
theorem x_indexLitC {t e g n c sz by_ : Nat} {j : Int} {ki : IntKind} {m : Nat} (hst : ST Δ N a L) (ht : P.underlying t = some (.slice e)) (he : ElOf P e sz by_) (hx : ev L x = some (.slice (some ⟨g, 0, none⟩) n c)) (hy : ev L y = some (.int ki j))
    (hj : 0 ≤ j ∧ j < (n : Int)) (hm : j.toNat * sz = m) : Tell P a w (.indexAddr t x y) (.pointer (some ⟨g, m, none⟩)) := fun o ho => by
  obtain ⟨inf, z, hinf, hz, hzs, hsz, hb⟩ := he
  subst hm
  have hadd : (⟨g, 0, none⟩ : Addr).add (j.toNat * sz) = ⟨g, j.toNat * sz, none⟩ := by simp [Addr.add_lit]
  simp only [execOp, ho, hst.ev hx, hst.ev hy, Instr.indexAt, Sem.run_bind, asIntOf, Sem.run_pure, Result.andThen_ok, run_underlying ht]
  simp [hj.1, hj.2, sizeOf, typeInfo, hinf, hsz, hadd]
end
end Go.Proofs.YtbaemhkfmddakaaGreat.Sy
