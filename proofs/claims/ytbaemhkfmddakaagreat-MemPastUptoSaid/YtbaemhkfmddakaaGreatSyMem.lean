import Derived.Test.YtbaemhkfmddakaaGreatSyOps
import Derived.Laws.StructEq
import Derived.Laws.OwnMore
set_option linter.unusedVariables false
set_option linter.unusedSectionVars false
set_option linter.unusedSimpArgs false
namespace Go.Proofs.YtbaemhkfmddakaaGreat.Sy
open Go
/-- The zero value of a type, as cells. -/
def ZrOf (P : Program) (e : TypeId) (cs : List Value) : Prop := ∃ i z, P.info? e = some i ∧ i.zero = some z ∧ z.cells = cs.toArray
theorem zr_of {P : Program} {e : TypeId} {z : Value} {cs : List Value} (h : (P.info? e).bind (·.zero) = some z) (hz : z.cells = cs.toArray) : ZrOf P e cs := by
  cases hq : P.info? e with
  | none => simp [hq] at h
  | some i => exact ⟨i, z, hq, by simpa [hq] using h, hz⟩
/-- The element of a slice: zero value's cells, size, bytes. -/
def ElOf (P : Program) (e : TypeId) (sz by_ : Nat) : Prop := ∃ i z, P.info? e = some i ∧ i.zero = some z ∧ z.cells.size = sz ∧ i.size = sz ∧ i.bytes = by_
theorem el_of {P : Program} {e : TypeId} {z : Value} {sz by_ : Nat} (h : (P.info? e).map (fun i => (i.zero, i.size, i.bytes)) = some (some z, sz, by_)) (hz : z.cells.size = sz) : ElOf P e sz by_ := by
  cases hq : P.info? e with
  | none => simp [hq] at h
  | some i =>
    simp only [hq, Option.map_some, Option.some.injEq, Prod.mk.injEq] at h
    exact ⟨i, z, hq, h.1, hz, h.2.1, h.2.2⟩
/-- Where a field lies. -/
def FaOf (P : Program) (s f off : Nat) : Prop := ∃ fs fld i, P.underlying s = some (.struct fs) ∧ fs[f]? = some fld ∧ fld.offset = off ∧ P.info? fld.type = some i ∧ i.size ≠ 0
theorem fa_of {P : Program} {s f off sz : Nat} {fs : Array Field} {fld : Field} (hu : P.underlying s = some (.struct fs)) (hf : fs[f]? = some fld) (ho : fld.offset = off) (hi : (P.info? fld.type).map (·.size) = some (sz + 1)) : FaOf P s f off := by
  cases hq : P.info? fld.type with
  | none => simp [hq] at hi
  | some i => exact ⟨fs, fld, i, hu, hf, ho, hq, by simp [hq] at hi; omega⟩
/-- A type of one cell. -/
def ScOf (P : Program) (t : TypeId) : Prop := ∃ d i, P.underlying t = some d ∧ d.isRow = false ∧ P.info? t = some i ∧ i.size = 1
/-- A type of several cells. -/
def AgOf (P : Program) (t : TypeId) (n : Nat) : Prop := ∃ d, P.underlying t = some d ∧ d.isRow = true ∧ (P.info? t).map (·.size) = some n
theorem sc_of {P : Program} {t : TypeId} {d : TypeDesc} (hu : P.underlying t = some d) (hd : d.isRow = false) (hi : (P.info? t).map (·.size) = some 1) : ScOf P t := by
  cases hq : P.info? t with
  | none => simp [hq] at hi
  | some i => exact ⟨d, i, hu, hd, hq, by simpa [hq] using hi⟩
/-- A function with a body. -/
def FnOf (P : Program) (f : FuncId) : Prop := ∃ fn, P.funcs[f]? = some fn ∧ (fn.name == "runtime.NumGoroutine") = false ∧ fn.body.isNone = false
section
variable {ρ : Option Nat} {Δ : List Deferred} variable {P : Program} {w : World}
theorem isAgg_run {t : TypeId} {d : TypeDesc} (hu : P.underlying t = some d) : (isAgg t).run P w = .ok d.isRow w := by
  unfold isAgg
  rw [Sem.run_bind, run_underlying hu w]
  cases d <;> simp
theorem loadVar_sc {t : TypeId} (ht : ScOf P t) {a : Addr} {v : Value} (h : w.cell? a = some v) : (loadVar t a).run P w = .ok v w := by
  obtain ⟨d, i, hu, hd, hi, hs⟩ := ht
  simp [loadVar, Sem.run_bind, isAgg_run hu, hd, h]
theorem loadVar_ag {t : TypeId} {b o : Nat} {cs : List Value} (ht : AgOf P t cs.length) (h : w.rangeAt b o cs) : (loadVar t ⟨b, o, none⟩).run P w = .ok (.agg cs.toArray) w := by
  obtain ⟨d, hu, hd, hi⟩ := ht
  exact run_loadVar_mid w b o t cs d h hu hd hi
theorem storeVar_sc {t : TypeId} (ht : ScOf P t) {a : Addr} {u v : Value} (h : w.cell? a = some u) (hf : w.frozen? a = false) (h1 : v.oneCell' = true) : (storeVar t a v).run P w = .ok () (w.setCell a v) := by
  obtain ⟨d, i, hu, hd, hi, hs⟩ := ht
  have hc : v.cells = #[v] := by cases v <;> first | rfl | (simp [Value.oneCell'] at h1)
  have hst : (store (a.add 0) v).run P w = .ok () (w.setCell a v) := by
    rw [Addr.add_zero', run_store P w a v _ h1, h]
    simp [hf]
  simp only [storeVar, Sem.run_bind, hc, sizeOf, typeInfo, run_program, Result.andThen_ok, hi, Sem.run_pure, hs]
  simp [storeCells, Sem.run_bind, hst]
end
/-- Several cells written. -/
def setL : List Value → Nat → List Value → List Value
  | cs, _, [] => cs
  | cs, j, v :: r => setL (cs.set j v) (j + 1) r
theorem setCells_heap : ∀ (vs : List Value) (w : World) (g j : Nat) (cs : List Value) (t : TypeId), w.heap[g]? = some (.cells cs.toArray t (0, 0)) →
    (w.setCells g j vs).heap[g]? = some (.cells (setL cs j vs).toArray t (0, 0))
  | [], w, g, j, cs, t, h => h
  | v :: r, w, g, j, cs, t, h => by
    have := setCells_heap r (w.setCell ⟨g, j, none⟩ v) g (j + 1) (cs.set j v) t (setCell_at w g j v cs t h)
    exact this
theorem setCells_far : ∀ (vs : List Value) (w : World) (g j k : Nat), k ≠ g → (w.setCells g j vs).heap[k]? = w.heap[k]?
  | [], w, g, j, k, h => rfl
  | v :: r, w, g, j, k, h => (setCells_far r (w.setCell ⟨g, j, none⟩ v) g (j + 1) k h).trans (setCell_far w _ v k h)
theorem setCells_same : ∀ (vs : List Value) (w : World) (g j : Nat), (w.setCells g j vs).os = w.os ∧ (w.setCells g j vs).tape = w.tape ∧ (w.setCells g j vs).output = w.output ∧ (w.setCells g j vs).heap.size = w.heap.size
  | [], w, g, j => ⟨rfl, rfl, rfl, rfl⟩
  | v :: r, w, g, j => by
    obtain ⟨h1, h2, h3, h4⟩ := setCells_same r (w.setCell ⟨g, j, none⟩ v) g (j + 1)
    exact ⟨h1, h2, h3, h4.trans (by simp [World.setCell])⟩
theorem box_cell {w : World} {g : Nat} {cs : List Value} {t : TypeId} (h : w.heap[g]? = some (.cells cs.toArray t (0, 0))) (j : Nat) : w.cell? ⟨g, j, none⟩ = cs[j]? := by
  rw [cell_of_row w g j _ t (0, 0) h]; simp
theorem box_frozen {w : World} {g : Nat} {cs : List Value} {t : TypeId} (h : w.heap[g]? = some (.cells cs.toArray t (0, 0))) (j : Nat) : w.frozen? ⟨g, j, none⟩ = false := by
  simp [World.frozen?, h]
section
variable {ρ : Option Nat} {Δ : List Deferred} variable {P : Program} {ops : Array Oper} {Q : Exit → Act → World → Prop} {a : Act} {w : World} {rest : List Oper} {N : Nat} {L : List (Nat × Value)}
variable {d ty : Nat} {pos : String} {af : Array Edge} {gd : Option (Nat × Bool)} {x y z : Operand}
variable {F : Nat → Prop} {w0 : World} {M : List SP}
theorem r_alloc {e : Nat} {cs : List Value} (hst : ST Δ N a L) (hsh : SH F w0 w M) (hw : Wt ops L gd) (hd : Nat.blt d N = true) (hz : ZrOf P e cs)
    (k : ∀ g a w', g = w.heap.size → SH F w0 w' (Box g cs e :: M) → ST Δ N a ((d, .pointer (some ⟨g, 0, none⟩)) :: L) → wpL ρ P ops Q rest a w') :
    wpL ρ P ops Q ({ dst := some d, op := .alloc e, type := ty, pos := pos, after := af, guard := gd } :: rest) a w := by
  obtain ⟨i, z, hi, hzz, hc⟩ := hz
  refine wl_val (v := .pointer (some ⟨w.heap.size, 0, none⟩)) (w' := w.alloc (.cells cs.toArray e)) hst hw ?_ (k _ _ _ rfl (hsh.alloc cs e) (hst.put hd _))
  simp [execOp, Instr.alloc, zeroValue, typeInfo, hi, hzz, newVar, newRow, hc]
theorem r_box {e : Nat} {v : Value} {cs : List Value} (hst : ST Δ N a L) (hsh : SH F w0 w M) (hw : Wt ops L gd) (hd : Nat.blt d N = true) (hx : ev L x = some v) (hc : v.cells = cs.toArray)
    (k : ∀ g a w', g = w.heap.size → SH F w0 w' (Box g cs e :: M) → ST Δ N a ((d, .pointer (some ⟨g, 0, none⟩)) :: L) → wpL ρ P ops Q rest a w') :
    wpL ρ P ops Q ({ dst := some d, op := .box e x, type := ty, pos := pos, after := af, guard := gd } :: rest) a w := by
  refine wl_val (v := .pointer (some ⟨w.heap.size, 0, none⟩)) (w' := w.alloc (.cells cs.toArray e)) hst hw ?_ (k _ _ _ rfl (hsh.alloc cs e) (hst.put hd _))
  simp [execOp, hst.ev hx, Instr.box, newVar, newRow, hc]
theorem x_fieldAddr {s f off j j' g : Nat} (hst : ST Δ N a L) (hf : FaOf P s f off) (hx : ev L x = some (.pointer (some ⟨g, j, none⟩))) (hj : j + off = j') :
    Tell P a w (.fieldAddr s x f) (.pointer (some ⟨g, j', none⟩)) := fun op0 hop => by
  obtain ⟨fs, fld, i, hu, hfl, ho, hi, hs⟩ := hf
  subst hj
  simp [execOp, hop, hst.ev hx, Instr.fieldAt, run_underlying hu, hfl, Instr.sureAddr, fieldPlace, sizeOf, typeInfo, hi, hs, ho, Addr.add_lit]
theorem x_loadB {t g j i e : Nat} {cs : List Value} {v : Value} (hst : ST Δ N a L) (hsh : SH F w0 w M) (ht : ScOf P t) (hx : ev L x = some (.pointer (some ⟨g, j, none⟩)))
    (hi : M[i]? = some (Box g cs e)) (hj : cs[j]? = some v) :
    Tell P a w (.load t x) (v) := fun o ho => by
  have hc : w.cell? ⟨g, j, none⟩ = some v := (box_cell (hsh.box i hi) j).trans hj
  simp [execOp, ho, hst.ev hx, Instr.loadAt, Instr.sureAddr, loadVar_sc ht hc]
theorem x_loadBs {t g j i e : Nat} {cs ps : List Value} (hst : ST Δ N a L) (hsh : SH F w0 w M) (ht : AgOf P t ps.length) (hx : ev L x = some (.pointer (some ⟨g, j, none⟩)))
    (hi : M[i]? = some (Box g cs e)) (hj : (cs.drop j).take ps.length = ps) :
    Tell P a w (.load t x) (.agg ps.toArray) := fun o ho => by
  have hc : w.rangeAt g j ps := fun m v hv => by
    rw [box_cell (hsh.box i hi)]
    rw [← hj, List.getElem?_take] at hv
    split at hv
    · simpa using hv
    · cases hv
  simp [execOp, ho, hst.ev hx, Instr.loadAt, Instr.sureAddr, loadVar_ag ht hc]
theorem r_storeB {t g j i e : Nat} {cs cs' : List Value} {v : Value} (hst : ST Δ N a L) (hsh : SH F w0 w M) (hw : Wt ops L gd) (ht : ScOf P t) (hx : ev L x = some (.pointer (some ⟨g, j, none⟩))) (hy : ev L y = some v)
    (hi : M[i]? = some (Box g cs e)) (hj : Nat.blt j cs.length = true) (h1 : v.oneCell' = true) (hcs : cs.set j v = cs') (k : ∀ a w', SH F w0 w' (Box g cs' e :: M.eraseIdx i) → ST Δ N a L → wpL ρ P ops Q rest a w') :
    wpL ρ P ops Q ({ dst := none, op := .store t x y, type := ty, pos := pos, after := af, guard := gd } :: rest) a w := by
  subst hcs
  have hj' : j < cs.length := by simpa [Nat.blt_eq] using hj
  have hb := hsh.box i hi
  have hc : w.cell? ⟨g, j, none⟩ = some (cs[j]) := (box_cell hb j).trans (List.getElem?_eq_getElem hj')
  refine wl_skip (w' := w.setCell ⟨g, j, none⟩ v) hst hw ?_ (k _ _ (hsh.boxSet i hi rfl rfl rfl (by simp [World.setCell]) (fun k hk => setCell_far w _ v k hk) (setCell_at w g j v cs e hb)) (hst.putN _))
  simp [execOp, hst.ev hx, hst.ev hy, Instr.storeAt, Instr.sureAddr, storeVar_sc ht hc (box_frozen hb j) h1]
theorem r_storeBs {t g j i e : Nat} {cs cs' vs : List Value} (hst : ST Δ N a L) (hsh : SH F w0 w M) (hw : Wt ops L gd) (ht : AgOf P t vs.length) (hx : ev L x = some (.pointer (some ⟨g, j, none⟩))) (hy : ev L y = some (.agg vs.toArray))
    (hi : M[i]? = some (Box g cs e)) (hj : Nat.ble (j + vs.length) cs.length = true) (h1 : vs.all (·.oneCell') = true) (hcs : setL cs j vs = cs') (k : ∀ a w', SH F w0 w' (Box g cs' e :: M.eraseIdx i) → ST Δ N a L → wpL ρ P ops Q rest a w') :
    wpL ρ P ops Q ({ dst := none, op := .store t x y, type := ty, pos := pos, after := af, guard := gd } :: rest) a w := by
  subst hcs
  have hj' : j + vs.length ≤ cs.length := Nat.le_of_ble_eq_true hj
  have hb := hsh.box i hi
  obtain ⟨d, hu, hd, hsz⟩ := ht
  have hth : w.there g j vs.toArray.size := fun m hm => by
    simp only [List.size_toArray] at hm
    refine ⟨?_, box_frozen hb _⟩
    rw [box_cell hb, List.getElem?_eq_getElem (by omega)]
    rfl
  have hrun := run_storeVar_mid (P := P) w g j t vs.toArray hth (by simpa using hsz) (by simpa using h1)
  obtain ⟨s1, s2, s3, s4⟩ := setCells_same vs w g j
  refine wl_skip (w' := w.setCells g j vs) hst hw ?_ (k _ _ (hsh.boxSet i hi s1 s2 s3 s4 (fun k hk => setCells_far vs w g j k hk) (setCells_heap vs w g j cs e hb)) (hst.putN _))
  simp [execOp, hst.ev hx, hst.ev hy, Instr.storeAt, Instr.sureAddr, hrun]
def idx {α : Type} (xs : List α) (i : Int) : Option α := if 0 ≤ i then xs[i.toNat]? else none
theorem idx_some {α : Type} {xs : List α} {i : Int} {x : α} (h : idx xs i = some x) : 0 ≤ i ∧ i < xs.length ∧ xs[i.toNat]? = some x := by
  unfold idx at h
  split at h
  · have := (List.getElem?_eq_some_iff.1 h).1
    exact ⟨by assumption, by omega, h⟩
  · cases h
def elAddr (v : Value) (n : Nat) : Addr := ⟨(base v).block, (base v).off + n, none⟩
theorem x_indexAddr {α : Type} {dk : Kd α} {Z : Nat → Prop} {wr : World} {t e by_ : Nat} {v : Value} {xs : List α} {i : Int} {xx : α} {ki : IntKind} (hst : ST Δ N a L)
    (ht : P.underlying t = some (.slice e)) (he : ElOf P e dk.sz by_) (hx : ev L x = some v) (hy : ev L y = some (.int ki i)) (hr : RD dk Z wr v xs) (hi : idx xs i = some xx) :
    Tell P a w (.indexAddr t x y) (.pointer (some (elAddr v (i.toNat * dk.sz)))) := fun o ho => by
  obtain ⟨A, c, rfl, hle, hm, hel⟩ := hr
  obtain ⟨h0, h1, h2⟩ := idx_some hi
  obtain ⟨ad, rfl, hsp, hZ, _⟩ := hel _ _ h2
  obtain ⟨inf, z, hinf, hz, hzs, hsz, hb⟩ := he
  have hadd : ad.add (i.toNat * dk.sz) = elAddr (.slice (some ad) xs.length c) (i.toNat * dk.sz) := by
    obtain ⟨b, o, sp⟩ := ad
    simp only at hsp
    subst hsp
    simp [elAddr, base, Addr.add_lit]
  simp only [execOp, ho, hst.ev hx, hst.ev hy, Instr.indexAt, Sem.run_bind, asIntOf, Sem.run_pure, Result.andThen_ok, run_underlying ht]
  simp [h0, h1, sizeOf, typeInfo, hinf, hsz, hadd]
theorem x_fieldAddrE {s f off n n' : Nat} {v : Value} (hst : ST Δ N a L) (hf : FaOf P s f off) (hx : ev L x = some (.pointer (some (elAddr v n)))) (hn : n + off = n') :
    Tell P a w (.fieldAddr s x f) (.pointer (some (elAddr v n'))) := fun op0 hop => by
  obtain ⟨fs, fld, i, hu, hfl, ho, hi, hs⟩ := hf
  subst hn
  simp [execOp, hop, hst.ev hx, Instr.fieldAt, run_underlying hu, hfl, Instr.sureAddr, fieldPlace, sizeOf, typeInfo, hi, hs, ho, elAddr, Addr.add_lit, Nat.add_assoc]
theorem RD.cells {α : Type} {dk : Kd α} {Z : Nat → Prop} {v : Value} {xs : List α} {i : Int} {xx : α} (hr : RD dk Z w v xs) (hi : idx xs i = some xx) :
    ∃ cs, dk.K Z w xx cs ∧ ∀ j u, cs[j]? = some u → w.cell? (elAddr v (i.toNat * dk.sz + j)) = some u := by
  obtain ⟨A, c, rfl, hle, hm, hel⟩ := hr
  obtain ⟨h0, h1, h2⟩ := idx_some hi
  obtain ⟨ad, rfl, hsp, hZ, cs, hK, hc⟩ := hel _ _ h2
  exact ⟨cs, hK, hc⟩
/-- The cells of an element, in every world that reads Z alike. -/
theorem RD.cells2 {α : Type} {dk : Kd α} {Z : Nat → Prop} {wr : World} {v : Value} {xs : List α} {i : Int} {xx : α} (hr : RD dk Z wr v xs) (hi : idx xs i = some xx) :
    ∃ cs, dk.K Z wr xx cs ∧ ∀ w, Same Z wr w → ∀ j u, cs[j]? = some u → w.cell? (elAddr v (Int.toNat i * dk.sz + j)) = some u := by
  obtain ⟨A, c, rfl, hle, hm, hel⟩ := hr
  obtain ⟨h0, h1, h2⟩ := idx_some hi
  obtain ⟨ad, rfl, hsp, hZ, cs, hK, hc⟩ := hel _ _ h2
  refine ⟨cs, hK, fun w hs j u hu => ?_⟩
  have := hc j u hu
  exact cell_keep (hs _ hZ (World.block_lt_of_cell? wr _ this)) this
theorem x_loadC {t n : Nat} {v u : Value} (hst : ST Δ N a L) (ht : ScOf P t) (hx : ev L x = some (.pointer (some (elAddr v n)))) (hc : w.cell? (elAddr v n) = some u) : Tell P a w (.load t x) u := fun o ho => by
  simp [execOp, ho, hst.ev hx, Instr.loadAt, Instr.sureAddr, loadVar_sc ht hc]
theorem x_loadCs {t n : Nat} {v : Value} {ps : List Value} (hst : ST Δ N a L) (ht : AgOf P t ps.length) (hx : ev L x = some (.pointer (some (elAddr v n)))) (hc : ∀ q u, ps[q]? = some u → w.cell? (elAddr v (n + q)) = some u) : Tell P a w (.load t x) (.agg ps.toArray) := fun o ho => by
  have hrg : w.rangeAt (elAddr v n).block (elAddr v n).off ps := fun q u hu => by
    have := hc q u hu
    simpa [elAddr, Nat.add_assoc] using this
  have hl := loadVar_ag (P := P) (t := t) (w := w) ht hrg
  have he : (⟨(elAddr v n).block, (elAddr v n).off, none⟩ : Addr) = elAddr v n := rfl
  rw [he] at hl
  simp only [execOp, ho, hst.ev hx, Instr.loadAt, Instr.sureAddr, Sem.run_bind, Sem.run_pure, Result.andThen_ok, hl]
/-- A field of an element is read, the element's cells known. -/
theorem x_loadEF {α : Type} {dk : Kd α} {Z : Nat → Prop} {wr : World} {t n j : Nat} {v u : Value} {xs : List α} {i : Int} {xx : α} {cs : List Value} (hst : ST Δ N a L) (ht : ScOf P t)
    (hx : ev L x = some (.pointer (some (elAddr v n)))) (hr : RD dk Z wr v xs) (hs : Same Z wr w) (hi : idx xs i = some xx) (hn : n = Int.toNat i * dk.sz + j)
    (hK : ∀ c, dk.K Z wr xx c → c = cs) (hu : cs[j]? = some u) : Tell P a w (.load t x) u := by
  obtain ⟨c, hc, hh⟩ := hr.cells2 hi
  have := hK c hc
  subst this
  subst hn
  exact x_loadC hst ht hx (hh w hs j u hu)
/-- An element is read whole (or a struct in it). -/
theorem x_loadEsF {α : Type} {dk : Kd α} {Z : Nat → Prop} {wr : World} {t n j : Nat} {v : Value} {xs : List α} {i : Int} {xx : α} {cs ps : List Value} (hst : ST Δ N a L) (ht : AgOf P t ps.length)
    (hx : ev L x = some (.pointer (some (elAddr v n)))) (hr : RD dk Z wr v xs) (hs : Same Z wr w) (hi : idx xs i = some xx) (hn : n = Int.toNat i * dk.sz + j)
    (hK : ∀ c, dk.K Z wr xx c → c = cs) (hu : (cs.drop j).take ps.length = ps) : Tell P a w (.load t x) (.agg ps.toArray) := by
  obtain ⟨c, hc, hh⟩ := hr.cells2 hi
  have := hK c hc
  subst this
  subst hn
  refine x_loadCs hst ht hx fun q u hq => ?_
  rw [← hu, List.getElem?_take] at hq
  split at hq
  · have := hh w hs (j + q) u (by simpa using hq)
    rwa [← Nat.add_assoc] at this
  · cases hq
def evs (L : List (Nat × Value)) : List Operand → Option (List Value)
  | [] => some []
  | x :: r => match ev L x, evs L r with
    | some v, some vs => some (v :: vs)
    | _, _ => none
theorem evs_map {L : List (Nat × Value)} (hst : ST Δ N a L) : ∀ {xs : List Operand} {vs : List Value}, evs L xs = some vs → xs.map a.eval = vs
  | [], vs, h => by simp only [evs, Option.some.injEq] at h; subst h; rfl
  | x :: r, vs, h => by
    simp only [evs] at h
    split at h
    · rename_i v vs' hv hvs
      injection h with h
      subst h
      simp [hst.ev hv, evs_map hst hvs]
    · cases h
theorem callFunc_run {f : FuncId} (hf : FnOf P f) (args : Array Value) : (callFunc f args).run P w = .ok (.enter f args) w := by
  obtain ⟨fn, h1, h2, h3⟩ := hf
  simp only [callFunc, Sem.run_bind, run_program, Result.andThen_ok, h1]
  rw [if_neg (by rw [h2]; decide), if_neg (by rw [h3]; decide)]
  rfl
theorem r_call {f : FuncId} {xs : List Operand} {vs : List Value} {tt : Array TypeId} {R : Ending → World → Prop} {o : Option Nat} (hst : ST Δ N a L) (hw : Wt ops L gd) (hf : FnOf P f) (hargs : evs L xs = some vs)
    (hc : Calls P f vs.toArray w R) (k : ∀ e w', R e w' → ∃ v, e = .returned v ∧ ∀ a, (∀ d, o = some d → Nat.blt d N = true → ST Δ N a ((d, v) :: L)) → (o = none → ST Δ N a L) → wpL ρ P ops Q rest a w') :
    wpL ρ P ops Q ({ dst := o, op := .call { callee := .value (.func f), args := xs.toArray, argTypes := tt }, type := ty, pos := pos, after := af, guard := gd } :: rest) a w := by
  refine wl_enter (args := vs.toArray) hst hw ?_ hc fun e w' hR => ?_
  · simp only [execOp, resolve, Deferred.ofValue, Act.eval, Sem.run_bind, Sem.run_pure, Result.andThen_ok, invoke]
    have : (#[] : Array Value) ++ Array.map a.eval xs.toArray ++ #[] = vs.toArray := by simp [evs_map hst hargs]
    rw [this]
    exact callFunc_run hf _
  · obtain ⟨v, rfl, hk⟩ := k e w' hR
    refine ⟨v, rfl, hk _ ?_ ?_⟩
    · rintro d rfl hd
      exact hst.put hd _
    · rintro rfl
      exact hst
theorem r_callD {f : FuncId} {xs : List Operand} {vs : List Value} {tt : Array TypeId} {R : Ending → World → Prop} (hst : ST Δ N a L) (hw : Wt ops L gd) (hd : Nat.blt d N = true) (hf : FnOf P f) (hargs : evs L xs = some vs)
    (hc : Calls P f vs.toArray w R) (k : ∀ e w', R e w' → ∃ v, e = .returned v ∧ ∀ a, ST Δ N a ((d, v) :: L) → wpL ρ P ops Q rest a w') :
    wpL ρ P ops Q ({ dst := some d, op := .call { callee := .value (.func f), args := xs.toArray, argTypes := tt }, type := ty, pos := pos, after := af, guard := gd } :: rest) a w :=
  r_call hst hw hf hargs hc fun e w' hR => by
    obtain ⟨v, he, hk⟩ := k e w' hR
    exact ⟨v, he, fun a h1 _ => hk a (h1 d rfl hd)⟩
theorem x_extract {vs : List Value} {i : Nat} {u : Value} (hst : ST Δ N a L) (hx : ev L x = some (.tuple vs.toArray)) (hu : vs[i]? = some u) :
    Tell P a w (.extract x i) (u) := fun o ho => by
  simp [execOp, ho, hst.ev hx, Instr.extract, hu]
end
end Go.Proofs.YtbaemhkfmddakaaGreat.Sy
