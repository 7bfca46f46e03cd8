import Derived.Test.YtbaemhkfmddakaaGreatSyApp
set_option linter.unusedVariables false
set_option linter.unusedSectionVars false
set_option linter.unusedSimpArgs false
namespace Go.Proofs.YtbaemhkfmddakaaGreat.Sy
open Go
/-- A function value called. -/
def CallsV (P : Program) (v : Value) (args : List Value) (w : World) (R : Ending → World → Prop) : Prop :=
  ∃ (f : FuncId) (caps : List Value), v = .func (.func f) #[] caps.toArray ∧ FnOf P f ∧ Calls P f (args ++ caps).toArray w R
theorem Same.sub {Z Z' : Nat → Prop} {wr w : World} (h : Same Z wr w) (hz : ∀ k, Z' k → Z k) : Same Z' wr w := fun k hk => h k (hz k hk)
theorem Same.at {Z : Nat → Prop} {wr w : World} {g : Nat} {o : Obj} (h : Same Z wr w) (hg : wr.heap[g]? = some o) (hz : Z g) : w.heap[g]? = some o :=
  (h g hz (Array.getElem?_eq_some_iff.1 hg).1).trans hg
section
variable {ρ : Option Nat} {Δ : List Deferred} variable {P : Program} {ops : Array Oper} {Q : Exit → Act → World → Prop} {a : Act} {w : World} {rest : List Oper} {N : Nat} {L : List (Nat × Value)}
variable {d ty : Nat} {pos : String} {af : Array Edge} {gd : Option (Nat × Bool)} {x y z : Operand}
variable {F : Nat → Prop} {w0 : World} {M : List SP} {C : World → Prop} {QQ : Act → Prop} {E B X : World → Prop} {restm : List (Nat × Oper)} {KK : (World → Prop) → (World → Prop) → Act → Prop}
theorem run_callV {f : FuncId} {caps vs : List Value} {xs : List Operand} {tt : Array TypeId} {xf : Operand} (hst : ST Δ N a L) (hf : FnOf P f) (hx : ev L xf = some (.func (.func f) #[] caps.toArray)) (hargs : evs L xs = some vs) (o : Oper)
    (ho : o.op = .call { callee := .value xf, args := xs.toArray, argTypes := tt }) : (execOp a.eval o).run P w = .ok (.enter f (vs ++ caps).toArray) w := by
  simp only [execOp, ho, resolve, hst.ev hx, Deferred.ofValue, Sem.run_bind, Sem.run_pure, Result.andThen_ok, invoke]
  have : (#[] : Array Value) ++ Array.map a.eval xs.toArray ++ caps.toArray = (vs ++ caps).toArray := by simp [evs_map hst hargs]
  rw [this]
  exact callFunc_run hf _
theorem r_callV {xs : List Operand} {vs : List Value} {tt : Array TypeId} {R : Ending → World → Prop} {fv : Value} {xf : Operand} (hst : ST Δ N a L) (hw : Wt ops L gd) (hd : Nat.blt d N = true) (hx : ev L xf = some fv) (hargs : evs L xs = some vs)
    (hc : CallsV P fv vs w R) (k : ∀ e w', R e w' → ∃ v, e = .returned v ∧ ∀ a, ST Δ N a ((d, v) :: L) → wpL ρ P ops Q rest a w') :
    wpL ρ P ops Q ({ dst := some d, op := .call { callee := .value xf, args := xs.toArray, argTypes := tt }, type := ty, pos := pos, after := af, guard := gd } :: rest) a w := by
  obtain ⟨f, caps, rfl, hf, hc⟩ := hc
  refine wl_enter (args := (vs ++ caps).toArray) hst hw (run_callV hst hf hx hargs _ rfl) hc fun e w' hR => ?_
  obtain ⟨v, rfl, hk⟩ := k e w' hR
  exact ⟨v, rfl, hk _ (hst.put hd v)⟩
/-- func(..) with what it captured. -/
theorem x_makeFunc {f : FuncId} {xs : List Operand} {vs : List Value} (hst : ST Δ N a L) (hargs : evs L xs = some vs) : Tell P a w (.makeFunc (.func f) #[] xs.toArray) (.func (.func f) #[] vs.toArray) := fun o ho => by
  have := evs_map hst hargs
  simp [execOp, ho, this, Instr.makeFunc]
theorem x_loadCap {Z : Nat → Prop} {wr : World} {t g j e : Nat} {cs : List Value} {v : Value} (hst : ST Δ N a L) (hb : wr.heap[g]? = some (.cells cs.toArray e (0, 0))) (hs : Same Z wr w) (hz : Z g) (ht : ScOf P t) (hx : ev L x = some (.pointer (some ⟨g, j, none⟩)))
    (hj : cs[j]? = some v) : Tell P a w (.load t x) v := fun o ho => by
  have hc : w.cell? ⟨g, j, none⟩ = some v := (box_cell (hs.at hb hz) j).trans hj
  simp [execOp, ho, hst.ev hx, Instr.loadAt, Instr.sureAddr, loadVar_sc ht hc]
end
end Go.Proofs.YtbaemhkfmddakaaGreat.Sy
