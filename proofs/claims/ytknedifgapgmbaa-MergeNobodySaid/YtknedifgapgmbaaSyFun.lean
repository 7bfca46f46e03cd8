import Derived.Test.YtknedifgapgmbaaSyApp
set_option linter.unusedVariables false
set_option linter.unusedSectionVars false
set_option linter.unusedSimpArgs false
namespace Go.Proofs.Ytknedifgapgmbaa.Sy
open Go
/-- A function value called. -/
def CallsV (P : Program) (v : Value) (args : List Value) (w : World) (R : Ending → World → Prop) : Prop :=
  ∃ (f : FuncId) (caps : List Value), v = .func (.func f) #[] caps.toArray ∧ FnOf P f ∧ Calls P f (args ++ caps).toArray w R
theorem Same.sub {Z Z' : Nat → Prop} {wr w : World} (h : Same Z wr w) (hz : ∀ k, Z' k → Z k) : Same Z' wr w := fun k hk => h k (hz k hk)
section
variable {ρ : Option Nat} {Δ : List Deferred} variable {P : Program} {ops : Array Oper} {Q : Exit → Act → World → Prop} {a : Act} {w : World} {rest : List Oper} {N : Nat} {L : List (Nat × Value)}
variable {d ty : Nat} {pos : String} {af : Array Edge} {gd : Option (Nat × Bool)} {x y z : Operand}
variable {F : Nat → Prop} {w0 : World} {M : List SP} {C : World → Prop} {QQ : Act → Prop} {E B X : World → Prop} {restm : List (Nat × Oper)} {KK : (World → Prop) → (World → Prop) → Act → Prop}
theorem run_callV {f : FuncId} {caps vs : List Value} {xs : List Operand} {tt : Array TypeId} {xf : Operand} (hst : ST Δ N a L) (hf : FnOf P f) (hx : ev L xf = some (.func (.func f) #[] caps.toArray)) (hargs : evs L xs = some vs) (o : Oper)
    (ho : o.op = .call { callee := .value xf, args := xs.toArray, argTypes := tt }) : (execOp a.eval o).run P w = .ok (.enter f (vs ++ caps).toArray) w := by
  simp only [execOp, ho, resolve, hst.ev hx, Deferred.ofValue, Sem.run_bind, Sem.run_pure, Result.andThen_ok, invoke]
  have : (#[] : Array Value) ++ Array.map a.eval xs.toArray ++ caps.toArray = (vs ++ caps).toArray := by simp [evs_map hst hargs]
  rw [this]
  exact callFunc_run hf _
/-- func(..) with what it captured. -/
theorem x_makeFunc {f : FuncId} {xs : List Operand} {vs : List Value} (hst : ST Δ N a L) (hargs : evs L xs = some vs) : Tell P a w (.makeFunc (.func f) #[] xs.toArray) (.func (.func f) #[] vs.toArray) := fun o ho => by
  have := evs_map hst hargs
  simp [execOp, ho, this, Instr.makeFunc]
end
end Go.Proofs.Ytknedifgapgmbaa.Sy
