import Derived.Test.YtbaemhkfmddakaaSyDel
set_option linter.unusedVariables false
set_option linter.unusedSectionVars false
set_option linter.unusedSimpArgs false
namespace Go.Proofs.Ytbaemhkfmddakaa.Sy
open Go
section
variable {F : Nat → Prop} {w0 w : World} {L M : List SP}
end
section
variable {ρ : Option Nat} {Δ : List Deferred} {P : Program} {ops : Array Oper} {Q : Exit → Act → World → Prop} {a : Act} {w : World} {rest : List Oper} {N : Nat} {L : List (Nat × Value)}
variable {d ty : Nat} {pos : String} {af : Array Edge} {gd : Option (Nat × Bool)} {x y z : Operand}
variable {F : Nat → Prop} {w0 : World} {M : List SP}
theorem r_inl {f : FuncId} {xs : List Operand} {vs : List Value} {tt : Array TypeId} (hst : ST Δ N a L) (hw : Wt ops L gd) (hd : Nat.blt d N = true) (hf : FnOf P f) (hargs : evs L xs = some vs)
    (h : Calls P f vs.toArray w (fun e w' => ∃ v, e = .returned v ∧ ∀ a, ST Δ N a ((d, v) :: L) → wpL ρ P ops Q rest a w')) :
    wpL ρ P ops Q ({ dst := some d, op := .call { callee := .value (.func f), args := xs.toArray, argTypes := tt }, type := ty, pos := pos, after := af, guard := gd } :: rest) a w := by
  have hrun : ∀ o : Oper, o.op = .call { callee := .value (.func f), args := xs.toArray, argTypes := tt } → (execOp a.eval o).run P w = .ok (.enter f vs.toArray) w := fun o ho => by
    simp only [execOp, ho, resolve, Deferred.ofValue, Act.eval, Sem.run_bind, Sem.run_pure, Result.andThen_ok, invoke]
    have : (#[] : Array Value) ++ Array.map a.eval xs.toArray ++ #[] = vs.toArray := by simp [evs_map hst hargs]
    rw [this]
    exact callFunc_run hf _
  refine wl_enter hst hw (hrun _ rfl) h fun e w' hR => ?_
  obtain ⟨v, rfl, hk⟩ := hR
  exact ⟨v, rfl, hk _ (hst.put hd v)⟩
theorem tm {v : Value} (hst : ST Δ N a L) (hd : Nat.blt d N = true) (hx : ev L x = some v) (k : ∀ a, ST Δ N a ((d, v) :: L) → wpL ρ P ops Q rest a w) :
    wpL ρ P ops Q ({ dst := some d, op := .move x, type := ty, pos := pos, after := af, guard := none } :: rest) a w := r_t hst trivial hd (x_move hst hx) k
theorem ta {v : Value} (hst : ST Δ N a L) (hd : Nat.blt d N = true) (hx : ev L x = some v) (k : ∀ a, ST Δ N a ((d, v) :: L) → wpL ρ P ops Q rest a w) :
    wpL ρ P ops Q ({ dst := some d, op := .assign x, type := ty, pos := pos, after := af, guard := none } :: rest) a w := r_t hst trivial hd (x_assign hst hx) k
theorem ws {id : Nat} {l : List Oper} {y : Code} (hp : Plain ρ l) (h : wpL ρ P l.toArray (Exit.then (wq y ρ P Q) Q) l a w) : wq (Code.seq (Code.region id l.toArray false) y) ρ P Q a w := wq_seq (wq_region_lit hp h)
theorem wn {ops : Array Oper} {J : Act → World → Prop} (h : J a w) : wpL ρ P ops (Exit.then J Q) [] a w := wpL_nil (then_normal h)
end
end Go.Proofs.Ytbaemhkfmddakaa.Sy
