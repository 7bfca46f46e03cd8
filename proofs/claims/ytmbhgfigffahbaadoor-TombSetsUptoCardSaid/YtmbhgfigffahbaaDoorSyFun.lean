import Derived.Test.YtmbhgfigffahbaaDoorSyApp
set_option linter.unusedVariables false
set_option linter.unusedSectionVars false
set_option linter.unusedSimpArgs false
namespace Go.Proofs.YtmbhgfigffahbaaDoor.Sy
open Go
theorem Same.sub {Z Z' : Nat → Prop} {wr w : World} (h : Same Z wr w) (hz : ∀ k, Z' k → Z k) : Same Z' wr w := fun k hk => h k (hz k hk)
theorem Same.at {Z : Nat → Prop} {wr w : World} {g : Nat} {o : Obj} (h : Same Z wr w) (hg : wr.heap[g]? = some o) (hz : Z g) : w.heap[g]? = some o :=
  (h g hz (Array.getElem?_eq_some_iff.1 hg).1).trans hg
section
variable {ρ : Option Nat} {Δ : List Deferred} variable {P : Program} {ops : Array Oper} {Q : Exit → Act → World → Prop} {a : Act} {w : World} {rest : List Oper} {N : Nat} {L : List (Nat × Value)}
variable {d ty : Nat} {pos : String} {af : Array Edge} {gd : Option (Nat × Bool)} {x y z : Operand}
variable {F : Nat → Prop} {w0 : World} {M : List SP} {C : World → Prop} {QQ : Act → Prop} {E B X : World → Prop} {restm : List (Nat × Oper)} {KK : (World → Prop) → (World → Prop) → Act → Prop}
/-- func(..) with what it captured. -/
theorem x_makeFunc {f : FuncId} {xs : List Operand} {vs : List Value} (hst : ST Δ N a L) (hargs : evs L xs = some vs) : Tell P a w (.makeFunc (.func f) #[] xs.toArray) (.func (.func f) #[] vs.toArray) := fun o ho => by
  have := evs_map hst hargs
  simp [execOp, ho, this, Instr.makeFunc]
theorem x_loadCaps {Z : Nat → Prop} {wr : World} {t g j e : Nat} {cs ps : List Value} (hst : ST Δ N a L) (hb : wr.heap[g]? = some (.cells cs.toArray e (0, 0))) (hs : Same Z wr w) (hz : Z g) (ht : AgOf P t ps.length) (hx : ev L x = some (.pointer (some ⟨g, j, none⟩)))
    (hj : (cs.drop j).take ps.length = ps) : Tell P a w (.load t x) (.agg ps.toArray) := fun o ho => by
  have hc : w.rangeAt g j ps := fun m v hv => by
    rw [box_cell (hs.at hb hz)]
    rw [← hj, List.getElem?_take] at hv
    split at hv
    · simpa using hv
    · cases hv
  simp [execOp, ho, hst.ev hx, Instr.loadAt, Instr.sureAddr, loadVar_ag ht hc]
end
end Go.Proofs.YtmbhgfigffahbaaDoor.Sy
