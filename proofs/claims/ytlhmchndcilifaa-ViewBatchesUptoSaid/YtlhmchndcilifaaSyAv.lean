import Derived.Test.YtlhmchndcilifaaSyOb
import Derived.Test.YtlhmchndcilifaaSyIn
set_option linter.unusedVariables false
set_option linter.unusedSectionVars false
set_option linter.unusedSimpArgs false
namespace Go.Proofs.Ytlhmchndcilifaa.Sy
open Go
section
variable {ρ : Option Nat} {Δ : List Deferred} variable {P : Program} {ops : Array Oper} {Q : Exit → Act → World → Prop} {a : Act} {w : World} {rest : List Oper} {N : Nat} {L : List (Nat × Value)}
variable {x y : Operand}
end
structure SlV where
  p : Option Addr
  n : Nat
  c : Nat
instance : BEq SlV := ⟨fun _ _ => true⟩
def SlV.nil : SlV := ⟨none, 0, 0⟩
end Go.Proofs.Ytlhmchndcilifaa.Sy
namespace Go.Proofs.Ytlhmchndcilifaa.Sy
open Go
theorem rob_open {α : Type} {t g : Nat} {d : Kd α} {Z : Nat → Prop} {w : World} {x : α} (h : (Kd.ptr t d).K Z w x [.pointer (some ⟨g, 0, none⟩)]) :
    ∃ c, Z g ∧ w.heap[g]? = some (.cells c.toArray t (0, 0)) ∧ d.K Z w x c := by
  obtain ⟨g', c, e1, hg, hb, hk⟩ := h
  simp only [List.cons.injEq, Value.pointer.injEq, Option.some.injEq, Addr.mk.injEq, and_true] at e1
  subst e1
  exact ⟨c, hg, hb, hk⟩
theorem SH.elK {α : Type} {d : Kd α} {F : Nat → Prop} {w0 w : World} {M : List SP} {cs : List Value} {x : α} (h : SH F w0 w M) (i : Nat) (hi : M[i]? = some (El d cs x)) : d.K (Mine F w0 w) w x cs :=
  d.M_K ((h.sep.pull i hi).head)
end Go.Proofs.Ytlhmchndcilifaa.Sy
namespace Go.Proofs.Ytlhmchndcilifaa.Sy
open Go
section
variable {ρ : Option Nat} {Δ : List Deferred} {P : Program} {ops : Array Oper} {E B C X : World → Prop} {QQ : Act → Prop} {Q : Exit → Act → World → Prop} {a : Act} {w : World} {rest : List Oper} {N : Nat} {L : List (Nat × Value)}
variable {KK : (World → Prop) → (World → Prop) → Act → Prop} {restm : List (Nat × Oper)}
variable {d ty : Nat} {pos : String} {af : Array Edge} {gd : Option (Nat × Bool)} {x y z : Operand}
end
end Go.Proofs.Ytlhmchndcilifaa.Sy
namespace Go.Proofs.Ytlhmchndcilifaa.Sy
open Go
theorem Sep.elK {α : Type} {d : Kd α} {Z : Nat → Prop} {w : World} {M : List SP} {cs : List Value} {x : α} (h : Sep Z w M) (i : Nat) (hi : M[i]? = some (El d cs x)) : d.K Z w x cs := d.M_K ((h.pull i hi).head)
end Go.Proofs.Ytlhmchndcilifaa.Sy
