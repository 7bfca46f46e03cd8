import Derived.Test.YtmbhgfigffahbaaDoorSyDel
set_option linter.unusedVariables false
set_option linter.unusedSectionVars false
set_option linter.unusedSimpArgs false
namespace Go.Proofs.YtmbhgfigffahbaaDoor.Sy
open Go
def mark (b : Nat) : Deferred := { target := .collected b, args := #[] }
section
variable {F : Nat → Prop} {w0 w : World} {L M : List SP}
end
section
variable {ρ : Option Nat} {Δ : List Deferred} {P : Program} {ops : Array Oper} {Q : Exit → Act → World → Prop} {a : Act} {w : World} {rest : List Oper} {N : Nat} {L : List (Nat × Value)}
variable {d ty : Nat} {pos : String} {af : Array Edge} {gd : Option (Nat × Bool)} {x y z : Operand}
variable {F : Nat → Prop} {w0 : World} {M : List SP}
theorem tm {v : Value} (hst : ST Δ N a L) (hd : Nat.blt d N = true) (hx : ev L x = some v) (k : ∀ a, ST Δ N a ((d, v) :: L) → wpL ρ P ops Q rest a w) :
    wpL ρ P ops Q ({ dst := some d, op := .move x, type := ty, pos := pos, after := af, guard := none } :: rest) a w := r_t hst trivial hd (x_move hst hx) k
theorem ta {v : Value} (hst : ST Δ N a L) (hd : Nat.blt d N = true) (hx : ev L x = some v) (k : ∀ a, ST Δ N a ((d, v) :: L) → wpL ρ P ops Q rest a w) :
    wpL ρ P ops Q ({ dst := some d, op := .assign x, type := ty, pos := pos, after := af, guard := none } :: rest) a w := r_t hst trivial hd (x_assign hst hx) k
theorem ws {id : Nat} {l : List Oper} {y : Code} (hp : Plain ρ l) (h : wpL ρ P l.toArray (Exit.then (wq y ρ P Q) Q) l a w) : wq (Code.seq (Code.region id l.toArray false) y) ρ P Q a w := wq_seq (wq_region_lit hp h)
theorem wn {ops : Array Oper} {J : Act → World → Prop} (h : J a w) : wpL ρ P ops (Exit.then J Q) [] a w := wpL_nil (then_normal h)
end
end Go.Proofs.YtmbhgfigffahbaaDoor.Sy
