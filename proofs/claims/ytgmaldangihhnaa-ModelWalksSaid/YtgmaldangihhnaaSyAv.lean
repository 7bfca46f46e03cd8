import Derived.Test.YtgmaldangihhnaaSyOb
import Derived.Test.YtgmaldangihhnaaSyIn
set_option linter.unusedVariables false
set_option linter.unusedSectionVars false
set_option linter.unusedSimpArgs false
namespace Go.Proofs.Ytgmaldangihhnaa.Sy
open Go
section
variable {ρ : Option Nat} {Δ : List Deferred} variable {P : Program} {ops : Array Oper} {Q : Exit → Act → World → Prop} {a : Act} {w : World} {rest : List Oper} {N : Nat} {L : List (Nat × Value)}
variable {x y : Operand}
end
structure SlV where
  p : Option Addr
  n : Nat
  c : Nat
instance : BEq SlV := ⟨fun _ _ => true⟩
def SlV.nil : SlV := ⟨none, 0, 0⟩
def SlV.v (x : SlV) : Value := .slice x.p x.n x.c
def Kd.slv : Kd SlV := Kd.flat 1 (fun x => [SlV.v x]) (fun _ => rfl) (fun _ u hu => by simp at hu; subst hu; rfl)
theorem in_slv {B : {H : Type} → DataW H → Nat} {A : {H : Type} → List (DataW H) → Nat} {P : Program} (hB : Bulk B A) {t e : TypeId} {α : Type} {d : Kd α} {G : List α → Prop} {m : List α → Nat} {S : List α → Prop} (h : In P B t (Kd.slice e d) G m S) :
    In P B t Kd.slv (fun _ => True) (fun _ => 1) (fun _ => True) where
  sz := h.sz
  go hx := by
    obtain ⟨a, hk, hg, hm, hs⟩ := h.go hx
    obtain ⟨v, rfl, hr⟩ := hk
    obtain ⟨p, c, rfl, _⟩ := hr
    exact ⟨⟨p, a.length, c⟩, rfl, trivial, hB.one _, fun _ => trivial⟩
end Go.Proofs.Ytgmaldangihhnaa.Sy
