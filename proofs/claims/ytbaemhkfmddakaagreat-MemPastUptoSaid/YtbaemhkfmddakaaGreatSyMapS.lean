import Derived.Test.YtbaemhkfmddakaaGreatSyWnd
import Derived.Maps.Range
import Derived.Maps.RangeRun
import Derived.Maps.OwnSet
import Derived.StringKeys
set_option linter.unusedVariables false
set_option linter.unusedSectionVars false
set_option linter.unusedSimpArgs false
namespace Go.Proofs.YtbaemhkfmddakaaGreat.Sy
open Go
abbrev KV := ByteArray × ByteArray
def sdrop (x : ByteArray) (l : List KV) : List KV := l.filter fun p => !decide (p.1 = x)
def kL (x : ByteArray) : Lit := .string x.data.toList
theorem kL_inj {x y : ByteArray} (h : kL x = kL y) : x = y := by
  unfold kL at h
  injection h with h
  cases x; cases y
  simp only at h
  congr 1
  exact Array.ext' h
/-- What a map reads as, told as a list of pairs (each key once, in any turn). -/
structure SRep (D : DataW Unit) (l : List KV) : Prop where
  map : Maps.IsMap D
  once : l.Pairwise fun p q => p.1 ≠ q.1
  szs : ∀ p ∈ l, p.1.size ≤ maxLen
  has : ∀ x : ByteArray, Maps.has D (kL x) = l.any fun p => decide (p.1 = x)
  at_ : ∀ p ∈ l, ∀ zd, D.atKey (kL p.1) zd = .lit (kL p.2)
theorem mem_sdrop {x : ByteArray} {l : List KV} {p : KV} : p ∈ sdrop x l ↔ p ∈ l ∧ p.1 ≠ x := by simp [sdrop]
theorem any_sdrop {x y : ByteArray} {l : List KV} : (sdrop x l).any (fun p => decide (p.1 = y)) = (!decide (x = y) && l.any fun p => decide (p.1 = y)) := by
  rw [Bool.eq_iff_iff]
  simp only [List.any_eq_true, Bool.and_eq_true, decide_eq_true_eq, Bool.not_eq_true', decide_eq_false_iff_not, mem_sdrop]
  constructor
  · rintro ⟨p, ⟨h1, h2⟩, rfl⟩
    exact ⟨fun e => h2 e.symm, p, h1, rfl⟩
  · rintro ⟨h, p, h1, rfl⟩
    exact ⟨p, ⟨h1, fun e => h e.symm⟩, rfl⟩
theorem SRep.nil : SRep (.map []) [] where
  map := Maps.isMap_empty
  once := List.Pairwise.nil
  szs p h := by cases h
  has _ := rfl
  at_ p h := by cases h
theorem SRep.put {D : DataW Unit} {l : List KV} (h : SRep D l) {x v : ByteArray} (hx : x.size ≤ maxLen) (hk : WideAt.IsKeyLit (kL x)) : SRep (D.put (kL x) (.lit (kL v))) ((x, v) :: sdrop x l) where
  map := h.map.put _ _
  once := List.pairwise_cons.2 ⟨fun p hp => fun e => (mem_sdrop.1 hp).2 e.symm, h.once.filter _⟩
  szs p hp := by
    rcases List.mem_cons.1 hp with rfl | hp
    · exact hx
    · exact h.szs p (mem_sdrop.1 hp).1
  has y := by
    rw [List.any_cons, any_sdrop]
    by_cases e : x = y
    · subst e
      rw [Maps.has_put_same h.map hk]; simp
    · rw [Maps.has_put_other (fun c => e (kL_inj c).symm), h.has y]; simp [e]
  at_ p hp zd := by
    rcases List.mem_cons.1 hp with rfl | hp
    · exact Maps.atKey_put_same h.map hk _ _
    · obtain ⟨h1, h2⟩ := mem_sdrop.1 hp
      rw [Maps.atKey_put_other (fun c => h2 (kL_inj c))]
      exact h.at_ p h1 zd
section
variable {ρ : Option Nat} {Δ : List Deferred} variable {P : Program} {ops : Array Oper} {Q : Exit → Act → World → Prop} {a : Act} {w : World} {rest : List Oper} {N : Nat} {L : List (Nat × Value)}
variable {d ty : Nat} {pos : String} {af : Array Edge} {gd : Option (Nat × Bool)} {x y z : Operand}
variable {F : Nat → Prop} {w0 : World} {M : List SP}
end
end Go.Proofs.YtbaemhkfmddakaaGreat.Sy
