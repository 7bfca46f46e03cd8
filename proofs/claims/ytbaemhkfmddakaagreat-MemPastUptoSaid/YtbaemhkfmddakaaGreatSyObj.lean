import Derived.Test.YtbaemhkfmddakaaGreatSyEv
set_option linter.unusedVariables false
set_option linter.unusedSectionVars false
set_option linter.unusedSimpArgs false
namespace Go.Proofs.YtbaemhkfmddakaaGreat.Sy
open Go
section
variable {ρ : Option Nat} {Δ : List Deferred} variable {P : Program} {a : Act} {w : World} {N : Nat} {L : List (Nat × Value)} {x y : Operand}
theorem x_nilCheck {p : Addr} (hst : ST Δ N a L) (hx : ev L x = some (.pointer (some p))) : Tell P a w (.nilCheck x) (.pointer (some p)) := fun o ho => by
  simp [execOp, ho, hst.ev hx]
def sidx (s : ByteArray) (i : Int) : Option Int := if 0 ≤ i then (s[i.toNat]?).map (fun b => (b.toNat : Int)) else none
theorem x_indexS {t : Nat} {s : ByteArray} {i n : Int} {k : IntKind} (hst : ST Δ N a L) (ht : P.underlying t = some .string) (hx : ev L x = some (.string s)) (hy : ev L y = some (.int k i)) (hi : sidx s i = some n) :
    Tell P a w (.index t x y) (.int .u8 n) := fun o ho => by
  unfold sidx at hi
  split at hi
  · rename_i h0
    obtain ⟨b, hb, rfl⟩ := Option.map_eq_some_iff.1 hi
    simp [execOp, ho, hst.ev hx, hst.ev hy, Instr.index, asIntOf, run_underlying ht, h0, hb]
  · cases hi
def shlO (k : IntKind) (m n : Int) : Option Int := if 0 ≤ n ∧ n ≤ k.bits then some (k.wrap (m * 2 ^ n.toNat)) else none
theorem x_shlO {k1 k2 : IntKind} {m n r : Int} {t1 t2 : Nat} (hst : ST Δ N a L) (hx : ev L x = some (.int k1 m)) (hy : ev L y = some (.int k2 n)) (h : shlO k1 m n = some r) : Tell P a w (.binOp .shl t1 x y t2) (.int k1 r) := by
  unfold shlO at h
  split at h
  · rename_i hb
    injection h with h
    subst h
    exact x_shl hst hx hy hb.1 hb.2
  · cases h
end
end Go.Proofs.YtbaemhkfmddakaaGreat.Sy
