import Derived.Test.YtbaemhkfmddakaaGreatSyRange
import Derived.Test.YtbaemhkfmddakaaGreatSyPlain
import Derived.Laws.Externs
import Derived.Lib.Bytealg
set_option linter.unusedVariables false
set_option linter.unusedSectionVars false
set_option linter.unusedSimpArgs false
namespace Go.Proofs.YtbaemhkfmddakaaGreat.Sy
open Go
def ordS (a b : ByteArray) : Int := if sLt a b = true then -1 else if sLt b a = true then 1 else 0
theorem cmpB_eq : ∀ (x y : List UInt8), Lib.compareBytes x y = if x < y then -1 else if y < x then 1 else 0
  | [], [] => by simp [Lib.compareBytes]
  | [], _ :: _ => by simp [Lib.compareBytes]
  | _ :: _, [] => by simp [Lib.compareBytes]
  | a :: x, b :: y => by
    rw [Lib.compareBytes, cmpB_eq x y]
    simp only [List.cons_lt_cons_iff]
    by_cases h : a < b
    · simp [h]
    · by_cases k : b < a
      · have hne : a ≠ b := fun e => by subst e; exact absurd k (UInt8.lt_irrefl a)
        simp [h, k, hne]
      · have : a = b := UInt8.le_antisymm (UInt8.not_lt.1 k) (UInt8.not_lt.1 h)
        subst this
        simp [UInt8.lt_irrefl]
theorem ordS_eq (a b : ByteArray) : Lib.compareBytes a.data.toList b.data.toList = ordS a b := by
  rw [cmpB_eq]
  unfold ordS
  have e : ∀ x : ByteArray, x.data.toList = x.toList := fun x => (ByteArray.toList_eq x).symm
  simp only [sLt_iff, slt, e]
def ExtOf (P : Program) (f : FuncId) (e : Array Value → Sem Value) : Prop := ∃ fn, P.funcs[f]? = some fn ∧ (fn.name == "runtime.NumGoroutine") = false ∧ fn.body.isNone = true ∧ (Extern.findNext fn).isNone = true ∧ Extern.find fn = some e
section
variable {Δ : List Deferred} {P : Program} {a : Act} {w : World} {N : Nat} {L : List (Nat × Value)} {x y : Operand}
theorem x_ordS {f : FuncId} {p q : ByteArray} {tt : Array TypeId} (hst : ST Δ N a L) (hf : ExtOf P f Extern.BytealgCompare.compare) (hx : ev L x = some (.string p)) (hy : ev L y = some (.string q)) :
    Tell P a w (.call { callee := .value (.func f), args := [x, y].toArray, argTypes := tt }) (.int .i64 (ordS p q)) := fun o ho => by
  obtain ⟨fn, h1, h2, h3, h4, h5⟩ := hf
  simp only [execOp, ho, resolve, Deferred.ofValue, Act.eval, Sem.run_bind, Sem.run_pure, Result.andThen_ok, invoke]
  have : (#[] : Array Value) ++ Array.map a.eval [x, y].toArray ++ #[] = #[.string p, .string q] := by simp [hst.ev hx, hst.ev hy]
  rw [this, run_callFunc_extern h1 h2 h3 (Option.isNone_iff_eq_none.1 h4) h5, Lib.run_compareString, ordS_eq]
  rfl
end
end Go.Proofs.YtbaemhkfmddakaaGreat.Sy
