import Derived.Test.YtbaemhkfmddakaaGreatSyExt
import Derived.LoopNIn
set_option linter.unusedVariables false
set_option linter.unusedSectionVars false
set_option linter.unusedSimpArgs false
namespace Go.Proofs.YtbaemhkfmddakaaGreat.Sy
open Go
/-- Two values that are told apart without memory. -/
def EqV (P : Program) (t : Nat) (u v : Value) (q : Bool) : Prop :=
  ((∀ w, (binOp .eql t u v).run P w = .ok (.bool q) w) ∧ ∀ w, (binOp .neq t u v).run P w = .ok (.bool (!q)) w) ∧ (∀ x y, eqGuard .eql t x y u v = pure ()) ∧ ∀ x y, eqGuard .neq t x y u v = pure ()
section
variable {P : Program} {t e : Nat} {ps rs : Array TypeId} {vr : Bool}
theorem eqv_p10 {a : Addr} (ht : P.underlying t = some (.pointer e)) : EqV P t (.pointer (some a)) (.pointer none) false := by
  have hq : ∀ d w, (Op.equalIn (d + 1) t (.pointer (some a)) (.pointer none)).run P w = .ok false w := fun d w => by simp [Op.equalIn, run_underlying ht]
  have he : ∀ w, (Op.equal t (.pointer (some a)) (.pointer none)).run P w = .ok false w := hq 9999
  exact ⟨⟨fun w => by simp [binOp, he], fun w => by simp [binOp, he]⟩, fun _ _ => rfl, fun _ _ => rfl⟩
end
section
variable {ρ : Option Nat} {Δ : List Deferred} variable {P : Program} {Q : Exit → Act → World → Prop} {a : Act} {w : World} {N : Nat} {L : List (Nat × Value)} {x y : Operand}
theorem x_eqV {bo : BinOp} {u v : Value} {q b : Bool} {t1 t2 : Nat} (hst : ST Δ N a L) (hx : ev L x = some u) (hy : ev L y = some v) (he : EqV P t1 u v q)
    (hb : (match bo with | .eql => some q | .neq => some (!q) | _ => none) = some b) : Tell P a w (.binOp bo t1 x y t2) (.bool b) := fun o ho => by
  obtain ⟨⟨h0, h1⟩, h2, h3⟩ := he
  cases bo <;> simp only [Option.some.injEq, reduceCtorEq] at hb <;> subst hb
  · have e := h0 w
    simp [execOp, ho, hst.ev hx, hst.ev hy, h2]
    rw [e]; rfl
  · have e := h1 w
    simp [execOp, ho, hst.ev hx, hst.ev hy, h3]
    rw [e]; rfl
/-- A literal of pointers: its elements by numbers that are known. -/
theorem x_indexLit {t e g n sz by_ : Nat} {j : Int} {ki : IntKind} {m : Nat} (hst : ST Δ N a L) (ht : P.underlying t = some (.slice e)) (he : ElOf P e sz by_) (hx : ev L x = some (.slice (some ⟨g, 0, none⟩) n n)) (hy : ev L y = some (.int ki j))
    (hj : 0 ≤ j ∧ j < (n : Int)) (hm : j.toNat * sz = m) : Tell P a w (.indexAddr t x y) (.pointer (some ⟨g, m, none⟩)) := fun o ho => by
  obtain ⟨inf, z, hinf, hz, hzs, hsz, hb⟩ := he
  subst hm
  have hadd : (⟨g, 0, none⟩ : Addr).add (j.toNat * sz) = ⟨g, j.toNat * sz, none⟩ := by simp [Addr.add_lit]
  simp only [execOp, ho, hst.ev hx, hst.ev hy, Instr.indexAt, Sem.run_bind, asIntOf, Sem.run_pure, Result.andThen_ok, run_underlying ht]
  simp [hj.1, hj.2, sizeOf, typeInfo, hinf, hsz, hadd]
theorem x_lenLit {A : Option Addr} {c n : Nat} {m : Int} {t1 e : Nat} (hst : ST Δ N a L) (h1 : P.underlying t1 = some (.slice e)) (hx : ev L x = some (.slice A n c)) (hm : (n : Int) = m) :
    Tell P a w (.call { callee := .builtin .len, args := #[x], argTypes := #[t1] }) (.int .i64 m) := by subst hm; exact x_lenSl hst h1 hx ⟨A, c, rfl⟩
theorem wq_cut2 {x y : Code} (J : Act → World → Prop) (hy : ∀ a w, J a w → wq y ρ P Q a w) (hx : wq x ρ P (Exit.then (fun a w => J a w ∨ wq y ρ P Q a w) Q) a w) : wq (Code.seq x y) ρ P Q a w :=
  wq_cut (fun a w => J a w ∨ wq y ρ P Q a w) (fun a w h => h.elim (hy a w) id) hx
/-- A loop of at most m rounds, round by round. -/
def Rnds (c : Code) (ρ : Option Nat) (P : Program) (Q : Exit → Act → World → Prop) : Nat → Act → World → Prop
  | 0 => fun _ _ => False
  | m + 1 => fun a w => wq c ρ P (Exit.then (Rnds c ρ P Q m) Q) a w
theorem rnds_in {c : Code} : ∀ m, Rnds c ρ P Q m = Code.roundsIn (FW ρ) 0 P c Q m
  | 0 => rfl
  | m + 1 => by
    funext a w
    show wq c ρ P (Exit.then (Rnds c ρ P Q m) Q) a w = Code.wpIn (FW ρ) 0 P c (Exit.then (Code.roundsIn (FW ρ) 0 P c Q m) Q) a w
    rw [rnds_in m]; rfl
theorem rnds_succ {c : Code} {m : Nat} (h : wq c ρ P (Exit.then (Rnds c ρ P Q m) Q) a w) : Rnds c ρ P Q (m + 1) a w := h
theorem wq_rounds {c : Code} (m : Nat) (h : Rnds c ρ P Q m a w) : wq (Code.loop c) ρ P Q a w := wpIn_loop_rounds m (by rw [← rnds_in]; exact h)
end
end Go.Proofs.YtbaemhkfmddakaaGreat.Sy
