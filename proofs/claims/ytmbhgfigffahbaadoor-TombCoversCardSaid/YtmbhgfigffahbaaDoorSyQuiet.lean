/- A region that draws its order, whose operations only tell values in every world of a class: one walk of the text's order serves every order. -/
import Derived.Test.YtmbhgfigffahbaaDoorSyPure
import Derived.Deep.Quiet
import Derived.BigQuiet
set_option linter.unusedVariables false
set_option linter.unusedSimpArgs false
namespace Go.Proofs.YtmbhgfigffahbaaDoor.Sy
open Go
section
variable {P : Program} {ops : Array Oper} {C : World → Prop} {QQ : Act → Prop} {Q : Exit → Act → World → Prop} {a : Act} {w : World} {rest : List Oper} {N : Nat} {L : List (Nat × Value)}
variable {d ty : Nat} {pos : String} {af : Array Edge} {g : Option (Nat × Bool)} {x y z : Operand}

theorem wp_region_q {id : Nat} {l : List Oper} (C : World → Prop) (hC : C w.drew) (hm : P.follows .mixedOrders = true) (hB : Region.lexB .any l.toArray = true)
    (h : wpQuiet P l.toArray C (fun a' => ∀ w', C w' → Q .normal a' w') l a) : (Code.region id l.toArray true).wp P Q a w :=
  wp_region_quiet (C := C) hm hB hC (by simpa using h)

theorem q_t {op : Op} {v : Value} (hst : ST N a L) (hw : Wt ops L g) (hd : Nat.blt d N = true) (h : ∀ w, C w → Tell P a w op v)
    (k : ∀ a, ST N a ((d, v) :: L) → wpQuiet P ops C QQ rest a) : wpQuiet P ops C QQ ({ dst := some d, op := op, type := ty, pos := pos, after := af, guard := g } :: rest) a := by
  refine wpQuiet_step fun K hK => ?_
  rw [if_pos (wanted_of hst hw)]
  refine ⟨v, fun w hC => ?_, hK _ (k _ (hst.put hd v))⟩
  unfold Oper.quietAt
  rw [h w hC _ rfl]
  exact ⟨rfl, rfl⟩

theorem q_call {f : FuncId} {xs : List Operand} {vs : List Value} {tt : Array TypeId} {v : Value} (hst : ST N a L) (hw : Wt ops L g) (hd : Nat.blt d N = true) (hf : FnOf P f) (hargs : evs L xs = some vs)
    (hc : ∀ w, C w → Calls P f vs.toArray w (fun e w'' => e = .returned v ∧ C w''))
    (k : ∀ a, ST N a ((d, v) :: L) → wpQuiet P ops C QQ rest a) : wpQuiet P ops C QQ ({ dst := some d, op := .call { callee := .value (.func f), args := xs.toArray, argTypes := tt }, type := ty, pos := pos, after := af, guard := g } :: rest) a := by
  refine wpQuiet_step fun K hK => ?_
  rw [if_pos (wanted_of hst hw)]
  refine ⟨v, fun w hC => ?_, hK _ (k _ (hst.put hd v))⟩
  have hrun : ∀ o : Oper, o.op = .call { callee := .value (.func f), args := xs.toArray, argTypes := tt } → (execOp a.eval o).run P w = .ok (.enter f vs.toArray) w := fun o ho => by
    simp only [execOp, ho, resolve, Deferred.ofValue, Act.eval, Sem.run_bind, Sem.run_pure, Result.andThen_ok, invoke]
    have : (#[] : Array Value) ++ Array.map a.eval xs.toArray ++ #[] = vs.toArray := by simp [evs_map hst hargs]
    rw [this]
    exact callFunc_run hf _
  unfold Oper.quietAt
  rw [hrun _ rfl]
  exact ⟨rfl, hc w hC⟩

theorem q_not {op : Op} {i : Nat} {b c : Bool} (hst : ST N a L) (t : Nat) (h1 : (ops[i]?).bind (·.dst) = some t) (h2 : look L t = some (.bool c)) (h3 : c = !b) (hd : Nat.blt d N = true)
    (k : ∀ a, ST N a ((d, undef) :: L) → wpQuiet P ops C QQ rest a) : wpQuiet P ops C QQ ({ dst := some d, op := op, type := ty, pos := pos, after := af, guard := some (i, b) } :: rest) a := by
  refine wpQuiet_step fun K hK => ?_
  rw [if_neg]
  · exact hK _ (k _ (hst.put hd _))
  · unfold Region.wanted
    have := hst.get t _ h2
    simp only [yielded, h1, Option.bind_some, this, h3]
    cases b <;> simp

theorem q_notU {op : Op} {i : Nat} {b : Bool} (hst : ST N a L) (t : Nat) (h1 : (ops[i]?).bind (·.dst) = some t) (h2 : look L t = some undef) (hd : Nat.blt d N = true)
    (k : ∀ a, ST N a ((d, undef) :: L) → wpQuiet P ops C QQ rest a) : wpQuiet P ops C QQ ({ dst := some d, op := op, type := ty, pos := pos, after := af, guard := some (i, b) } :: rest) a := by
  refine wpQuiet_step fun K hK => ?_
  rw [if_neg]
  · exact hK _ (k _ (hst.put hd _))
  · unfold Region.wanted
    have := hst.get t _ h2
    simp only [yielded, h1, Option.bind_some, this, undef]
    simp

theorem q_join0 {l : List Oper} (n : Nat) (L' : List (Nat × Value)) (h1 : ∀ a, ST N a L' → wpQuiet P ops C QQ (ops.toList.drop n) a) (h2 : (∀ a, ST N a L' → wpQuiet P ops C QQ (ops.toList.drop n) a) → wpQuiet P ops C QQ l a) : wpQuiet P ops C QQ l a := h2 h1
theorem q_join {l : List Oper} (n : Nat) (J : Act → Prop) (h1 : ∀ a, J a → wpQuiet P ops C QQ (ops.toList.drop n) a) (h2 : (∀ a, J a → wpQuiet P ops C QQ (ops.toList.drop n) a) → wpQuiet P ops C QQ l a) : wpQuiet P ops C QQ l a := h2 h1
theorem q_nil (h : QQ a) : wpQuiet P ops C QQ [] a := h

/-- A call that keeps the class: what it made is let go. -/
theorem q_calls {f : FuncId} {args : Array Value} {v : Value} {F : Nat → Prop} {w0 : World} {M : List SP} (hsh : SH F w0 w M) (h : Calls P f args w (fun e w' => e = .returned v ∧ SH (fun _ => False) w w' [])) :
    Calls P f args w (fun e w' => e = .returned v ∧ SH F w0 w' M) :=
  h.mono fun e w' ⟨h1, h2⟩ => ⟨h1, hsh.call0 h2⟩
end
end Go.Proofs.YtmbhgfigffahbaaDoor.Sy
