import Derived.Test.YtbaemhkfmddakaaGreatSyMix
import Derived.Test.YtbaemhkfmddakaaGreatSyFun
set_option linter.unusedVariables false
set_option linter.unusedSectionVars false
set_option linter.unusedSimpArgs false
namespace Go.Proofs.YtbaemhkfmddakaaGreat.Sy
open Go
def wpQ (P : Program) (ops : Array Oper) (C : World → Prop) (QQ : Act → Prop) : List Oper → Act → Prop
  | [], a => QQ a
  | o :: s, a => if Region.wanted o (yielded ops a.tmps) then ∃ v, (∀ w, C w → rAt P o a w v) ∧ wpQ P ops C QQ s (a.put o.dst v) else wpQ P ops C QQ s (a.put o.dst undef)
def qs : Nat → List Oper → List (Nat × Nat)
  | _, [] => []
  | i, _ :: r => (0, i) :: qs (i + 1) r
theorem scr_qs {l : List Oper} : ∀ (r pre : List Oper), l = pre ++ r → scr l (qs pre.length r) = r.map fun o => (0, o)
  | [], _, _ => rfl
  | o :: r, pre, h => by
    have h1 : nth l pre.length = o := by
      have := nth_get l pre.length (by rw [h]; simp)
      rw [h] at this
      rw [List.getElem?_append_right (Nat.le_refl _)] at this
      rw [h]
      simpa using this.symm
    have := scr_qs (l := l) r (pre ++ [o]) (by simp [h])
    simp only [List.length_append, List.length_singleton] at this
    simp only [qs, scr, h1, this, List.map_cons]
section
variable {ρ : Option Nat} {Δ : List Deferred} {P : Program} {ops : Array Oper} {E C : World → Prop} {QQ : Act → Prop} {Q : Exit → Act → World → Prop} {a : Act} {w : World} {rest : List Oper} {N : Nat} {L : List (Nat × Value)}
variable {d ty : Nat} {pos : String} {af : Array Edge} {g : Option (Nat × Bool)} {x y z : Operand}
theorem wpM_of_Q {K : (World → Prop) → (World → Prop) → Act → Prop} (hK : ∀ a, QQ a → K C C a) : ∀ {l : List Oper} {a : Act}, wpQ P ops C QQ l a → wpM ρ P ops E Q K (l.map fun o => (0, o)) C C a
  | [], a, h => hK a h
  | o :: r, a, h => by
    show (if Region.wanted o (yielded ops a.tmps) = true then ∃ v, (∀ w, C w → rAt P o a w v) ∧ wpM ρ P ops E Q K _ C C (a.put o.dst v) else wpM ρ P ops E Q K _ C C (a.put o.dst undef))
    unfold wpQ at h
    split
    · rename_i hw
      rw [if_pos hw] at h
      obtain ⟨v, h1, h2⟩ := h
      exact ⟨v, h1, wpM_of_Q hK h2⟩
    · rename_i hw
      rw [if_neg hw] at h
      exact wpM_of_Q hK h
theorem wq_region_q {id : Nat} {l : List Oper} (hp : Plain ρ l) (C : World → Prop) (hS : Shut C) (hC : C w.drew) (hm : P.follows .mixedOrders = true)
    (hB : (Region.noSelect l.toArray && ((Tr.fin (qs 0 l)).len == l.length) && (Tr.fin (qs 0 l)).ok .any l.toArray (Array.replicate l.length false)) = true)
    (h : wpQ P l.toArray C (fun a' => ∀ w', C w' → Q .normal a' w') l a) : wq (Code.region id l.toArray true) ρ P Q a w := by
  refine wq_region_m hp (qs 0 l) C C hS hS (fun _ h => h) hC hm hB ?_
  rw [show scr l (qs 0 l) = l.map fun o => (0, o) from scr_qs l [] rfl]
  exact wpM_of_Q (fun a h w hw => ⟨rfl, h w hw⟩) h
theorem q_t {op : Op} {v : Value} (hst : ST Δ N a L) (hw : Wt ops L g) (hd : Nat.blt d N = true) (h : ∀ w, C w → Tell P a w op v)
    (k : ∀ a, ST Δ N a ((d, v) :: L) → wpQ P ops C QQ rest a) : wpQ P ops C QQ ({ dst := some d, op := op, type := ty, pos := pos, after := af, guard := g } :: rest) a := by
  unfold wpQ
  rw [if_pos (wanted_of hst hw)]
  refine ⟨v, fun w hC => ?_, k _ (hst.put hd v)⟩
  unfold rAt
  rw [h w hC _ rfl]
  exact ⟨rfl, rfl⟩
theorem q_call {f : FuncId} {xs : List Operand} {vs : List Value} {tt : Array TypeId} {v : Value} (hst : ST Δ N a L) (hw : Wt ops L g) (hd : Nat.blt d N = true) (hf : FnOf P f) (hargs : evs L xs = some vs)
    (hc : ∀ w, C w → Calls P f vs.toArray w (fun e w'' => e = .returned v ∧ SH (fun _ => False) w w'' []))
    (k : ∀ a, ST Δ N a ((d, v) :: L) → wpQ P ops C QQ rest a) : wpQ P ops C QQ ({ dst := some d, op := .call { callee := .value (.func f), args := xs.toArray, argTypes := tt }, type := ty, pos := pos, after := af, guard := g } :: rest) a := by
  unfold wpQ
  rw [if_pos (wanted_of hst hw)]
  refine ⟨v, fun w hC => ?_, k _ (hst.put hd v)⟩
  have hrun : ∀ o : Oper, o.op = .call { callee := .value (.func f), args := xs.toArray, argTypes := tt } → (execOp a.eval o).run P w = .ok (.enter f vs.toArray) w := fun o ho => by
    simp only [execOp, ho, resolve, Deferred.ofValue, Act.eval, Sem.run_bind, Sem.run_pure, Result.andThen_ok, invoke]
    have : (#[] : Array Value) ++ Array.map a.eval xs.toArray ++ #[] = vs.toArray := by simp [evs_map hst hargs]
    rw [this]
    exact callFunc_run hf _
  unfold rAt
  rw [hrun _ rfl]
  exact ⟨rfl, (hc w hC).mono fun e w' ⟨h1, h2⟩ => ⟨h1, h2.kp⟩⟩
theorem q_not {op : Op} {i : Nat} {b c : Bool} (hst : ST Δ N a L) (t : Nat) (h1 : (ops[i]?).bind (·.dst) = some t) (h2 : look L t = some (.bool c)) (h3 : c = !b) (hd : Nat.blt d N = true)
    (k : ∀ a, ST Δ N a ((d, undef) :: L) → wpQ P ops C QQ rest a) : wpQ P ops C QQ ({ dst := some d, op := op, type := ty, pos := pos, after := af, guard := some (i, b) } :: rest) a := by
  unfold wpQ
  rw [if_neg]
  · exact k _ (hst.put hd _)
  · unfold Region.wanted
    have := hst.get t _ h2
    simp only [yielded, h1, Option.bind_some, this, h3]
    cases b <;> simp
theorem q_notU {op : Op} {i : Nat} {b : Bool} (hst : ST Δ N a L) (t : Nat) (h1 : (ops[i]?).bind (·.dst) = some t) (h2 : look L t = some undef) (hd : Nat.blt d N = true)
    (k : ∀ a, ST Δ N a ((d, undef) :: L) → wpQ P ops C QQ rest a) : wpQ P ops C QQ ({ dst := some d, op := op, type := ty, pos := pos, after := af, guard := some (i, b) } :: rest) a := by
  unfold wpQ
  rw [if_neg]
  · exact k _ (hst.put hd _)
  · unfold Region.wanted
    have := hst.get t _ h2
    simp only [yielded, h1, Option.bind_some, this, undef]
    simp
theorem q_join0 {l : List Oper} (n : Nat) (L' : List (Nat × Value)) (h1 : ∀ a, ST Δ N a L' → wpQ P ops C QQ (ops.toList.drop n) a) (h2 : (∀ a, ST Δ N a L' → wpQ P ops C QQ (ops.toList.drop n) a) → wpQ P ops C QQ l a) : wpQ P ops C QQ l a := h2 h1
theorem q_join {l : List Oper} (n : Nat) (J : Act → Prop) (h1 : ∀ a, J a → wpQ P ops C QQ (ops.toList.drop n) a) (h2 : (∀ a, J a → wpQ P ops C QQ (ops.toList.drop n) a) → wpQ P ops C QQ l a) : wpQ P ops C QQ l a := h2 h1
theorem q_nil (h : QQ a) : wpQ P ops C QQ [] a := h
end
end Go.Proofs.YtbaemhkfmddakaaGreat.Sy
