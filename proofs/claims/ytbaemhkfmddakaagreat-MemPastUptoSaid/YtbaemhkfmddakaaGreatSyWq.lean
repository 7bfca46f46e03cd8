import Derived.Calls
import Derived.Tactics
import Derived.CallsIn
import Derived.TacticsIn
import Derived.OrdersIn
import Derived.RangeFuncRecord
import Derived.RangeFuncCalls
import Derived.Scope
import Derived.Deep.LoopGhost
set_option linter.unusedVariables false
set_option linter.unusedSectionVars false
namespace Go.Proofs.YtbaemhkfmddakaaGreat.Sy
open Go
/-- The wide fence, for frames of round ρ. -/
def FW (ρ : Option Nat) : Fence := { fn := fun _ => True, depth := none, alive := false, round := ρ }
def wq (c : Code) (ρ : Option Nat) (P : Program) (Q : Exit → Act → World → Prop) (a : Act) (w : World) : Prop := c.wpIn (FW ρ) 0 P Q a w
def owq (o : Oper) (ρ : Option Nat) (P : Program) (a : Act) (w : World) (K : Act → World → Prop) (Q : Exit → Act → World → Prop) : Prop := o.uponIn (FW ρ) 0 P a K Q ((execOp a.eval o).run P w)
section
variable {ρ : Option Nat} {P : Program} {Q : Exit → Act → World → Prop} {a : Act} {w : World}
theorem callsIn_FW {n : Nat} {f : FuncId} {args : Array Value} {R : Ending → World → Prop} (h : Calls P f args w R) : CallsIn (FW ρ) n P f args w R := (callsIn_wide (n := n)).2 h
theorem calls_FW {n : Nat} {f : FuncId} {args : Array Value} {R : Ending → World → Prop} (h : CallsIn (FW ρ) n P f args w R) : Calls P f args w R := (callsIn_wide (n := n)).1 h
theorem wq_mono {c : Code} {Q' : Exit → Act → World → Prop} (hq : ∀ e a w, Q e a w → Q' e a w) (h : wq c ρ P Q a w) : wq c ρ P Q' a w := wpIn_mono h hq
theorem wq_skip (h : Q .normal a w) : wq Code.skip ρ P Q a w := wpIn_skip h
theorem wq_label {l : Nat} (h : Q .normal a w) : wq (Code.label l) ρ P Q a w := wpIn_label h
theorem wq_exit {id : Nat} (h : Q (.exit id) a w) : wq (Code.exit id) ρ P Q a w := wpIn_exit h
theorem wq_ret (h : Q .ret a w) : wq Code.ret ρ P Q a w := wpIn_ret h
theorem wq_seq {x y : Code} (h : wq x ρ P (Exit.then (wq y ρ P Q) Q) a w) : wq (Code.seq x y) ρ P Q a w := wpIn_seq h
theorem wq_cond_true {c : Operand} {x y : Code} (hc : a.eval c = .bool true) (h : wq x ρ P Q a w) : wq (Code.cond c x y) ρ P Q a w := wpIn_cond_true hc h
theorem wq_cond_false {c : Operand} {x y : Code} (hc : a.eval c = .bool false) (h : wq y ρ P Q a w) : wq (Code.cond c x y) ρ P Q a w := wpIn_cond_false hc h
theorem wq_block {id : Nat} {c : Code} (h : wq c ρ P (Exit.inBlock id Q) a w) : wq (Code.block id c) ρ P Q a w := wpIn_block h
theorem wq_loop {c : Code} (I : Act → World → Prop) (μ : Act → World → Nat) (h₀ : I a w) (round : ∀ a w, I a w → wq c ρ P (Exit.then (fun a' w' => I a' w' ∧ μ a' w' < μ a w) Q) a w) : wq (Code.loop c) ρ P Q a w := wpIn_loop I μ h₀ round
theorem wq_loop_ghost {c : Code} (I : Nat → Act → World → Prop) (n₀ : Nat) (h₀ : I n₀ a w)
    (round : ∀ n a w, I n a w → wq c ρ P (Exit.then (fun a' w' => ∃ n', n' < n ∧ I n' a' w') Q) a w) : wq (Code.loop c) ρ P Q a w := by
  refine wq_loop (fun a w => ∃ n, I n a w) (fun a w => leastOf (fun n => I n a w)) ⟨n₀, h₀⟩ ?_
  intro a w hI
  refine wq_mono ?_ (round _ a w (leastOf_spec hI).1)
  intro e a' w' hq
  cases e with
  | normal =>
    obtain ⟨n', hlt, hI'⟩ := hq
    exact show (∃ n, I n a' w') ∧ leastOf (fun n => I n a' w') < leastOf (fun n => I n a w) from ⟨⟨n', hI'⟩, Nat.lt_of_le_of_lt ((leastOf_spec ⟨n', hI'⟩).2 n' hI') hlt⟩
  | exit id => exact hq
  | goto l => exact hq
  | ret => exact hq
  | panic ch => exact hq
  | outgrown => exact hq
def noDef (ops : List Oper) : Bool := ops.all fun o => match o.op with | .defer _ => false | _ => true
/-- What is carried out is carried out as in a frame of a function. -/
def Plain (ρ : Option Nat) (l : List Oper) : Prop := ρ = none ∨ noDef l = true
theorem Plain.sem {ρ : Option Nat} {l : List Oper} (h : Plain ρ l) {o : Oper} (ho : o ∈ l) (r : Operand → Value) : Oper.semAt ρ r o = execOp r o := by
  rcases h with rfl | h
  · rfl
  · refine Oper.semAt_eq ρ r o ?_
    intro c hc
    have := List.all_eq_true.1 h o ho
    rw [hc] at this
    cases this
def wpL (ρ : Option Nat) (P : Program) (ops : Array Oper) (Q : Exit → Act → World → Prop) : List Oper → Act → World → Prop
  | [], a, w => Q .normal a w
  | o :: rest, a, w => if Region.wanted o (yielded ops a.tmps) then owq o ρ P a w (wpL ρ P ops Q rest) Q else wpL ρ P ops Q rest (a.put o.dst undef) w
theorem about_FW (ρ : Option Nat) (o : Oper) (r : Operand → Value) : ∀ f, o.about P w r = some f → (FW ρ).fn f := fun _ _ => trivial
theorem wpL_In {ops : Array Oper} : ∀ {l : List Oper}, (∀ o ∈ l, ∀ r, Oper.semAt ρ r o = execOp r o) → ∀ {a : Act} {w : World}, wpL ρ P ops Q l a w → wpListIn (FW ρ) 0 P ops Q l a w
  | [], _, _, _, h => h
  | o :: rest, hs, a, w, h => by
    have ih := fun a w => wpL_In (ops := ops) (l := rest) (fun o ho => hs o (List.mem_cons_of_mem _ ho)) (a := a) (w := w)
    unfold wpL at h
    unfold wpListIn
    split
    · rename_i hw
      rw [if_pos hw] at h
      refine Oper.wpIn_mono ih ⟨about_FW ρ o _, ?_⟩
      show o.uponIn (FW ρ) 0 P a _ Q ((Oper.semAt ρ a.eval o).run P w)
      rw [hs o (List.mem_cons_self ..)]
      exact h
    · rename_i hw
      rw [if_neg hw] at h
      exact ⟨about_FW ρ o _, ih _ _ h⟩
theorem wq_region_lit {id : Nat} {l : List Oper} (hp : Plain ρ l) (h : wpL ρ P l.toArray Q l a w) : wq (Code.region id l.toArray false) ρ P Q a w :=
  wpIn_region_lit (wpL_In (fun o ho r => hp.sem ho r) h)
theorem wpL_nil {ops : Array Oper} (h : Q .normal a w) : wpL ρ P ops Q [] a w := h
theorem wpL_step {ops : Array Oper} {o : Oper} {rest : List Oper} (h : ∀ K : Act → World → Prop, (∀ a w, wpL ρ P ops Q rest a w → K a w) → if Region.wanted o (yielded ops a.tmps) then owq o ρ P a w K Q else K (a.put o.dst undef) w) : wpL ρ P ops Q (o :: rest) a w := h _ fun _ _ h => h
theorem oper_wq_mono {o : Oper} {K K' : Act → World → Prop} (h : ∀ a w, K a w → K' a w) (hh : owq o ρ P a w K Q) : owq o ρ P a w K' Q := by
  unfold owq at *
  generalize (execOp a.eval o).run P w = r at *
  cases r with
  | ok n w' =>
    cases n <;> simp only [Oper.uponIn] at hh ⊢ <;>
      first
        | exact h _ _ hh
        | exact ⟨hh.1, CallsIn.mono hh.2 (fun e w'' he => by cases e <;> first | exact h _ _ he | exact he)⟩
        | exact ⟨hh.1, RowsIn.mono hh.2 (fun _ _ he => h _ _ he)⟩
        | exact ⟨hh.1, RoundIn.mono hh.2 (fun e w'' he => by cases e <;> first | exact h _ _ he | exact he)⟩
  | halt x w' => cases x <;> simp only [Oper.uponIn] at hh ⊢ <;> exact hh
def wqOp (ρ : Option Nat) (P : Program) (ops : Array Oper) (Q : Exit → Act → World → Prop) (i : Nat) (K : Act → World → Prop) (a : Act) (w : World) : Prop :=
  match ops[i]? with
  | none => K a w
  | some o => if Region.wanted o (yielded ops a.tmps) then owq o ρ P a w K Q else K (a.put o.dst undef) w
theorem wqOp_mono {ops : Array Oper} {i : Nat} {K K' : Act → World → Prop} (h : ∀ a w, K a w → K' a w) (hh : wqOp ρ P ops Q i K a w) : wqOp ρ P ops Q i K' a w := by
  unfold wqOp at *
  split
  · exact h _ _ (by simpa [*] using hh)
  · rename_i o ho
    simp only [ho] at hh
    split
    · rename_i hw; simp only [hw, if_true] at hh; exact oper_wq_mono h hh
    · rename_i hw; simp only [hw] at hh; exact h _ _ hh
def wqAny (ρ : Option Nat) (P : Program) (md : Region.Mode) (ops : Array Oper) (Q : Exit → Act → World → Prop) : Nat → Array Bool → Act → World → Prop
  | 0, listed, a, w => Region.ready md ops listed = [] ∧ Q .normal a w
  | fuel + 1, listed, a, w =>
    (Region.ready md ops listed = [] → Q .normal a w) ∧
    ∀ i ∈ Region.ready md ops listed, wqOp ρ P ops Q i (wqAny ρ P md ops Q fuel (listed.setIfInBounds i true)) a w
theorem wqOp_In {ops : Array Oper} (hp : Plain ρ ops.toList) {i : Nat} {K : Act → World → Prop} (h : wqOp ρ P ops Q i K a w) : wpOpIn (FW ρ) 0 P ops Q i K a w := by
  unfold wqOp at h
  unfold wpOpIn
  split
  · rename_i ho; simp only [ho] at h; exact h
  · rename_i o ho
    simp only [ho] at h
    split
    · rename_i hw
      rw [if_pos hw] at h
      refine ⟨about_FW ρ o _, ?_⟩
      show o.uponIn (FW ρ) 0 P a _ Q ((Oper.semAt ρ a.eval o).run P w)
      rw [hp.sem (Array.mem_toList_iff.2 (Array.mem_of_getElem? ho))]
      exact h
    · rename_i hw
      rw [if_neg hw] at h
      exact ⟨about_FW ρ o _, h⟩
theorem wqAny_In {ops : Array Oper} (hp : Plain ρ ops.toList) {md : Region.Mode} : ∀ {fuel : Nat} {listed : Array Bool} {a : Act} {w : World}, wqAny ρ P md ops Q fuel listed a w → wpAnyIn (FW ρ) 0 P md ops Q fuel listed a w
  | 0, _, _, _, h => h
  | _ + 1, _, _, _, h => ⟨h.1, fun i hi => wqOp_In hp (wqOp_mono (fun _ _ h' => wqAny_In hp h') (h.2 i hi))⟩
theorem wq_region_any {id : Nat} {ops : Array Oper} (hp : Plain ρ ops.toList) (hm : P.follows .mixedOrders = true)
    (h : wqAny ρ P .any ops Q ops.size (Array.replicate ops.size false) a w.drew) : wq (Code.region id ops true) ρ P Q a w := wpIn_region_any hm (wqAny_In hp h)
theorem wq_scope_straight {c : Code} (h : wq c ρ P (Exit.noGoto Q) a w) : wq (Code.scope c) ρ P Q a w := by
  intro b k cs hro hb hr
  obtain ⟨e, a₁, w₁, hq, harr⟩ := h b (.inScope c :: k) cs hro hb hr
  have s0 : StepsIn (Machine.fenced P (FW ρ)) P (lone (b.atR a (.code (.scope c) :: k)) cs w) (lone (b.atR a (.code c :: .inScope c :: k)) cs w) :=
    .one (fenced_calm (fr := b.atR a (.code (.scope c) :: k)) hb hr rfl) (step_lone_go (by simp [stepG, stepG.exec, Frame.atR]))
  have s1 : ∀ a w, StepsIn (Machine.fenced P (FW ρ)) P (lone (b.atR a (.inScope c :: k)) cs w) (lone (b.atR a k) cs w) := fun a w =>
    .one (fenced_calm (fr := b.atR a (.inScope c :: k)) hb hr rfl) (step_lone_go (by simp [stepG, stepG.exec, Frame.atR]))
  cases e with
  | normal => exact ⟨.normal, a₁, w₁, hq, s0.trans (StepsIn.trans harr (s1 _ _))⟩
  | exit id =>
    refine ⟨.exit id, a₁, w₁, hq, .of_steps s0 ?_⟩
    exact ⟨fun k' hk => harr.1 k' (by simp [exitTo, hk]), fun hr hk => harr.2 hr (by simp [exitTo, hk])⟩
  | goto l => exact hq.elim
  | ret => exact ⟨_, a₁, w₁, hq, .of_steps s0 harr⟩
  | panic ch => exact ⟨_, a₁, w₁, hq, .of_steps s0 harr⟩
  | outgrown => exact ⟨_, a₁, w₁, hq, .of_steps s0 harr⟩
end
end Go.Proofs.YtbaemhkfmddakaaGreat.Sy
