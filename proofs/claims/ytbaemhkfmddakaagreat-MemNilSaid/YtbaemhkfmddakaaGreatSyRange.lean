import Derived.Test.YtbaemhkfmddakaaGreatSyDel
set_option linter.unusedVariables false
set_option linter.unusedSectionVars false
set_option linter.unusedSimpArgs false
namespace Go.Proofs.YtbaemhkfmddakaaGreat.Sy
open Go
def mark (b : Nat) : Deferred := { target := .collected b, args := #[] }
/-- The blocks of an activation's marks. -/
def Mks (bs : List Nat) : SP where
  H G w := bs.Nodup ∧ ∀ b ∈ bs, G b ∧ w.heap[b]? = some (.deferred (some []))
  stable h h' := ⟨h'.1, fun b hb => ⟨(h'.2 b hb).1, (h b (h'.2 b hb).1 (Array.getElem?_eq_some_iff.1 (h'.2 b hb).2).1).trans (h'.2 b hb).2⟩⟩
  mono h h' := ⟨h'.1, fun b hb => ⟨h _ (h'.2 b hb).1, (h'.2 b hb).2⟩⟩
  inb h := ⟨h.1, fun b hb => ⟨⟨(h.2 b hb).1, (Array.getElem?_eq_some_iff.1 (h.2 b hb).2).1⟩, (h.2 b hb).2⟩⟩
section
variable {F : Nat → Prop} {w0 w : World} {L M : List SP}
theorem SH.addMks (h : SH F w0 w M) : SH F w0 w (Mks [] :: M) :=
  ⟨h.kp, fun _ => False, Mine F w0 w, fun _ h => h.elim, fun _ h => h, fun _ h => h.elim, ⟨List.nodup_nil, fun _ h => by cases h⟩, h.sep⟩
/-- A mark's block is shut. -/
theorem SH.unmark {D : Nat} {bs : List Nat} (h : SH F w0 w (Mks (D :: bs) :: M)) : w.heap[D]? = some (.deferred (some [])) ∧ SH F w0 (w.putObj D (.deferred none)) (Mks bs :: M) := by
  obtain ⟨hk, G1, G2, h1, h2, h3, hB, hr⟩ := h
  have hD := hB.2 D (List.mem_cons_self ..)
  have hgm := h1 D hD.1
  have hf : ∀ k, k ≠ D → (w.putObj D (.deferred none)).heap[k]? = w.heap[k]? := fun k hk => World.putObj_heap_other hk
  have hs : (w.putObj D (.deferred none)).heap.size = w.heap.size := World.putObj_size
  have hn := List.nodup_cons.1 hB.1
  refine ⟨hD.2, ⟨hk.os, hk.tape, hk.output, by have := hk.size; omega, fun k hk' hn' => ?_⟩, G1, G2, fun k hk => ⟨by rw [hs]; exact (h1 k hk).1, (h1 k hk).2⟩, fun k hk => ⟨by rw [hs]; exact (h2 k hk).1, (h2 k hk).2⟩, h3, ⟨hn.2, fun b hb => ⟨(hB.2 b (List.mem_cons_of_mem _ hb)).1, ?_⟩⟩, hr.stable fun k hk _ => hf k ?_⟩
  · rw [hf k (fun e => by subst e; rcases hgm.2 with h | h; exact hn' h; omega)]
    exact hk.keep k hk' hn'
  · rw [hf b (fun e => by subst e; exact hn.1 hb)]
    exact (hB.2 b (List.mem_cons_of_mem _ hb)).2
  · rintro rfl
    exact h3 k hD.1 hk
end
section
variable {ρ : Option Nat} {Δ : List Deferred} {P : Program} {ops : Array Oper} {Q : Exit → Act → World → Prop} {a : Act} {w : World} {rest : List Oper} {N : Nat} {L : List (Nat × Value)}
variable {d ty : Nat} {pos : String} {af : Array Edge} {gd : Option (Nat × Bool)} {x y z : Operand}
variable {F : Nat → Prop} {w0 : World} {M : List SP}
theorem r_inl {f : FuncId} {xs : List Operand} {vs : List Value} {tt : Array TypeId} (hst : ST Δ N a L) (hw : Wt ops L gd) (hd : Nat.blt d N = true) (hf : FnOf P f) (hargs : evs L xs = some vs)
    (h : Calls P f vs.toArray w (fun e w' => ∃ v, e = .returned v ∧ ∀ a, ST Δ N a ((d, v) :: L) → wpL ρ P ops Q rest a w')) :
    wpL ρ P ops Q ({ dst := some d, op := .call { callee := .value (.func f), args := xs.toArray, argTypes := tt }, type := ty, pos := pos, after := af, guard := gd } :: rest) a w := by
  have hrun : ∀ o : Oper, o.op = .call { callee := .value (.func f), args := xs.toArray, argTypes := tt } → (execOp a.eval o).run P w = .ok (.enter f vs.toArray) w := fun o ho => by
    simp only [execOp, ho, resolve, Deferred.ofValue, Act.eval, Sem.run_bind, Sem.run_pure, Result.andThen_ok, invoke]
    have : (#[] : Array Value) ++ Array.map a.eval xs.toArray ++ #[] = vs.toArray := by simp [evs_map hst hargs]
    rw [this]
    exact callFunc_run hf _
  refine wl_enter hst hw (hrun _ rfl) h fun e w' hR => ?_
  obtain ⟨v, rfl, hk⟩ := hR
  exact ⟨v, rfl, hk _ (hst.put hd v)⟩
theorem calls_enterM {f : FuncId} {fn : Func} {c : Code} {l : List Value} {R : Ending → World → Prop} (hf : P.funcs[f]? = some fn) (hb : fn.body = some c) (hN : Nat.ble l.length fn.ntmps = true)
    (h : ∀ a, ST (List.map mark []) fn.ntmps a (args0 0 l) → wq c none P (bodyPostM (FW none) 0 P fn R) a w) : Calls P f l.toArray w R :=
  calls_FW (ρ := none) (n := 0) (callsIn_of_wp_marks hf hb trivial (h _ (ST.init fn.ntmps l (Nat.le_of_ble_eq_true hN))))
theorem leaves_marks {fn : Func} {tmps : Array Value} {R : Ending → World → Prop} : ∀ (bs : List Nat) {w : World} {M : List SP}, SH F w0 w (Mks bs :: M) → (∀ w', SH F w0 w' (Mks [] :: M) → ∃ v, (results fn tmps).run P w' = .ok v w' ∧ R (.returned v) w') →
    LeavesInM (FW none) 0 P fn tmps R (bs.map mark) .returning w
  | [], w, M, h, hk => hk w h
  | D :: bs, w, M, h, hk => by
    obtain ⟨h1, h2⟩ := h.unmark
    exact ⟨by simp, .inl ⟨D, _, rfl, run_takeDeferred h1, leaves_marks bs h2 hk⟩⟩
theorem retM {e : Exit} (he : e = .ret ∨ e = .normal) {fn : Func} {R : Ending → World → Prop} {bs : List Nat} (hst : ST (bs.map mark) N a L) (hsh : SH F w0 w M) (i : Nat) (hi : M[i]? = some (Mks bs))
    (k : ∀ a w, ST [] N a L → SH F w0 w (M.eraseIdx i) → bodyPost P fn R .ret a w) : bodyPostM (FW none) 0 P fn R e a w := by
  have hp : SH F w0 w (Mks bs :: M.eraseIdx i) := ⟨hsh.kp, hsh.sep.pull i hi⟩
  have hm : LeavesInM (FW none) 0 P fn a.tmps R a.defers .returning w := by
    rw [hst.defers]
    refine leaves_marks bs hp fun w' hw' => ?_
    have hw2 : SH F w0 w' (M.eraseIdx i) := ⟨hw'.kp, hw'.sep.tail⟩
    obtain ⟨_, v, h1, h2⟩ := k { tmps := a.tmps, defers := [] } w' ⟨hst.size, rfl, hst.get⟩ hw2
    exact ⟨v, h1, h2⟩
  rcases he with rfl | rfl
  · exact hm
  · exact hm
theorem tm {v : Value} (hst : ST Δ N a L) (hd : Nat.blt d N = true) (hx : ev L x = some v) (k : ∀ a, ST Δ N a ((d, v) :: L) → wpL ρ P ops Q rest a w) :
    wpL ρ P ops Q ({ dst := some d, op := .move x, type := ty, pos := pos, after := af, guard := none } :: rest) a w := r_t hst trivial hd (x_move hst hx) k
theorem ta {v : Value} (hst : ST Δ N a L) (hd : Nat.blt d N = true) (hx : ev L x = some v) (k : ∀ a, ST Δ N a ((d, v) :: L) → wpL ρ P ops Q rest a w) :
    wpL ρ P ops Q ({ dst := some d, op := .assign x, type := ty, pos := pos, after := af, guard := none } :: rest) a w := r_t hst trivial hd (x_assign hst hx) k
theorem ws {id : Nat} {l : List Oper} {y : Code} (hp : Plain ρ l) (h : wpL ρ P l.toArray (Exit.then (wq y ρ P Q) Q) l a w) : wq (Code.seq (Code.region id l.toArray false) y) ρ P Q a w := wq_seq (wq_region_lit hp h)
theorem wn {ops : Array Oper} {J : Act → World → Prop} (h : J a w) : wpL ρ P ops (Exit.then J Q) [] a w := wpL_nil (then_normal h)
end
end Go.Proofs.YtbaemhkfmddakaaGreat.Sy
