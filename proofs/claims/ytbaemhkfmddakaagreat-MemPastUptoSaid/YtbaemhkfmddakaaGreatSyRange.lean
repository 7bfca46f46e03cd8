import Derived.Test.YtbaemhkfmddakaaGreatSyDel
set_option linter.unusedVariables false
set_option linter.unusedSectionVars false
set_option linter.unusedSimpArgs false
namespace Go.Proofs.YtbaemhkfmddakaaGreat.Sy
open Go
/-- One block of whatever make. -/
def Blk (g : Nat) (o : Obj) : SP where
  H G w := G g ∧ w.heap[g]? = some o
  stable h h' := ⟨h'.1, (h g h'.1 (Array.getElem?_eq_some_iff.1 h'.2).1).trans h'.2⟩
  mono h h' := ⟨h _ h'.1, h'.2⟩
  inb h := ⟨⟨h.1, (Array.getElem?_eq_some_iff.1 h.2).1⟩, h.2⟩
def mark (b : Nat) : Deferred := { target := .collected b, args := #[] }
/-- The blocks of an activation's marks. -/
def Mks (bs : List Nat) : SP where
  H G w := bs.Nodup ∧ ∀ b ∈ bs, G b ∧ w.heap[b]? = some (.deferred (some []))
  stable h h' := ⟨h'.1, fun b hb => ⟨(h'.2 b hb).1, (h b (h'.2 b hb).1 (Array.getElem?_eq_some_iff.1 (h'.2 b hb).2).1).trans (h'.2 b hb).2⟩⟩
  mono h h' := ⟨h'.1, fun b hb => ⟨h _ (h'.2 b hb).1, (h'.2 b hb).2⟩⟩
  inb h := ⟨h.1, fun b hb => ⟨⟨(h.2 b hb).1, (Array.getElem?_eq_some_iff.1 (h.2 b hb).2).1⟩, (h.2 b hb).2⟩⟩
def lrec (r : Loop) (s : LoopState) (p : Option Code) : Loop := { r with state := s, pending := p }
section
variable {F : Nat → Prop} {w0 w : World} {L M : List SP}
theorem SH.addMks (h : SH F w0 w M) : SH F w0 w (Mks [] :: M) :=
  ⟨h.kp, fun _ => False, Mine F w0 w, fun _ h => h.elim, fun _ h => h, fun _ h => h.elim, ⟨List.nodup_nil, fun _ h => by cases h⟩, h.sep⟩
theorem SH.allocO (h : SH F w0 w L) (o : Obj) : SH F w0 (w.alloc o) (Blk w.heap.size o :: L) := by
  have hs : ∀ k, k < w.heap.size → (w.alloc o).heap[k]? = w.heap[k]? := fun k hk => alloc_old w _ k hk
  refine ⟨⟨h.kp.os, h.kp.tape, h.kp.output, by have := h.kp.size; simp; omega, fun k hk hn => by rw [hs k (by have := h.kp.size; omega)]; exact h.kp.keep k hk hn⟩, ?_⟩
  refine ⟨fun k => k = w.heap.size, Mine F w0 w, ?_, fun k hk => hk.alloc _, ?_, ⟨rfl, heap_alloc_new w _⟩, h.sep.stable fun k hk _ => hs k hk.1⟩
  · rintro k rfl
    exact ⟨by simp, .inr h.kp.size⟩
  · rintro k rfl hk
    exact absurd hk.1 (Nat.lt_irrefl _)
theorem SH.putO (h : SH F w0 w L) (i : Nat) {g : Nat} {o : Obj} (hi : L[i]? = some (Blk g o)) (o' : Obj) : SH F w0 (w.putObj g o') (Blk g o' :: L.eraseIdx i) := by
  obtain ⟨G1, G2, h1, h2, h3, hA, hr⟩ := h.sep.pull i hi
  have hgm := h1 g hA.1
  have hf : ∀ k, k ≠ g → (w.putObj g o').heap[k]? = w.heap[k]? := fun k hk => World.putObj_heap_other hk
  have hs : (w.putObj g o').heap.size = w.heap.size := World.putObj_size
  refine ⟨⟨h.kp.os, h.kp.tape, h.kp.output, by have := h.kp.size; omega, fun k hk hn => ?_⟩, ?_⟩
  · rw [hf k (fun e => by subst e; rcases hgm.2 with h | h; exact hn h; omega)]
    exact h.kp.keep k hk hn
  · refine ⟨G1, G2, fun k hk => ⟨by rw [hs]; exact (h1 k hk).1, (h1 k hk).2⟩, fun k hk => ⟨by rw [hs]; exact (h2 k hk).1, (h2 k hk).2⟩, h3, ⟨hA.1, World.putObj_heap_same hgm.1⟩, hr.stable fun k hk _ => hf k ?_⟩
    rintro rfl
    exact h3 k hA.1 hk
theorem SH.blk (h : SH F w0 w L) (i : Nat) {g : Nat} {o : Obj} (hi : L[i]? = some (Blk g o)) : w.heap[g]? = some o := (h.sep.pull i hi).head.2
/-- A block joins the marks. -/
theorem SH.marked {D : Nat} {bs : List Nat} (h : SH F w0 w (Blk D (.deferred (some [])) :: Mks bs :: M)) : SH F w0 w (Mks (D :: bs) :: M) := by
  obtain ⟨hk, G1, G2, h1, h2, h3, hD, G3, G4, h4, h5, h6, hB, hr⟩ := h
  refine ⟨hk, fun k => G1 k ∨ G3 k, G4, fun k hk => hk.elim (h1 k) (fun h => h2 k (h4 k h)), fun k hk => h2 k (h5 k hk), ?_, ⟨List.nodup_cons.2 ⟨fun hm => h3 D hD.1 (h4 D (hB.2 D hm).1), hB.1⟩, fun b hb => ?_⟩, hr⟩
  · rintro k (hk | hk) hk4
    · exact h3 k hk (h5 k hk4)
    · exact h6 k hk hk4
  · rcases List.mem_cons.1 hb with rfl | hb
    · exact ⟨.inl hD.1, hD.2⟩
    · exact ⟨.inr (hB.2 b hb).1, (hB.2 b hb).2⟩
/-- A mark's block is shut. -/
theorem SH.unmark {D : Nat} {bs : List Nat} (h : SH F w0 w (Mks (D :: bs) :: M)) : w.heap[D]? = some (.deferred (some [])) ∧ SH F w0 (w.putObj D (.deferred none)) (Mks bs :: M) := by
  obtain ⟨hk, G1, G2, h1, h2, h3, hB, hr⟩ := h
  have hD := hB.2 D (List.mem_cons_self ..)
  have hgm := h1 D hD.1
  have hf : ∀ k, k ≠ D → (w.putObj D (.deferred none)).heap[k]? = w.heap[k]? := fun k hk => World.putObj_heap_other hk
  have hs : (w.putObj D (.deferred none)).heap.size = w.heap.size := World.putObj_size
  have hn := List.nodup_cons.1 hB.1
  refine ⟨hD.2, ⟨hk.os, hk.tape, hk.output, by have := hk.size; omega, fun k hk' hn' => ?_⟩, G1, G2, fun k hk => ⟨by rw [hs]; exact (h1 k hk).1, (h1 k hk).2⟩, fun k hk => ⟨by rw [hs]; exact (h2 k hk).1, (h2 k hk).2⟩, h3, ⟨hn.2, fun b hb => ⟨(hB.2 b (List.mem_cons_of_mem _ hb)).1, ?_⟩⟩, hr.stable fun k hk _ => hf k ?_⟩
  · rw [hf k (fun e => by subst e; rcases hgm.2 with h | h; exact hn' h; omega)]
    exact hk.keep k hk' hn'
  · rw [hf b (fun e => by subst e; exact hn.1 hb)]
    exact (hB.2 b (List.mem_cons_of_mem _ hb)).2
  · rintro rfl
    exact h3 k hD.1 hk
end
section
variable {ρ : Option Nat} {Δ : List Deferred} {P : Program} {ops : Array Oper} {Q : Exit → Act → World → Prop} {a : Act} {w : World} {rest : List Oper} {N : Nat} {L : List (Nat × Value)}
variable {d ty : Nat} {pos : String} {af : Array Edge} {gd : Option (Nat × Bool)} {x y z : Operand}
variable {F : Nat → Prop} {w0 : World} {M : List SP}
theorem r_inl {f : FuncId} {xs : List Operand} {vs : List Value} {tt : Array TypeId} (hst : ST Δ N a L) (hw : Wt ops L gd) (hd : Nat.blt d N = true) (hf : FnOf P f) (hargs : evs L xs = some vs)
    (h : Calls P f vs.toArray w (fun e w' => ∃ v, e = .returned v ∧ ∀ a, ST Δ N a ((d, v) :: L) → wpL ρ P ops Q rest a w')) :
    wpL ρ P ops Q ({ dst := some d, op := .call { callee := .value (.func f), args := xs.toArray, argTypes := tt }, type := ty, pos := pos, after := af, guard := gd } :: rest) a w := by
  have hrun : ∀ o : Oper, o.op = .call { callee := .value (.func f), args := xs.toArray, argTypes := tt } → (execOp a.eval o).run P w = .ok (.enter f vs.toArray) w := fun o ho => by
    simp only [execOp, ho, resolve, Deferred.ofValue, Act.eval, Sem.run_bind, Sem.run_pure, Result.andThen_ok, invoke]
    have : (#[] : Array Value) ++ Array.map a.eval xs.toArray ++ #[] = vs.toArray := by simp [evs_map hst hargs]
    rw [this]
    exact callFunc_run hf _
  refine wl_enter hst hw (hrun _ rfl) h fun e w' hR => ?_
  obtain ⟨v, rfl, hk⟩ := hR
  exact ⟨v, rfl, hk _ (hst.put hd v)⟩
theorem calls_enterM {f : FuncId} {fn : Func} {c : Code} {l : List Value} {R : Ending → World → Prop} (hf : P.funcs[f]? = some fn) (hb : fn.body = some c) (hN : Nat.ble l.length fn.ntmps = true)
    (h : ∀ a, ST (List.map mark []) fn.ntmps a (args0 0 l) → wq c none P (bodyPostM (FW none) 0 P fn R) a w) : Calls P f l.toArray w R :=
  calls_FW (ρ := none) (n := 0) (callsIn_of_wp_marks hf hb trivial (h _ (ST.init fn.ntmps l (Nat.le_of_ble_eq_true hN))))
theorem leaves_marks {fn : Func} {tmps : Array Value} {R : Ending → World → Prop} : ∀ (bs : List Nat) {w : World} {M : List SP}, SH F w0 w (Mks bs :: M) → (∀ w', SH F w0 w' (Mks [] :: M) → ∃ v, (results fn tmps).run P w' = .ok v w' ∧ R (.returned v) w') →
    LeavesInM (FW none) 0 P fn tmps R (bs.map mark) .returning w
  | [], w, M, h, hk => hk w h
  | D :: bs, w, M, h, hk => by
    obtain ⟨h1, h2⟩ := h.unmark
    exact ⟨by simp, .inl ⟨D, _, rfl, run_takeDeferred h1, leaves_marks bs h2 hk⟩⟩
theorem retM {e : Exit} (he : e = .ret ∨ e = .normal) {fn : Func} {R : Ending → World → Prop} {bs : List Nat} (hst : ST (bs.map mark) N a L) (hsh : SH F w0 w M) (i : Nat) (hi : M[i]? = some (Mks bs))
    (k : ∀ a w, ST [] N a L → SH F w0 w (M.eraseIdx i) → bodyPost P fn R .ret a w) : bodyPostM (FW none) 0 P fn R e a w := by
  have hp : SH F w0 w (Mks bs :: M.eraseIdx i) := ⟨hsh.kp, hsh.sep.pull i hi⟩
  have hm : LeavesInM (FW none) 0 P fn a.tmps R a.defers .returning w := by
    rw [hst.defers]
    refine leaves_marks bs hp fun w' hw' => ?_
    have hw2 : SH F w0 w' (M.eraseIdx i) := ⟨hw'.kp, hw'.sep.tail⟩
    obtain ⟨_, v, h1, h2⟩ := k { tmps := a.tmps, defers := [] } w' ⟨hst.size, rfl, hst.get⟩ hw2
    exact ⟨v, h1, h2⟩
  rcases he with rfl | rfl
  · exact hm
  · exact hm
theorem wq_rangeFunc {g : Operand} {ps : Array Tmp} {assign body : Code} {gf : FuncId} {caps : List Value} {bs : List Nat} (hst : ST (bs.map mark) N a L) (hsh : SH F w0 w (Mks bs :: M)) (hx : ev L g = some (.func (.func gf) #[] caps.toArray)) (hf : FnOf P gf)
    (h : ∀ (l D : Nat) (r : Loop) (w1 : World), r.params = ps → r.assign = assign → r.body = body → ST [] N { tmps := r.tmps, defers := [] } L → SH F w0 w1 (Blk l (.loop (lrec r .ready none)) :: Mks (D :: bs) :: M) →
      Calls P gf (Value.func (.yield l) #[] #[] :: caps).toArray w1 (fun e w3 => ∃ v, e = .returned v ∧ ∃ jump w4, (Instr.endLoop l).run P w3 = .ok jump w4 ∧
        ∀ a', ST ((D :: bs).map mark) N a' L → match jump with | none => Q .normal a' w4 | some c => wq c none P Q a' w4)) : wq (Code.rangeFunc g ps assign body) none P Q a w := by
  refine wpIn_rangeFunc fun fn _ => ?_
  obtain ⟨r, hr⟩ : ∃ r : Loop, r = { state := .ready, pending := none, fn := fn, tmps := a.tmps, params := ps, assign := assign, body := body, defers := w.heap.size } := ⟨_, rfl⟩
  have h1 := (hsh.allocO (.deferred (some []))).marked
  have h2 := h1.allocO (.loop r)
  rw [World.size_alloc] at h2
  have hrr : lrec r .ready none = r := by rw [hr]; rfl
  have hcall := h (w.heap.size + 1) w.heap.size r _ (by rw [hr]) (by rw [hr]) (by rw [hr]) (by rw [hr]; exact ⟨hst.size, rfl, hst.get⟩) (by rw [hrr]; exact h2)
  obtain ⟨W1, hW1⟩ : ∃ W1, W1 = (w.alloc (.deferred (some []))).alloc (.loop r) := ⟨_, rfl⟩
  rw [← hW1] at hcall
  refine ⟨w.heap.size + 1, [{ target := .collected w.heap.size, args := #[] }], W1, { target := .fn (.func gf) caps.toArray, args := #[.func (.yield (w.heap.size + 1)) #[] #[]] }, W1, gf, (Value.func (.yield (w.heap.size + 1)) #[] #[] :: caps).toArray, W1, by rw [hW1, hr]; exact run_enterLoop_outer _ _ _ _ _, ?_, fun _ _ => trivial, ?_, fun h => (by cases h), ?_⟩
  · simp only [resolve, hst.ev hx]
    simp [go_sem]
  · simp only [invoke]
    have : (#[Value.func (.yield (w.heap.size + 1)) #[] #[]] : Array Value) ++ caps.toArray = (Value.func (.yield (w.heap.size + 1)) #[] #[] :: caps).toArray := by simp
    rw [this]
    exact callFunc_run hf _
  · refine CallsIn.mono (callsIn_FW hcall) fun e w3 he => ?_
    obtain ⟨v, rfl, jump, w4, he, hk⟩ := he
    refine ⟨jump, w4, he, ?_⟩
    have hst' : ST ((w.heap.size :: bs).map mark) N { a with defers := [{ target := .collected w.heap.size, args := #[] }] ++ a.defers } L := ⟨hst.size, by simp [hst.defers, mark], hst.get⟩
    have := hk _ hst'
    cases jump with
    | none => exact this
    | some c => exact this
theorem loop_end {l : Nat} {r : Loop} {s : LoopState} {p : Option Code} {ML : List SP} {K : Option Code → World → Prop} (hsh : SH F w0 w ML) (i : Nat) (hi : ML[i]? = some (Blk l (.loop (lrec r s p)))) (hb : s ≠ .busy) (h : ∀ w4, SH F w0 w4 (ML.eraseIdx i) → K p w4) :
    ∃ jump w4, (Instr.endLoop l).run P w = .ok jump w4 ∧ K jump w4 := by
  have hg := hsh.blk i hi
  refine ⟨p, _, run_endLoop hg hb, h _ ?_⟩
  have := hsh.putO i hi (.loop { lrec r s p with state := .exhausted })
  exact ⟨this.kp, this.sep.tail⟩
/-- The slots of a round's parameters. -/
def parL : List Nat → List Value → List (Nat × Value) → List (Nat × Value)
  | p :: ps, v :: vs, L => parL ps vs ((p, v) :: L)
  | _, _, L => L
theorem ST.par {Δ : List Deferred} {N : Nat} : ∀ (ps : List Nat) (vs : List Value) {tmps : Array Value} {L : List (Nat × Value)}, ST Δ N { tmps := tmps, defers := Δ } L → (ps.all fun p => Nat.blt p N) = true →
    ST Δ N { tmps := (ps.zip vs).foldl (fun t (p : Nat × Value) => t.setIfInBounds p.1 p.2) tmps, defers := Δ } (parL ps vs L)
  | [], vs, _, _, h, _ => by simpa [parL] using h
  | p :: ps, [], _, _, h, _ => by simpa [parL] using h
  | p :: ps, v :: vs, tmps, L, h, hp => by
    simp only [List.all_cons, Bool.and_eq_true] at hp
    have h1 : ST Δ N { tmps := tmps.setIfInBounds p v, defers := Δ } ((p, v) :: L) := h.put hp.1 v
    exact ST.par ps vs h1 hp.2
theorem r_yield {N0 : Nat} {L0 : List (Nat × Value)} {l : Nat} {r : Loop} {ps : Array Tmp} {assign body : Code} {xs : List Operand} {vs : List Value} {tt : Array TypeId} {xf : Operand} {ML : List SP}
    (hst : ST Δ N a L) (hw : Wt ops L gd) (hd : Nat.blt d N = true) (hsh : SH F w0 w ML) (hrp : r.params = ps) (hra : r.assign = assign) (hrb : r.body = body) (hrt : ST [] N0 { tmps := r.tmps, defers := [] } L0)
    (hx : ev L xf = some (.func (.yield l) #[] #[])) (hargs : evs L xs = some vs) (i : Nat) (hi : ML[i]? = some (Blk l (.loop (lrec r .ready none)))) (hps : (Nat.beq vs.length ps.size && ps.toList.all fun p => Nat.blt p N0) = true)
    (h : ∀ b, ST [] N0 b (parL ps.toList vs L0) → wq assign (some l) P (Exit.then (fun a1 w1 => ∃ w2, (Instr.beginRound l).run P w1 = .ok () w2 ∧ wq body (some l) P (roundPost P l (fun e w'' => ∃ v, e = .returned v ∧ ∀ a, ST Δ N a ((d, v) :: L) → wpL ρ P ops Q rest a w'')) a1 w2) (fun _ _ _ => False)) b w) :
    wpL ρ P ops Q ({ dst := some d, op := .call { callee := .value xf, args := xs.toArray, argTypes := tt }, type := ty, pos := pos, after := af, guard := gd } :: rest) a w := by
  subst hrp hra hrb
  simp only [Bool.and_eq_true] at hps
  have hlen : vs.length = r.params.size := Nat.eq_of_beq_eq_true hps.1
  have hg := hsh.blk i hi
  have hy := run_yield (P := P) (args := vs.toArray) hg (by simpa [lrec] using hlen)
  have hrun : ∀ o : Oper, o.op = .call { callee := .value xf, args := xs.toArray, argTypes := tt } → (execOp a.eval o).run P w = .ok (.round l r.fn ((r.params.zip vs.toArray).foldl (fun tmps (t, a) => tmps.setIfInBounds t a) r.tmps) r.assign r.body) w := fun o ho => by
    have he : a.eval xf = .func (.yield l) #[] #[] := hst.ev hx
    simp only [execOp, ho, resolve, he, Deferred.ofValue, Sem.run_bind, Sem.run_pure, Result.andThen_ok, invoke]
    have : (#[] : Array Value) ++ Array.map a.eval xs.toArray = vs.toArray := by simp [evs_map hst hargs]
    rw [this]
    exact hy
  refine wpL_step fun K hK => ?_
  rw [if_pos (wanted_of hst hw)]
  unfold owq
  rw [hrun _ rfl]
  refine ⟨fun h => (by cases h), RoundIn.mono (roundIn_of_wpIn (R := fun e w'' => ∃ v, e = .returned v ∧ ∀ a, ST Δ N a ((d, v) :: L) → wpL ρ P ops Q rest a w'') trivial ?_) fun e w'' he => ?_⟩
  · have hb := ST.par r.params.toList vs hrt hps.2
    have e1 : ((r.params.zip vs.toArray).foldl (fun tmps (t, a) => tmps.setIfInBounds t a) r.tmps) = (r.params.toList.zip vs).foldl (fun t (p : Nat × Value) => t.setIfInBounds p.1 p.2) r.tmps := by
      rw [← Array.foldl_toList]
      simp
    rw [e1]
    exact h _ hb
  · obtain ⟨v, rfl, hk⟩ := he
    exact hK _ _ (hk _ (hst.put hd v))
theorem round_begin {l : Nat} {r : Loop} {ML : List SP} {K : World → Prop} (hsh : SH F w0 w ML) (i : Nat) (hi : ML[i]? = some (Blk l (.loop (lrec r .ready none)))) (h : ∀ w2, SH F w0 w2 (Blk l (.loop (lrec r .busy none)) :: ML.eraseIdx i) → K w2) :
    ∃ w2, (Instr.beginRound l).run P w = .ok () w2 ∧ K w2 :=
  ⟨_, run_beginRound (hsh.blk i hi) rfl, h _ (hsh.putO i hi _)⟩
theorem round_end {l : Nat} {r : Loop} {ML : List SP} {R : Ending → World → Prop} (hsh : SH F w0 w ML) (i : Nat) (hi : ML[i]? = some (Blk l (.loop (lrec r .busy none)))) (h : ∀ w2, SH F w0 w2 (Blk l (.loop (lrec r .ready none)) :: ML.eraseIdx i) → R (.returned (.bool true)) w2) : roundPost P l R .normal a w :=
  ⟨_, _, run_endRound none (hsh.blk i hi), h _ (hsh.putO i hi _)⟩
theorem round_ret {l : Nat} {r : Loop} {ML : List SP} {R : Ending → World → Prop} (hsh : SH F w0 w ML) (i : Nat) (hi : ML[i]? = some (Blk l (.loop (lrec r .busy none)))) (h : ∀ w2, SH F w0 w2 (Blk l (.loop (lrec r .done (some .ret))) :: ML.eraseIdx i) → R (.returned (.bool false)) w2) : roundPost P l R .ret a w :=
  ⟨_, _, run_endRound (some .ret) (hsh.blk i hi), h _ (hsh.putO i hi _)⟩
theorem tm {v : Value} (hst : ST Δ N a L) (hd : Nat.blt d N = true) (hx : ev L x = some v) (k : ∀ a, ST Δ N a ((d, v) :: L) → wpL ρ P ops Q rest a w) :
    wpL ρ P ops Q ({ dst := some d, op := .move x, type := ty, pos := pos, after := af, guard := none } :: rest) a w := r_t hst trivial hd (x_move hst hx) k
theorem ta {v : Value} (hst : ST Δ N a L) (hd : Nat.blt d N = true) (hx : ev L x = some v) (k : ∀ a, ST Δ N a ((d, v) :: L) → wpL ρ P ops Q rest a w) :
    wpL ρ P ops Q ({ dst := some d, op := .assign x, type := ty, pos := pos, after := af, guard := none } :: rest) a w := r_t hst trivial hd (x_assign hst hx) k
theorem ws {id : Nat} {l : List Oper} {y : Code} (hp : Plain ρ l) (h : wpL ρ P l.toArray (Exit.then (wq y ρ P Q) Q) l a w) : wq (Code.seq (Code.region id l.toArray false) y) ρ P Q a w := wq_seq (wq_region_lit hp h)
theorem wn {ops : Array Oper} {J : Act → World → Prop} (h : J a w) : wpL ρ P ops (Exit.then J Q) [] a w := wpL_nil (then_normal h)
end
end Go.Proofs.YtbaemhkfmddakaaGreat.Sy
