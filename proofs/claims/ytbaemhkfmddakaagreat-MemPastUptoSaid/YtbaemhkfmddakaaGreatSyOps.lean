import Derived.Test.YtbaemhkfmddakaaGreatSyKd
set_option linter.unusedVariables false
set_option linter.unusedSectionVars false
set_option linter.unusedSimpArgs false
namespace Go.Proofs.YtbaemhkfmddakaaGreat.Sy
open Go
/-- The operation's guard lets it run: its test is known to be as wanted. -/
def Wt (ops : Array Oper) (L : List (Nat × Value)) : Option (Nat × Bool) → Prop
  | none => True
  | some (i, b) => ∃ t, (ops[i]?).bind (·.dst) = some t ∧ look L t = some (.bool b)
theorem wt_of {ops : Array Oper} {L : List (Nat × Value)} {i : Nat} {b c : Bool} (t : Nat) (h1 : (ops[i]?).bind (·.dst) = some t) (h2 : look L t = some (.bool c)) (h3 : c = b) : Wt ops L (some (i, b)) :=
  ⟨t, h1, by rw [h2, h3]⟩
section
variable {ρ : Option Nat} {Δ : List Deferred} variable {P : Program} {ops : Array Oper} {Q : Exit → Act → World → Prop} {a : Act} {w : World} {rest : List Oper} {N : Nat} {L : List (Nat × Value)}
theorem wanted_of {o : Oper} (hst : ST Δ N a L) (hw : Wt ops L o.guard) : Region.wanted o (yielded ops a.tmps) = true := by
  unfold Region.wanted
  cases hg : o.guard with
  | none => rfl
  | some p =>
    obtain ⟨i, b⟩ := p
    rw [hg] at hw
    obtain ⟨t, h1, h2⟩ := hw
    have := hst.get t _ h2
    simp only [yielded, h1, Option.bind_some, this, beq_self_eq_true]
theorem wl_val {o : Oper} {v : Value} {w' : World} (hst : ST Δ N a L) (hw : Wt ops L o.guard) (hrun : (execOp a.eval o).run P w = .ok (.value v) w') (hk : wpL ρ P ops Q rest (a.put o.dst v) w') :
    wpL ρ P ops Q (o :: rest) a w := by
  refine wpL_step fun K hK => ?_
  rw [if_pos (wanted_of hst hw)]
  unfold owq
  rw [hrun]
  exact hK _ _ hk
theorem wl_skip {o : Oper} {w' : World} (hst : ST Δ N a L) (hw : Wt ops L o.guard) (hrun : (execOp a.eval o).run P w = .ok .skip w') (hk : wpL ρ P ops Q rest (a.put o.dst undef) w') :
    wpL ρ P ops Q (o :: rest) a w := by
  refine wpL_step fun K hK => ?_
  rw [if_pos (wanted_of hst hw)]
  unfold owq
  rw [hrun]
  exact hK _ _ hk
theorem wl_enter {o : Oper} {f : FuncId} {args : Array Value} {R : Ending → World → Prop} (hst : ST Δ N a L) (hw : Wt ops L o.guard) (hrun : (execOp a.eval o).run P w = .ok (.enter f args) w)
    (hc : Calls P f args w R) (hk : ∀ e w', R e w' → ∃ v, e = .returned v ∧ wpL ρ P ops Q rest (a.put o.dst v) w') :
    wpL ρ P ops Q (o :: rest) a w := by
  refine wpL_step fun K hK => ?_
  rw [if_pos (wanted_of hst hw)]
  unfold owq
  rw [hrun]
  refine ⟨fun h => (by cases h), callsIn_FW (hc.mono fun e w' hR => ?_)⟩
  obtain ⟨v, rfl, hwp⟩ := hk e w' hR
  exact hK _ _ hwp
/-- A guard that does not let it run. -/
theorem wl_not {o : Oper} {i : Nat} {b c : Bool} (hst : ST Δ N a L) (hg : o.guard = some (i, b)) (t : Nat) (h1 : (ops[i]?).bind (·.dst) = some t) (h2 : look L t = some (.bool c)) (h3 : c = !b)
    (hk : wpL ρ P ops Q rest (a.put o.dst undef) w) : wpL ρ P ops Q (o :: rest) a w := by
  refine wpL_step fun K hK => ?_
  rw [if_neg]
  · exact hK _ _ hk
  · unfold Region.wanted
    have := hst.get t _ h2
    rw [hg]
    simp only [yielded, h1, Option.bind_some, this, h3]
    cases b <;> simp
variable {d ty : Nat} {pos : String} {af : Array Edge} {g : Option (Nat × Bool)}
/-- What an operation tells, the world left alone. -/
def Tell (P : Program) (a : Act) (w : World) (op : Op) (v : Value) : Prop := ∀ o : Oper, o.op = op → (execOp a.eval o).run P w = .ok (.value v) w
theorem r_t {op : Op} {v : Value} (hst : ST Δ N a L) (hw : Wt ops L g) (hd : Nat.blt d N = true) (h : Tell P a w op v)
    (k : ∀ a, ST Δ N a ((d, v) :: L) → wpL ρ P ops Q rest a w) : wpL ρ P ops Q ({ dst := some d, op := op, type := ty, pos := pos, after := af, guard := g } :: rest) a w :=
  wl_val hst hw (h _ rfl) (k _ (hst.put hd v))
theorem r_not {op : Op} {i : Nat} {b c : Bool} (hst : ST Δ N a L) (t : Nat) (h1 : (ops[i]?).bind (·.dst) = some t) (h2 : look L t = some (.bool c)) (h3 : c = !b) (hd : Nat.blt d N = true)
    (k : ∀ a, ST Δ N a ((d, undef) :: L) → wpL ρ P ops Q rest a w) : wpL ρ P ops Q ({ dst := some d, op := op, type := ty, pos := pos, after := af, guard := some (i, b) } :: rest) a w :=
  wl_not hst rfl t h1 h2 h3 (k _ (hst.put hd _))
variable {x y z : Operand}
theorem x_move {v : Value} (hst : ST Δ N a L) (hx : ev L x = some v) :
    Tell P a w (.move x) (v) := fun o ho => by simp [execOp, ho, hst.ev hx]
theorem x_assign {v : Value} (hst : ST Δ N a L) (hx : ev L x = some v) :
    Tell P a w (.assign x) (v) := fun o ho => by simp [execOp, ho, hst.ev hx]
theorem x_pickT {b : Bool} {u : Value} (hst : ST Δ N a L) (hc : ev L x = some (.bool b)) (hb : b = true) (hy : ev L y = some u) :
    Tell P a w (.pick x y z) (u) := fun o ho => by simp [execOp, ho, hst.ev hc, hst.ev hy, asBool, hb]
theorem x_pickF {b : Bool} {u : Value} (hst : ST Δ N a L) (hc : ev L x = some (.bool b)) (hb : b = false) (hz : ev L z = some u) :
    Tell P a w (.pick x y z) (u) := fun o ho => by simp [execOp, ho, hst.ev hc, hst.ev hz, asBool, hb]
def cmpI (m n : Int) : BinOp → Option Bool
  | .eql => some (m == n)
  | .neq => some (m != n)
  | .lss => some (decide (m < n))
  | .leq => some (decide (m ≤ n))
  | .gtr => some (decide (n < m))
  | .geq => some (decide (n ≤ m))
  | _ => none
def arI (k : IntKind) (m n : Int) : BinOp → Option Int
  | .add => some (k.wrap (m + n))
  | .sub => some (k.wrap (m - n))
  | .mul => some (k.wrap (m * n))
  | .and => some (bits .and k m n)
  | .or => some (bits .or k m n)
  | .xor => some (bits .xor k m n)
  | .andNot => some (bits .andNot k m n)
  | _ => none
def sEq (s t : ByteArray) : Bool := s.toList == t.toList
def sLt (s t : ByteArray) : Bool := Op.bytesLess s.toList t.toList
def cmpS (s t : ByteArray) : BinOp → Option Bool
  | .eql => some (sEq s t)
  | .neq => some (!sEq s t)
  | .lss => some (sLt s t)
  | .leq => some (sLt s t || sEq s t)
  | .gtr => some (!(sLt s t || sEq s t))
  | .geq => some (!sLt s t)
  | _ => none
theorem x_cmpI {bo : BinOp} {k1 : IntKind} {m n : Int} {b : Bool} {t1 t2 : Nat} (hst : ST Δ N a L) (hx : ev L x = some (.int k1 m)) (hy : ev L y = some (.int k1 n)) (hb : cmpI m n bo = some b) :
    Tell P a w (.binOp bo t1 x y t2) (.bool b) := fun o ho => by
    have e : (binOp bo t1 (.int k1 m) (.int k1 n)) = pure (.bool b) := by
      cases bo <;> simp only [cmpI, Option.some.injEq, reduceCtorEq] at hb <;> subst hb <;> first | exact binOp_eql .. | exact binOp_neq .. | exact binOp_lss .. | exact binOp_leq .. | exact binOp_gtr .. | exact binOp_geq ..
    simp [execOp, ho, hst.ev hx, hst.ev hy, eqGuard_at_int, e]
theorem x_arI {bo : BinOp} {k1 : IntKind} {m n r : Int} {t1 t2 : Nat} (hst : ST Δ N a L) (hx : ev L x = some (.int k1 m)) (hy : ev L y = some (.int k1 n)) (hb : arI k1 m n bo = some r) :
    Tell P a w (.binOp bo t1 x y t2) (.int k1 r) := fun o ho => by
    have e : (binOp bo t1 (.int k1 m) (.int k1 n)) = pure (.int k1 r) := by
      cases bo <;> simp only [arI, Option.some.injEq, reduceCtorEq] at hb <;> subst hb <;> first
        | (rw [binOp_add]; rfl) | (rw [binOp_sub]; rfl) | (rw [binOp_mul]; rfl) | (rw [binOp_and, intBits_and]) | (rw [binOp_or, intBits_or]) | (rw [binOp_xor, intBits_xor]) | (rw [binOp_andNot, intBits_andNot])
    simp [execOp, ho, hst.ev hx, hst.ev hy, eqGuard_at_int, e]
theorem x_quo {k1 : IntKind} {m n : Int} {t1 t2 : Nat} (hst : ST Δ N a L) (hx : ev L x = some (.int k1 m)) (hy : ev L y = some (.int k1 n)) (hn : n ≠ 0) :
    Tell P a w (.binOp .quo t1 x y t2) (.int k1 (k1.wrap (m.tdiv n))) := fun o ho => by
    have e : (binOp .quo t1 (.int k1 m) (.int k1 n)) = pure (.int k1 (k1.wrap (m.tdiv n))) := by rw [binOp_quo]; simp [Op.intDiv, hn]
    simp [execOp, ho, hst.ev hx, hst.ev hy, eqGuard_at_int, e]
theorem x_shr {k1 k2 : IntKind} {m n : Int} {t1 t2 : Nat} (hst : ST Δ N a L) (hx : ev L x = some (.int k1 m)) (hy : ev L y = some (.int k2 n)) (h0 : 0 ≤ n) (h1 : n ≤ k1.bits) :
    Tell P a w (.binOp .shr t1 x y t2) (.int k1 (m / 2 ^ n.toNat)) := fun o ho => by
    have e : (binOp .shr t1 (.int k1 m) (.int k2 n)) = pure (.int k1 (m / 2 ^ n.toNat)) := by rw [binOp_shr, shift_shr _ _ _ _ h0 h1]
    simp [execOp, ho, hst.ev hx, hst.ev hy, eqGuard_at_int, e]
theorem x_shl {k1 k2 : IntKind} {m n : Int} {t1 t2 : Nat} (hst : ST Δ N a L) (hx : ev L x = some (.int k1 m)) (hy : ev L y = some (.int k2 n)) (h0 : 0 ≤ n) (h1 : n ≤ k1.bits) :
    Tell P a w (.binOp .shl t1 x y t2) (.int k1 (k1.wrap (m * 2 ^ n.toNat))) := fun o ho => by
    have e : (binOp .shl t1 (.int k1 m) (.int k2 n)) = pure (.int k1 (k1.wrap (m * 2 ^ n.toNat))) := by rw [binOp_shl, shift_shl _ _ _ _ h0 h1]
    simp [execOp, ho, hst.ev hx, hst.ev hy, eqGuard_at_int, e]
theorem x_cmpS {bo : BinOp} {s t : ByteArray} {b : Bool} {t1 t2 : Nat} (hst : ST Δ N a L) (hx : ev L x = some (.string s)) (hy : ev L y = some (.string t)) (hb : cmpS s t bo = some b) :
    Tell P a w (.binOp bo t1 x y t2) (.bool b) := fun o ho => by
    have e : (binOp bo t1 (.string s) (.string t)) = pure (.bool b) := by
      cases bo <;> simp only [cmpS, Option.some.injEq, reduceCtorEq] at hb <;> subst hb <;> simp [binOp, Op.stringOp, sEq, sLt]
    simp [execOp, ho, hst.ev hx, hst.ev hy, eqGuard_at_string, e]
theorem equalIn_bool (n t1 : Nat) (p q : Bool) (ht : P.underlying t1 = some .bool) : (Op.equalIn (n + 1) t1 (.bool p) (.bool q)).run P w = .ok (p == q) w := by
  simp [Op.equalIn, run_underlying ht]
theorem x_eqB {bo : BinOp} {p q b : Bool} {t1 t2 : Nat} (hst : ST Δ N a L) (ht : P.underlying t1 = some .bool) (hx : ev L x = some (.bool p)) (hy : ev L y = some (.bool q))
    (hb : (match bo with | .eql => some (p == q) | .neq => some (!(p == q)) | _ => none) = some b) :
    Tell P a w (.binOp bo t1 x y t2) (.bool b) := fun o ho => by
    have he : (Op.equal t1 (.bool p) (.bool q)).run P w = .ok (p == q) w := equalIn_bool 9999 t1 p q ht
    have e : (binOp bo t1 (.bool p) (.bool q)).run P w = .ok (.bool b) w := by
      cases bo <;> simp only [Option.some.injEq, reduceCtorEq] at hb <;> subst hb <;> simp [binOp, he]
    simp [execOp, ho, hst.ev hx, hst.ev hy, eqGuard_at_bool, e]
theorem x_notB {p : Bool} {t1 : Nat} (hst : ST Δ N a L) (hx : ev L x = some (.bool p)) :
    Tell P a w (.unOp .not t1 x) (.bool (!p)) := fun o ho => by simp [execOp, ho, hst.ev hx, Op.unary]
theorem x_convI {k1 k2 : IntKind} {m : Int} {t1 t2 : Nat} (hst : ST Δ N a L) (h1 : P.underlying t1 = some (.int k1)) (h2 : P.underlying t2 = some (.int k2)) (hx : ev L x = some (.int k1 m)) :
    Tell P a w (.convert t1 t2 x) (.int k2 (k2.wrap m)) := fun o ho => by simp [execOp, ho, hst.ev hx, convert, run_underlying h1, run_underlying h2, Conv.intToInt]
theorem x_lenStr {s : ByteArray} {t1 : Nat} (hst : ST Δ N a L) (h1 : P.underlying t1 = some .string) (hx : ev L x = some (.string s)) :
    Tell P a w (.call { callee := .builtin .len, args := #[x], argTypes := #[t1] }) (.int .i64 (s.size : Int)) := fun o ho => by simp [execOp, ho, hst.ev hx, resolve, invoke, builtin, Builtin.len_, run_underlying h1, goInt]
theorem x_lenSl {v : Value} {n : Nat} {t1 e : Nat} (hst : ST Δ N a L) (h1 : P.underlying t1 = some (.slice e)) (hx : ev L x = some v) (hv : ∃ A c, v = .slice A n c) :
    Tell P a w (.call { callee := .builtin .len, args := #[x], argTypes := #[t1] }) (.int .i64 (n : Int)) := fun o ho => by
    obtain ⟨A, c, rfl⟩ := hv
    simp [execOp, ho, hst.ev hx, resolve, invoke, builtin, Builtin.len_, run_underlying h1, goInt]
theorem RD.slen {α : Type} {dk : Kd α} {Z : Nat → Prop} {v : Value} {xs : List α} (h : RD dk Z w v xs) : ∃ A c, v = .slice A xs.length c := by
  obtain ⟨A, c, h, _⟩ := h; exact ⟨A, c, h⟩
def maxI (m n : Int) : Int := if n > m then n else m
def minI (m n : Int) : Int := if n < m then n else m
theorem x_maxI {k1 : IntKind} {m n : Int} {tt : Array TypeId} (hst : ST Δ N a L) (hx : ev L x = some (.int k1 m)) (hy : ev L y = some (.int k1 n)) :
    Tell P a w (.call { callee := .builtin .max, args := #[x, y], argTypes := tt }) (.int k1 (maxI m n)) := fun o ho => by simp [execOp, ho, hst.ev hx, hst.ev hy, resolve, invoke, builtin, Builtin.max_, Builtin.max2, maxI]
theorem x_minI {k1 : IntKind} {m n : Int} {tt : Array TypeId} (hst : ST Δ N a L) (hx : ev L x = some (.int k1 m)) (hy : ev L y = some (.int k1 n)) :
    Tell P a w (.call { callee := .builtin .min, args := #[x, y], argTypes := tt }) (.int k1 (minI m n)) := fun o ho => by simp [execOp, ho, hst.ev hx, hst.ev hy, resolve, invoke, builtin, Builtin.min_, Builtin.min2, minI]
end
end Go.Proofs.YtbaemhkfmddakaaGreat.Sy
