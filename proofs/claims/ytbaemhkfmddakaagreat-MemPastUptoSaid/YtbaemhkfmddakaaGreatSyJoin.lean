import Derived.Test.YtbaemhkfmddakaaGreatSyRow
set_option linter.unusedVariables false
set_option linter.unusedSectionVars false
set_option linter.unusedSimpArgs false
namespace Go.Proofs.YtbaemhkfmddakaaGreat.Sy
open Go
/-- A continuation under a name: what follows behind a meeting of ways. -/
def Jn {α R : Type} (J : α) (X : α → R) : R := X J
theorem Jn.elim {α R : Type} {J : α} {X : α → R} {r : R} (H : Jn J X = r) : ∃ J1, J1 = J ∧ X J1 = r := ⟨J, rfl, H⟩
section
variable {ρ : Option Nat} {Δ : List Deferred} variable {P : Program} {ops : Array Oper} {Q : Exit → Act → World → Prop} {a : Act} {w : World} {rest : List Oper} {N : Nat} {L : List (Nat × Value)}
variable {d ty : Nat} {pos : String} {af : Array Edge} {g : Option (Nat × Bool)} {x y z : Operand}
/-- Ways inside a region meet again at operation n. -/
theorem wl_join {l : List Oper} (n : Nat) (J : Act → World → Prop) (h1 : ∀ a w, J a w → wpL ρ P ops Q (ops.toList.drop n) a w) (h2 : (∀ a w, J a w → wpL ρ P ops Q (ops.toList.drop n) a w) → wpL ρ P ops Q l a w) : wpL ρ P ops Q l a w := h2 h1
/-- The same, where the world stays. -/
theorem wl_join0 {l : List Oper} (n : Nat) (L' : List (Nat × Value)) (h1 : ∀ a, ST Δ N a L' → wpL ρ P ops Q (ops.toList.drop n) a w) (h2 : (∀ a, ST Δ N a L' → wpL ρ P ops Q (ops.toList.drop n) a w) → wpL ρ P ops Q l a w) : wpL ρ P ops Q l a w := h2 h1
/-- A guard whose test was itself passed over. -/
theorem wl_notU {o : Oper} {i : Nat} {b : Bool} (hst : ST Δ N a L) (hg : o.guard = some (i, b)) (t : Nat) (h1 : (ops[i]?).bind (·.dst) = some t) (h2 : look L t = some undef)
    (hk : wpL ρ P ops Q rest (a.put o.dst undef) w) : wpL ρ P ops Q (o :: rest) a w := by
  refine wpL_step fun K hK => ?_
  rw [if_neg]
  · exact hK _ _ hk
  · unfold Region.wanted
    have := hst.get t _ h2
    rw [hg]
    simp only [yielded, h1, Option.bind_some, this, undef]
    simp
theorem r_notU {op : Op} {i : Nat} {b : Bool} (hst : ST Δ N a L) (t : Nat) (h1 : (ops[i]?).bind (·.dst) = some t) (h2 : look L t = some undef) (hd : Nat.blt d N = true)
    (k : ∀ a, ST Δ N a ((d, undef) :: L) → wpL ρ P ops Q rest a w) : wpL ρ P ops Q ({ dst := some d, op := op, type := ty, pos := pos, after := af, guard := some (i, b) } :: rest) a w :=
  wl_notU hst rfl t h1 h2 (k _ (hst.put hd _))
theorem x_andT {c e : Bool} (hst : ST Δ N a L) (hc : ev L x = some (.bool c)) (hb : c = true) (hy : ev L y = some (.bool e)) : Tell P a w (.pick x y z) (.bool (c && e)) := by
  have := x_pickT (P := P) (w := w) (z := z) hst hc hb hy
  subst hb
  exact this
theorem x_andF {c : Bool} (e : Bool) (hst : ST Δ N a L) (hc : ev L x = some (.bool c)) (hb : c = false) (hz : ev L z = some (.bool false)) : Tell P a w (.pick x y z) (.bool (c && e)) := by
  have := x_pickF (P := P) (w := w) (y := y) hst hc hb hz
  subst hb
  exact this
theorem x_orF {c e : Bool} (hst : ST Δ N a L) (hc : ev L x = some (.bool c)) (hb : c = false) (hz : ev L z = some (.bool e)) : Tell P a w (.pick x y z) (.bool (c || e)) := by
  have := x_pickF (P := P) (w := w) (y := y) hst hc hb hz
  subst hb
  exact this
theorem x_orT {c : Bool} (e : Bool) (hst : ST Δ N a L) (hc : ev L x = some (.bool c)) (hb : c = true) (hy : ev L y = some (.bool true)) : Tell P a w (.pick x y z) (.bool (c || e)) := by
  have := x_pickT (P := P) (w := w) (z := z) hst hc hb hy
  subst hb
  exact this
theorem wq_condT {u v : Code} {t : Nat} {c : Bool} (hst : ST Δ N a L) (hx : look L t = some (.bool c)) (hc : c = true) (h : wq u ρ P Q a w) : wq (Code.cond (.tmp t) u v) ρ P Q a w :=
  wq_cond_true ((hst.ev (x := .tmp t) hx).trans (by rw [hc])) h
theorem wq_condF {u v : Code} {t : Nat} {c : Bool} (hst : ST Δ N a L) (hx : look L t = some (.bool c)) (hc : c = false) (h : wq v ρ P Q a w) : wq (Code.cond (.tmp t) u v) ρ P Q a w :=
  wq_cond_false ((hst.ev (x := .tmp t) hx).trans (by rw [hc])) h
end
end Go.Proofs.YtbaemhkfmddakaaGreat.Sy
