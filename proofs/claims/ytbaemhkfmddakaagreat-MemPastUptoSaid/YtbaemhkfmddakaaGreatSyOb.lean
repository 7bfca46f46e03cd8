import Derived.Test.YtbaemhkfmddakaaGreatSyMapS
set_option linter.unusedVariables false
set_option linter.unusedSectionVars false
set_option linter.unusedSimpArgs false
namespace Go.Proofs.YtbaemhkfmddakaaGreat.Sy
open Go
/-- So many cells that hold x, with all that hangs on it. -/
def El {α : Type} (d : Kd α) (cs : List Value) (x : α) : SP where
  H G w := d.M G w x cs
  stable h k := d.M_stable h k
  mono h k := d.M_mono h k
  inb h := d.M_inb h
/-- A pointer, not nil, to a block of one's own. -/
def Kd.ptr {α : Type} (t : TypeId) (d : Kd α) : Kd α where
  sz := 1
  K Z w x cs := ∃ g c, cs = [.pointer (some ⟨g, 0, none⟩)] ∧ Z g ∧ w.heap[g]? = some (.cells c.toArray t (0, 0)) ∧ d.K Z w x c
  M G w x cs := ∃ g c, cs = [.pointer (some ⟨g, 0, none⟩)] ∧ G g ∧ w.heap[g]? = some (.cells c.toArray t (0, 0)) ∧ d.M (fun k => G k ∧ k ≠ g) w x c
  K_len h := by obtain ⟨g, c, rfl, _⟩ := h; rfl
  K_one h u hu := by
    obtain ⟨g, c, rfl, _⟩ := h
    simp at hu
    subst hu
    rfl
  K_stable hs h := by
    obtain ⟨g, c, rfl, h1, h2, h3⟩ := h
    exact ⟨g, c, rfl, h1, (hs g h1 (Array.getElem?_eq_some_iff.1 h2).1).trans h2, d.K_stable hs h3⟩
  K_mono hs h := by
    obtain ⟨g, c, rfl, h1, h2, h3⟩ := h
    exact ⟨g, c, rfl, hs _ h1, h2, d.K_mono hs h3⟩
  M_K h := by
    obtain ⟨g, c, rfl, h1, h2, h3⟩ := h
    exact ⟨g, c, rfl, h1, h2, d.K_mono (fun k hk => hk.1) (d.M_K h3)⟩
  M_stable hs h := by
    obtain ⟨g, c, rfl, h1, h2, h3⟩ := h
    exact ⟨g, c, rfl, h1, (hs g h1 (Array.getElem?_eq_some_iff.1 h2).1).trans h2, d.M_stable (fun k hk => hs k hk.1) h3⟩
  M_mono hs h := by
    obtain ⟨g, c, rfl, h1, h2, h3⟩ := h
    exact ⟨g, c, rfl, hs _ h1, h2, d.M_mono (fun k hk => ⟨hs k hk.1, hk.2⟩) h3⟩
  M_inb h := by
    obtain ⟨g, c, rfl, h1, h2, h3⟩ := h
    exact ⟨g, c, rfl, ⟨h1, (Array.getElem?_eq_some_iff.1 h2).1⟩, h2, d.M_mono (fun k hk => ⟨⟨hk.1.1, hk.2⟩, hk.1.2⟩) (d.M_inb h3)⟩
/-- An interface value: nil; something that is not one's own; a pointer to something of one's own. -/
inductive Itf (α : Type) where
  | nil | out
  | ptr (x : α)
theorem mf_el {α : Type} {d : Kd α} {cs : List Value} {x : α} : MF d [El d cs x] x cs := fun _ _ h => h.head
theorem mf_ptr {α : Type} {d : Kd α} {C : List SP} {g t : Nat} {cs : List Value} {x : α} (h : MF d C x cs) : MF (Kd.ptr t d) (Box g cs t :: C) x [.pointer (some ⟨g, 0, none⟩)] := fun G w hs => by
  obtain ⟨G1, G2, h1, h2, h3, ⟨hg, hb⟩, hC⟩ := hs
  exact ⟨g, cs, rfl, h1 _ hg, hb, d.M_mono (fun k hk => ⟨h2 k hk, fun e => by subst e; exact h3 _ hg hk⟩) (h _ _ hC)⟩
section
variable {α β : Type} {d : Kd α} {e t T g : TypeId} {F : Nat → Prop} {w0 w : World} {M : List SP} {v u : Value} {cs : List Value}
/-- What is one's own is shut into one piece. -/
theorem SH.shutEl {C : List SP} {x : α} (h : SH F w0 w (C ++ M)) (hm : MF d C x cs) : SH F w0 w (El d cs x :: M) := by
  obtain ⟨hk, hs⟩ := h
  obtain ⟨G1, G2, h1, h2, h3, hC, hr⟩ := Sep.split hs
  exact ⟨hk, G1, G2, h1, h2, h3, hm _ _ hC, hr⟩
theorem SH.openPtr {x : α} (h : SH F w0 w (El (Kd.ptr t d) [.pointer (some ⟨g, 0, none⟩)] x :: M)) : ∃ c, SH F w0 w (Box g c t :: El d c x :: M) := by
  obtain ⟨hk, G1, G2, h1, h2, h3, ⟨g', c, e1, hg, hb, hM⟩, hr⟩ := h
  simp only [List.cons.injEq, Value.pointer.injEq, Option.some.injEq, Addr.mk.injEq, and_true] at e1
  subst e1
  refine ⟨c, hk, fun k => k = g, fun k => (G1 k ∧ k ≠ g) ∨ G2 k, ?_, ?_, ?_, ⟨rfl, hb⟩, fun k => G1 k ∧ k ≠ g, G2, fun _ => .inl, fun _ => .inr, fun k hk hk' => h3 k hk.1 hk', hM, hr⟩
  · rintro k rfl; exact h1 _ hg
  · rintro k (hk | hk)
    · exact h1 k hk.1
    · exact h2 k hk
  · rintro k rfl (hk | hk)
    · exact hk.2 rfl
    · exact h3 _ hg hk
theorem SH.whoPtr {x : α} (h : SH F w0 w (El (Kd.ptr t d) cs x :: M)) : ∃ g, cs = [.pointer (some ⟨g, 0, none⟩)] ∧ SH F w0 w (El (Kd.ptr t d) [.pointer (some ⟨g, 0, none⟩)] x :: M) := by
  have h' := h
  obtain ⟨hk, G1, G2, h1, h2, h3, ⟨g', c, rfl, hg, hb, hM⟩, hr⟩ := h
  exact ⟨g', rfl, h'⟩
theorem SH.openPair {a : Kd α} {b : Kd β} {x : α × β} (h : SH F w0 w (El (Kd.pair a b) cs x :: M)) : ∃ c1 c2, cs = c1 ++ c2 ∧ SH F w0 w (El a c1 x.1 :: El b c2 x.2 :: M) := by
  obtain ⟨hk, G1, G2, h1, h2, h3, ⟨c1, c2, rfl, E1, E2, e1, e2, e3, m1, m2⟩, hr⟩ := h
  refine ⟨c1, c2, rfl, hk, E1, fun k => E2 k ∨ G2 k, fun k hk => h1 k (e1 k hk), fun k hk => hk.elim (fun h => h1 k (e2 k h)) (h2 k), ?_, m1, E2, G2, fun _ => .inl, fun _ => .inr, fun k hk hk' => h3 k (e2 k hk) hk', m2, hr⟩
  rintro k hk (h | h)
  · exact e3 k hk h
  · exact h3 k (e1 k hk) h
theorem SH.openIso {f : β → α} {x : β} (h : SH F w0 w (El (Kd.iso d f) cs x :: M)) : SH F w0 w (El d cs (f x) :: M) := h
theorem SH.openFlat {sz : Nat} {enc : α → List Value} {hl : ∀ x, (enc x).length = sz} {h1 : ∀ x, ∀ u ∈ enc x, u.oneCell' = true} {x : α} (h : SH F w0 w (El (Kd.flat sz enc hl h1) cs x :: M)) : cs = enc x ∧ SH F w0 w M := by
  obtain ⟨hk, G1, G2, h1, h2, h3, hx, hr⟩ := h
  exact ⟨hx, hk, hr.mono h2⟩
theorem SH.openSl {x : List α} (h : SH F w0 w (El (Kd.slice e d) cs x :: M)) : ∃ v, cs = [v] ∧ SH F w0 w (Row d e v x :: M) := by
  obtain ⟨hk, G1, G2, h1, h2, h3, ⟨v, rfl, hx⟩, hr⟩ := h
  exact ⟨v, rfl, hk, G1, G2, h1, h2, h3, hx, hr⟩
end
section
variable {α : Type} {d : Kd α} {e : TypeId} {F : Nat → Prop} {w0 w : World} {M : List SP} {v : Value}
end
section
variable {ρ : Option Nat} {Δ : List Deferred} {P : Program} {ops : Array Oper} {Q : Exit → Act → World → Prop} {a : Act} {w : World} {rest : List Oper} {N : Nat} {L : List (Nat × Value)}
variable {d ty : Nat} {pos : String} {af : Array Edge} {gd : Option (Nat × Bool)} {x y z : Operand}
variable {F : Nat → Prop} {w0 : World} {M : List SP}
end
end Go.Proofs.YtbaemhkfmddakaaGreat.Sy
namespace Go.Proofs.YtbaemhkfmddakaaGreat.Sy
open Go
/-- What is done with an interface value that was read. -/
@[reducible] def Itf.on {α β : Type} (x : Itf α) (a : Option β) (f : α → Option β) : Option β := match x with
  | .nil => a
  | .out => none
  | .ptr y => f y
section
variable {ρ : Option Nat} {Δ : List Deferred} {P : Program} {ops : Array Oper} {Q : Exit → Act → World → Prop} {a : Act} {w : World} {rest : List Oper} {N : Nat} {L : List (Nat × Value)}
variable {d ty : Nat} {pos : String} {af : Array Edge} {gd : Option (Nat × Bool)} {x y z : Operand}
theorem eqv_i10 {t T : Nat} {ms} {v : Value} (ht : P.underlying t = some (.interface ms)) : EqV P t (.iface T v) .nilIface false := by
  have hq : ∀ d w, (Op.equalIn (d + 1) t (.iface T v) .nilIface).run P w = .ok false w := fun d w => by simp [Op.equalIn, run_underlying ht]
  have he : ∀ w, (Op.equal t (.iface T v) .nilIface).run P w = .ok false w := hq 9999
  exact ⟨⟨fun w => by simp [binOp, he], fun w => by simp [binOp, he]⟩, fun _ _ => rfl, fun _ _ => rfl⟩
variable {T : TypeId} {name : String} {f : FuncId} {v : Value} {vs : List Value} {xs : List Operand} {tt : Array TypeId} {xr xf : Operand} {R : Ending → World → Prop}
end
end Go.Proofs.YtbaemhkfmddakaaGreat.Sy
namespace Go.Proofs.YtbaemhkfmddakaaGreat.Sy
open Go
section
variable {ρ : Option Nat} {P : Program} {ops : Array Oper} {E : World → Prop} {Q : Exit → Act → World → Prop}
end
end Go.Proofs.YtbaemhkfmddakaaGreat.Sy
namespace Go.Proofs.YtbaemhkfmddakaaGreat.Sy
open Go
section
variable {ρ : Option Nat} {Δ : List Deferred} {P : Program} {ops : Array Oper} {E B X X' : World → Prop} {Q : Exit → Act → World → Prop} {K : (World → Prop) → (World → Prop) → Act → Prop} {rest : List (Nat × Oper)} {a : Act} {N : Nat} {L : List (Nat × Value)}
variable {d ty : Nat} {pos : String} {af : Array Edge}
end
end Go.Proofs.YtbaemhkfmddakaaGreat.Sy
namespace Go.Proofs.YtbaemhkfmddakaaGreat.Sy
open Go
end Go.Proofs.YtbaemhkfmddakaaGreat.Sy
