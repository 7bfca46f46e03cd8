import Derived.Test.YtknedifgapgmbaaSyMapS
set_option linter.unusedVariables false
set_option linter.unusedSectionVars false
set_option linter.unusedSimpArgs false
namespace Go.Proofs.Ytknedifgapgmbaa.Sy
open Go
/-- So many cells that hold x, with all that hangs on it. -/
def El {α : Type} (d : Kd α) (cs : List Value) (x : α) : SP where
  H G w := d.M G w x cs
  stable h k := d.M_stable h k
  mono h k := d.M_mono h k
  inb h := d.M_inb h
/-- A pointer, not nil, to a block of one's own. -/
def Kd.ptr {α : Type} (t : TypeId) (d : Kd α) : Kd α where
  sz := 1
  K Z w x cs := ∃ g c, cs = [.pointer (some ⟨g, 0, none⟩)] ∧ Z g ∧ w.heap[g]? = some (.cells c.toArray t (0, 0)) ∧ d.K Z w x c
  M G w x cs := ∃ g c, cs = [.pointer (some ⟨g, 0, none⟩)] ∧ G g ∧ w.heap[g]? = some (.cells c.toArray t (0, 0)) ∧ d.M (fun k => G k ∧ k ≠ g) w x c
  K_len h := by obtain ⟨g, c, rfl, _⟩ := h; rfl
  K_one h u hu := by
    obtain ⟨g, c, rfl, _⟩ := h
    simp at hu
    subst hu
    rfl
  K_stable hs h := by
    obtain ⟨g, c, rfl, h1, h2, h3⟩ := h
    exact ⟨g, c, rfl, h1, (hs g h1 (Array.getElem?_eq_some_iff.1 h2).1).trans h2, d.K_stable hs h3⟩
  K_mono hs h := by
    obtain ⟨g, c, rfl, h1, h2, h3⟩ := h
    exact ⟨g, c, rfl, hs _ h1, h2, d.K_mono hs h3⟩
  M_K h := by
    obtain ⟨g, c, rfl, h1, h2, h3⟩ := h
    exact ⟨g, c, rfl, h1, h2, d.K_mono (fun k hk => hk.1) (d.M_K h3)⟩
  M_stable hs h := by
    obtain ⟨g, c, rfl, h1, h2, h3⟩ := h
    exact ⟨g, c, rfl, h1, (hs g h1 (Array.getElem?_eq_some_iff.1 h2).1).trans h2, d.M_stable (fun k hk => hs k hk.1) h3⟩
  M_mono hs h := by
    obtain ⟨g, c, rfl, h1, h2, h3⟩ := h
    exact ⟨g, c, rfl, hs _ h1, h2, d.M_mono (fun k hk => ⟨hs k hk.1, hk.2⟩) h3⟩
  M_inb h := by
    obtain ⟨g, c, rfl, h1, h2, h3⟩ := h
    exact ⟨g, c, rfl, ⟨h1, (Array.getElem?_eq_some_iff.1 h2).1⟩, h2, d.M_mono (fun k hk => ⟨⟨hk.1.1, hk.2⟩, hk.1.2⟩) (d.M_inb h3)⟩
/-- An interface value: nil; something that is not one's own; a pointer to something of one's own. -/
inductive Itf (α : Type) where
  | nil | out
  | ptr (x : α)
def Kd.itf {α : Type} (T t : TypeId) (d : Kd α) : Kd (Itf α) where
  sz := 1
  K Z w x cs := match x with
    | .nil => cs = [.nilIface]
    | .out => ∃ u, cs = [u] ∧ u.oneCell' = true
    | .ptr x => ∃ u, cs = [.iface T u] ∧ (Kd.ptr t d).K Z w x [u]
  M G w x cs := match x with
    | .nil => cs = [.nilIface]
    | .out => ∃ u, cs = [u] ∧ u.oneCell' = true
    | .ptr x => ∃ u, cs = [.iface T u] ∧ (Kd.ptr t d).M G w x [u]
  K_len {Z w x cs} h := by
    cases x
    · rw [h]; rfl
    · obtain ⟨u, rfl, _⟩ := h; rfl
    · obtain ⟨u, rfl, _⟩ := h; rfl
  K_one {Z w x cs} h := by
    intro u hu
    cases x
    · rw [h] at hu; simp at hu; subst hu; rfl
    · obtain ⟨v, rfl, hv⟩ := h; simp at hu; subst hu; exact hv
    · obtain ⟨v, rfl, hv⟩ := h; simp at hu; subst hu; rfl
  K_stable {Z w w' x cs} hs h := by
    cases x
    · exact h
    · exact h
    · obtain ⟨u, e, h⟩ := h; exact ⟨u, e, (Kd.ptr t d).K_stable hs h⟩
  K_mono {Z Z' w x cs} hs h := by
    cases x
    · exact h
    · exact h
    · obtain ⟨u, e, h⟩ := h; exact ⟨u, e, (Kd.ptr t d).K_mono hs h⟩
  M_K {G w x cs} h := by
    cases x
    · exact h
    · exact h
    · obtain ⟨u, e, h⟩ := h; exact ⟨u, e, (Kd.ptr t d).M_K h⟩
  M_stable {G w w' x cs} hs h := by
    cases x
    · exact h
    · exact h
    · obtain ⟨u, e, h⟩ := h; exact ⟨u, e, (Kd.ptr t d).M_stable hs h⟩
  M_mono {G G' w x cs} hs h := by
    cases x
    · exact h
    · exact h
    · obtain ⟨u, e, h⟩ := h; exact ⟨u, e, (Kd.ptr t d).M_mono hs h⟩
  M_inb {G w x cs} h := by
    cases x
    · exact h
    · exact h
    · obtain ⟨u, e, h⟩ := h; exact ⟨u, e, (Kd.ptr t d).M_inb h⟩
theorem mf_el {α : Type} {d : Kd α} {cs : List Value} {x : α} : MF d [El d cs x] x cs := fun _ _ h => h.head
theorem mf_ptr {α : Type} {d : Kd α} {C : List SP} {g t : Nat} {cs : List Value} {x : α} (h : MF d C x cs) : MF (Kd.ptr t d) (Box g cs t :: C) x [.pointer (some ⟨g, 0, none⟩)] := fun G w hs => by
  obtain ⟨G1, G2, h1, h2, h3, ⟨hg, hb⟩, hC⟩ := hs
  exact ⟨g, cs, rfl, h1 _ hg, hb, d.M_mono (fun k hk => ⟨h2 k hk, fun e => by subst e; exact h3 _ hg hk⟩) (h _ _ hC)⟩
theorem mf_inil {α : Type} {d : Kd α} {T t : Nat} : MF (Kd.itf T t d) [] .nil [.nilIface] := fun _ _ _ => rfl
theorem mf_iptr {α : Type} {d : Kd α} {C : List SP} {T t : Nat} {u : Value} {x : α} (h : MF (Kd.ptr t d) C x [u]) : MF (Kd.itf T t d) C (.ptr x) [.iface T u] := fun G w hs => ⟨u, rfl, h G w hs⟩
theorem mf_iout {α : Type} {d : Kd α} {T t : Nat} {u : Value} (h : u.oneCell' = true) : MF (Kd.itf T t d) [] .out [u] := fun _ _ _ => ⟨u, rfl, h⟩
section
variable {α β : Type} {d : Kd α} {e t T g : TypeId} {F : Nat → Prop} {w0 w : World} {M : List SP} {v u : Value} {cs : List Value}
/-- What is one's own is shut into one piece. -/
theorem SH.shutEl {C : List SP} {x : α} (h : SH F w0 w (C ++ M)) (hm : MF d C x cs) : SH F w0 w (El d cs x :: M) := by
  obtain ⟨hk, hs⟩ := h
  obtain ⟨G1, G2, h1, h2, h3, hC, hr⟩ := Sep.split hs
  exact ⟨hk, G1, G2, h1, h2, h3, hm _ _ hC, hr⟩
theorem SH.openPtr {x : α} (h : SH F w0 w (El (Kd.ptr t d) [.pointer (some ⟨g, 0, none⟩)] x :: M)) : ∃ c, SH F w0 w (Box g c t :: El d c x :: M) := by
  obtain ⟨hk, G1, G2, h1, h2, h3, ⟨g', c, e1, hg, hb, hM⟩, hr⟩ := h
  simp only [List.cons.injEq, Value.pointer.injEq, Option.some.injEq, Addr.mk.injEq, and_true] at e1
  subst e1
  refine ⟨c, hk, fun k => k = g, fun k => (G1 k ∧ k ≠ g) ∨ G2 k, ?_, ?_, ?_, ⟨rfl, hb⟩, fun k => G1 k ∧ k ≠ g, G2, fun _ => .inl, fun _ => .inr, fun k hk hk' => h3 k hk.1 hk', hM, hr⟩
  · rintro k rfl; exact h1 _ hg
  · rintro k (hk | hk)
    · exact h1 k hk.1
    · exact h2 k hk
  · rintro k rfl (hk | hk)
    · exact hk.2 rfl
    · exact h3 _ hg hk
theorem SH.openPair {a : Kd α} {b : Kd β} {x : α × β} (h : SH F w0 w (El (Kd.pair a b) cs x :: M)) : ∃ c1 c2, cs = c1 ++ c2 ∧ SH F w0 w (El a c1 x.1 :: El b c2 x.2 :: M) := by
  obtain ⟨hk, G1, G2, h1, h2, h3, ⟨c1, c2, rfl, E1, E2, e1, e2, e3, m1, m2⟩, hr⟩ := h
  refine ⟨c1, c2, rfl, hk, E1, fun k => E2 k ∨ G2 k, fun k hk => h1 k (e1 k hk), fun k hk => hk.elim (fun h => h1 k (e2 k h)) (h2 k), ?_, m1, E2, G2, fun _ => .inl, fun _ => .inr, fun k hk hk' => h3 k (e2 k hk) hk', m2, hr⟩
  rintro k hk (h | h)
  · exact e3 k hk h
  · exact h3 k (e1 k hk) h
theorem SH.openIso {f : β → α} {x : β} (h : SH F w0 w (El (Kd.iso d f) cs x :: M)) : SH F w0 w (El d cs (f x) :: M) := h
theorem SH.openFlat {sz : Nat} {enc : α → List Value} {hl : ∀ x, (enc x).length = sz} {h1 : ∀ x, ∀ u ∈ enc x, u.oneCell' = true} {x : α} (h : SH F w0 w (El (Kd.flat sz enc hl h1) cs x :: M)) : cs = enc x ∧ SH F w0 w M := by
  obtain ⟨hk, G1, G2, h1, h2, h3, hx, hr⟩ := h
  exact ⟨hx, hk, hr.mono h2⟩
theorem SH.openSl {x : List α} (h : SH F w0 w (El (Kd.slice e d) cs x :: M)) : ∃ v, cs = [v] ∧ SH F w0 w (Row d e v x :: M) := by
  obtain ⟨hk, G1, G2, h1, h2, h3, ⟨v, rfl, hx⟩, hr⟩ := h
  exact ⟨v, rfl, hk, G1, G2, h1, h2, h3, hx, hr⟩
theorem SH.openNil (h : SH F w0 w (El (Kd.itf T t d) cs .nil :: M)) : cs = [.nilIface] ∧ SH F w0 w M := by
  obtain ⟨hk, G1, G2, h1, h2, h3, hx, hr⟩ := h
  exact ⟨hx, hk, hr.mono h2⟩
theorem SH.openItf {x : α} (h : SH F w0 w (El (Kd.itf T t d) cs (.ptr x) :: M)) : ∃ g, cs = [.iface T (.pointer (some ⟨g, 0, none⟩))] ∧ SH F w0 w (El (Kd.ptr t d) [.pointer (some ⟨g, 0, none⟩)] x :: M) := by
  obtain ⟨hk, G1, G2, h1, h2, h3, ⟨u, rfl, hx⟩, hr⟩ := h
  obtain ⟨g, c, e1, hx'⟩ := hx
  simp only [List.cons.injEq, and_true] at e1
  subst e1
  exact ⟨g, rfl, hk, G1, G2, h1, h2, h3, ⟨g, c, rfl, hx'⟩, hr⟩
end
/-- What is left of B when the cells cs, and what hangs on them, are out. -/
def Out {β : Type} (dk : Kd β) (cs : List Value) (B : β → SP) : SP where
  H G w := ∃ E : Nat → Prop, (∀ k, E k → G k) ∧ (∀ k, E k → k < w.heap.size) ∧ ∀ w'' : World, (∀ k, E k → w''.heap[k]? = w.heap[k]?) → ∀ (E1 : Nat → Prop) (y : β), (∀ k, E1 k → ¬ E k) → dk.M E1 w'' y cs → (B y).H (fun k => E1 k ∨ E k) w''
  stable := by
    rintro G w w' hs ⟨E, h1, h2, h3⟩
    have hk : ∀ k, E k → w'.heap[k]? = w.heap[k]? := fun k hk => hs k (h1 k hk) (h2 k hk)
    refine ⟨E, h1, fun k hE => ?_, fun w'' ha => h3 w'' fun k hE => (ha k hE).trans (hk k hE)⟩
    have := hk k hE
    rw [Array.getElem?_eq_getElem (h2 k hE)] at this
    exact (Array.getElem?_eq_some_iff.1 this).1
  mono := by
    rintro G G' w hs ⟨E, h1, h2, h3⟩
    exact ⟨E, fun k hk => hs k (h1 k hk), h2, h3⟩
  inb := by
    rintro G w ⟨E, h1, h2, h3⟩
    exact ⟨E, fun k hk => ⟨h1 k hk, h2 k hk⟩, h2, h3⟩
section
variable {α : Type} {d : Kd α} {e : TypeId} {F : Nat → Prop} {w0 w : World} {M : List SP} {v : Value}
/-- The element at j comes out whole. -/
theorem SH.takeEl {xs : List α} {x : α} {j : Int} (h : SH F w0 w M) (i : Nat) (hi : M[i]? = some (Row d e v xs)) (hx : idx xs j = some x) :
    ∃ cs, (∀ q u, cs[q]? = some u → w.cell? (elAddr v (j.toNat * d.sz + q)) = some u) ∧ SH F w0 w (Out d cs (fun y => Row d e v (xs.set j.toNat y)) :: El d cs x :: M.eraseIdx i) := by
  obtain ⟨h0, hlt, hxj⟩ := idx_some hx
  obtain ⟨G1, G2, h1, h2, h3, hA, hr⟩ := h.sep.pull i hi
  have hsz : ∀ k, G1 k → k < w.heap.size := fun k hk => (h1 k hk).1
  rcases hA with ⟨ad, rfl, rfl⟩ | ⟨css, hown, hblk, hels⟩
  · simp at hxj
  have hlen := fun cs hc => (hels.lens cs hc).1
  obtain ⟨cs, hcs, E1, E2, e1, e2, e3, hM, hH⟩ := hels.open hxj
  refine ⟨cs, ?_, h.kp, fun k => (G1 k ∧ v.ownBlock = some k) ∨ E2 k, fun k => E1 k ∨ G2 k, ?_, ?_, ?_, ?_, ?_⟩
  · intro q u hq
    rcases hown.2 with ⟨rfl, hn0⟩ | ⟨g, cap, cur, rfl, hb, hgg, hle, hcm, hcs', htk⟩
    · omega
    · have hf := flatten_get hlen j.toNat cs hcs q u hq
      simp only [elAddr, base]
      rw [Nat.zero_add, cell_of_row w g _ cur e (0, 0) hgg]
      rw [← htk, List.getElem?_take] at hf
      split at hf
      · simpa using hf
      · cases hf
  · rintro k (hk | hk)
    · exact h1 k hk.1
    · exact h1 k (e2 k hk).1
  · rintro k (hk | hk)
    · exact h1 k (e1 k hk).1
    · exact h2 k hk
  · rintro k (hk | hk) (hk' | hk')
    · exact (e1 k hk').2 hk.2
    · exact h3 k hk.1 hk'
    · exact e3 k hk' hk
    · exact h3 k (e2 k hk).1 hk'
  · refine ⟨fun k => (G1 k ∧ v.ownBlock = some k) ∨ E2 k, fun k hk => hk, ?_, ?_⟩
    · rintro k (hk | hk)
      · exact hsz k hk.1
      · exact hsz k (e2 k hk).1
    · intro w'' ha E y hd hm
      refine .inr ⟨css, ?_, fun k hk => .inr (.inl ⟨hblk k hk, hk⟩), ?_⟩
      · rw [List.length_set]
        refine ⟨hown.1, ?_⟩
        rcases hown.2 with hn | ⟨g, cap, cur, rfl, hb, hgg, rest⟩
        · exact .inl hn
        · exact .inr ⟨g, cap, cur, rfl, hb, (ha g (.inl ⟨hblk g rfl, rfl⟩)).trans hgg, rest⟩
      · have hH' := hH.stable (w' := w'') (fun k hk _ => ha k (.inr hk))
        have hcs2 : css.set j.toNat cs = css := by
          refine List.ext_getElem? fun q => ?_
          rw [List.getElem?_set]
          split
          · rename_i he; subst he
            rw [hcs, if_pos (by have := hels.length; omega)]
          · rfl
        rw [← hcs2]
        refine Els.mono ?_ (ElsH.shut (G1 := E2) (G2 := E) (G := fun k => E k ∨ E2 k) (fun k hk => .inr hk) (fun k hk => .inl hk) (fun k hk hk' => hd k hk' (.inr hk)) (by omega) hH' hm)
        rintro k (hk | hk)
        · exact ⟨.inl hk, fun hv => hd k hk (.inl ⟨hblk k hv, hv⟩)⟩
        · exact ⟨.inr (.inr hk), (e2 k hk).2⟩
  · exact ⟨E1, G2, fun _ => .inl, fun _ => .inr, fun k hk hk' => h3 k (e1 k hk).1 hk', hM, hr⟩
theorem SH.backEl {cs : List Value} {B : α → SP} {y : α} (h : SH F w0 w (Out d cs B :: El d cs y :: M)) : SH F w0 w (B y :: M) := by
  obtain ⟨hkp, G1, G2, h1, h2, h3, ⟨E, k1, k2, k3⟩, ⟨E1, E2, e1, e2, e3, hu, hr⟩⟩ := h
  refine ⟨hkp, fun k => E1 k ∨ E k, E2, ?_, fun k hk => h2 k (e2 k hk), ?_, k3 w (fun _ _ => rfl) E1 y (fun k hk hk' => h3 k (k1 k hk') (e1 k hk)) hu, hr⟩
  · rintro k (hk | hk)
    · exact h2 k (e1 k hk)
    · exact h1 k (k1 k hk)
  · rintro k (hk | hk) hk'
    · exact e3 k hk hk'
    · exact h3 k (k1 k hk) (e2 k hk')
/-- With something that hangs on nothing in its place. -/
theorem SH.backFree {cs : List Value} {B : α → SP} {y : α} (h : SH F w0 w (Out d cs B :: M)) (hy : MF d [] y cs) : SH F w0 w (B y :: M) := by
  refine SH.backEl (d := d) (cs := cs) ?_
  obtain ⟨hkp, G1, G2, h1, h2, h3, ho, hr⟩ := h
  exact ⟨hkp, G1, G2, h1, h2, h3, ho, fun _ => False, G2, fun _ h => h.elim, fun _ h => h, fun _ h => h.elim, hy _ _ trivial, hr⟩
end
section
variable {ρ : Option Nat} {Δ : List Deferred} {P : Program} {ops : Array Oper} {Q : Exit → Act → World → Prop} {a : Act} {w : World} {rest : List Oper} {N : Nat} {L : List (Nat × Value)}
variable {d ty : Nat} {pos : String} {af : Array Edge} {gd : Option (Nat × Bool)} {x y z : Operand}
variable {F : Nat → Prop} {w0 : World} {M : List SP}
/-- A type that is no interface's. -/
def NoItf (P : Program) (T : TypeId) : Prop := ∃ d, P.underlying T = some d ∧ ∀ ms, d ≠ .interface ms
theorem noitf_ptr {T e : TypeId} (h : P.underlying T = some (.pointer e)) : NoItf P T := ⟨_, h, fun _ e => by cases e⟩
theorem x_makeItf {T : TypeId} {v : Value} (hst : ST Δ N a L) (ht : NoItf P T) (hx : ev L x = some v) : Tell P a w (.makeInterface T x) (.iface T v) := fun o ho => by
  obtain ⟨dd, hu, hn⟩ := ht
  have : (Instr.makeInterface T v).run P w = .ok (.iface T v) w := by
    simp only [Instr.makeInterface, Sem.run_bind, run_underlying hu, Result.andThen_ok]
    cases dd <;> first | rfl | exact absurd rfl (hn _)
  simp [execOp, ho, hst.ev hx, this]
/-- The method of a type's values. -/
def MtOf (P : Program) (T : TypeId) (name : String) (f : FuncId) : Prop := ∀ (v : Value) (args : Array Value) (w : World), (callMethod (.iface T v) name args).run P w = .ok (.enter f (#[v] ++ args)) w
end
end Go.Proofs.Ytknedifgapgmbaa.Sy
namespace Go.Proofs.Ytknedifgapgmbaa.Sy
open Go
/-- What is done with an interface value that was read. -/
@[reducible] def Itf.on {α β : Type} (x : Itf α) (a : Option β) (f : α → Option β) : Option β := match x with
  | .nil => a
  | .out => none
  | .ptr y => f y
section
variable {ρ : Option Nat} {Δ : List Deferred} {P : Program} {ops : Array Oper} {Q : Exit → Act → World → Prop} {a : Act} {w : World} {rest : List Oper} {N : Nat} {L : List (Nat × Value)}
variable {d ty : Nat} {pos : String} {af : Array Edge} {gd : Option (Nat × Bool)} {x y z : Operand}
theorem eqv_i10 {t T : Nat} {ms} {v : Value} (ht : P.underlying t = some (.interface ms)) : EqV P t (.iface T v) .nilIface false := by
  have hq : ∀ d w, (Op.equalIn (d + 1) t (.iface T v) .nilIface).run P w = .ok false w := fun d w => by simp [Op.equalIn, run_underlying ht]
  have he : ∀ w, (Op.equal t (.iface T v) .nilIface).run P w = .ok false w := hq 9999
  exact ⟨⟨fun w => by simp [binOp, he], fun w => by simp [binOp, he]⟩, fun _ _ => rfl, fun _ _ => rfl⟩
/-- A nil interface value against the literal nil. -/
theorem x_eqVn {bo : BinOp} {b : Bool} {t1 t2 : Nat} {ms} (hst : ST Δ N a L) (ht : P.underlying t1 = some (.interface ms)) (hx : ev L x = some .nilIface)
    (hb : (match bo with | .eql => some true | .neq => some false | _ => none) = some b) : Tell P a w (.binOp bo t1 x (.const .nilIface) t2) (.bool b) := fun o ho => by
  have hq : ∀ d w, (Op.equalIn (d + 1) t1 .nilIface .nilIface).run P w = .ok true w := fun d w => by simp [Op.equalIn, run_underlying ht]
  have he : ∀ w, (Op.equal t1 .nilIface .nilIface).run P w = .ok true w := hq 9999
  have hn : a.eval (.const .nilIface) = .nilIface := rfl
  cases bo <;> simp only [Option.some.injEq, reduceCtorEq] at hb <;> subst hb
  · simp [execOp, ho, hst.ev hx, hn, eqGuard, binOp, he]
  · simp [execOp, ho, hst.ev hx, hn, eqGuard, binOp, he]
theorem x_nilCheckI {T : Nat} {v : Value} (hst : ST Δ N a L) (hx : ev L x = some (.iface T v)) : Tell P a w (.nilCheck x) (.iface T v) := fun o ho => by
  simp [execOp, ho, hst.ev hx]
theorem x_makeMth {name : String} {v : Value} (hst : ST Δ N a L) (hx : ev L x = some v) : Tell P a w (.makeFunc (.method name) #[x] #[]) (.func (.method name) #[v] #[]) := fun o ho => by
  simp [execOp, ho, hst.ev hx, Instr.makeFunc]
theorem run_callI {T : TypeId} {name : String} {f : FuncId} {v : Value} {vs : List Value} {xs : List Operand} {tt : Array TypeId} {xr : Operand} (hst : ST Δ N a L) (hx : ev L xr = some (.iface T v)) (hm : MtOf P T name f) (hargs : evs L xs = some vs) (o : Oper)
    (ho : o.op = .call { callee := .invoke xr name, args := xs.toArray, argTypes := tt }) : (execOp a.eval o).run P w = .ok (.enter f (v :: vs).toArray) w := by
  have he : Array.map a.eval xs.toArray = vs.toArray := by simp [evs_map hst hargs]
  simp only [execOp, ho, resolve, Sem.run_bind, Sem.run_pure, Result.andThen_ok, invoke, hst.ev hx, he]
  have := hm v vs.toArray w
  simpa using this
theorem run_callM {T : TypeId} {name : String} {f : FuncId} {v : Value} {vs : List Value} {xs : List Operand} {tt : Array TypeId} {xf : Operand} (hst : ST Δ N a L) (hx : ev L xf = some (.func (.method name) #[.iface T v] #[])) (hm : MtOf P T name f) (hargs : evs L xs = some vs) (o : Oper)
    (ho : o.op = .call { callee := .value xf, args := xs.toArray, argTypes := tt }) : (execOp a.eval o).run P w = .ok (.enter f (v :: vs).toArray) w := by
  have he : Array.map a.eval xs.toArray = vs.toArray := by simp [evs_map hst hargs]
  simp only [execOp, ho, resolve, Deferred.ofValue, Sem.run_bind, Sem.run_pure, Result.andThen_ok, invoke, hst.ev hx, he]
  have := hm v vs.toArray w
  simpa using this
variable {T : TypeId} {name : String} {f : FuncId} {v : Value} {vs : List Value} {xs : List Operand} {tt : Array TypeId} {xr xf : Operand} {R : Ending → World → Prop}
theorem r_callDI (hst : ST Δ N a L) (hw : Wt ops L gd) (hd : Nat.blt d N = true) (hx : ev L xr = some (.iface T v)) (hm : MtOf P T name f) (hf : FnOf P f) (hargs : evs L xs = some vs)
    (hc : Calls P f (v :: vs).toArray w R) (k : ∀ e w', R e w' → ∃ u, e = .returned u ∧ ∀ a, ST Δ N a ((d, u) :: L) → wpL ρ P ops Q rest a w') :
    wpL ρ P ops Q ({ dst := some d, op := .call { callee := .invoke xr name, args := xs.toArray, argTypes := tt }, type := ty, pos := pos, after := af, guard := gd } :: rest) a w := by
  refine wl_enter hst hw (run_callI hst hx hm hargs _ rfl) hc fun e w' hR => ?_
  obtain ⟨u, rfl, hk⟩ := k e w' hR
  exact ⟨u, rfl, hk _ (hst.put hd u)⟩
theorem r_callDM (hst : ST Δ N a L) (hw : Wt ops L gd) (hd : Nat.blt d N = true) (hx : ev L xf = some (.func (.method name) #[.iface T v] #[])) (hm : MtOf P T name f) (hf : FnOf P f) (hargs : evs L xs = some vs)
    (hc : Calls P f (v :: vs).toArray w R) (k : ∀ e w', R e w' → ∃ u, e = .returned u ∧ ∀ a, ST Δ N a ((d, u) :: L) → wpL ρ P ops Q rest a w') :
    wpL ρ P ops Q ({ dst := some d, op := .call { callee := .value xf, args := xs.toArray, argTypes := tt }, type := ty, pos := pos, after := af, guard := gd } :: rest) a w := by
  refine wl_enter hst hw (run_callM hst hx hm hargs _ rfl) hc fun e w' hR => ?_
  obtain ⟨u, rfl, hk⟩ := k e w' hR
  exact ⟨u, rfl, hk _ (hst.put hd u)⟩
end
end Go.Proofs.Ytknedifgapgmbaa.Sy
namespace Go.Proofs.Ytknedifgapgmbaa.Sy
open Go
section
variable {ρ : Option Nat} {P : Program} {ops : Array Oper} {E : World → Prop} {Q : Exit → Act → World → Prop}
end
end Go.Proofs.Ytknedifgapgmbaa.Sy
namespace Go.Proofs.Ytknedifgapgmbaa.Sy
open Go
section
variable {ρ : Option Nat} {Δ : List Deferred} {P : Program} {ops : Array Oper} {E B X X' : World → Prop} {Q : Exit → Act → World → Prop} {K : (World → Prop) → (World → Prop) → Act → Prop} {rest : List (Nat × Oper)} {a : Act} {N : Nat} {L : List (Nat × Value)}
variable {d ty : Nat} {pos : String} {af : Array Edge}
end
end Go.Proofs.Ytknedifgapgmbaa.Sy
namespace Go.Proofs.Ytknedifgapgmbaa.Sy
open Go
end Go.Proofs.Ytknedifgapgmbaa.Sy
