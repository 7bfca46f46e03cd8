import Derived.Test.YtbaemhkfmddakaaGreatSyJoin
set_option linter.unusedVariables false
set_option linter.unusedSectionVars false
namespace Go.Proofs.YtbaemhkfmddakaaGreat.Sy
open Go
def w64 (x : Int) : Int := IntKind.i64.wrap x
def w32 (x : Int) : Int := IntKind.i32.wrap x
def wu64 (x : Int) : Int := IntKind.u64.wrap x
def wu8 (x : Int) : Int := IntKind.u8.wrap x
theorem one_slice {v : Value} {n : Nat} (h : ∃ A c, v = .slice A n c) : v.oneCell' = true := by
  obtain ⟨A, c, rfl⟩ := h; rfl
section
variable {F : Nat → Prop} {w0 w : World} {M : List SP}
theorem SH.addNil {α : Type} (h : SH F w0 w M) (dk : Kd α) (e : TypeId) : SH F w0 w (Row dk e (.slice none 0 0) [] :: M) :=
  ⟨h.kp, fun _ => False, Mine F w0 w, fun _ h => h.elim, fun _ h => h, fun _ h => h.elim, Own.nil dk e _ w, h.sep⟩
theorem els_flat {α : Type} {sz : Nat} {enc : α → List Value} {hl h1} (G : Nat → Prop) (w : World) : ∀ xs : List α, Els (Kd.flat sz enc hl h1) G w xs (xs.map enc)
  | [] => trivial
  | x :: r => ⟨fun _ => False, G, fun _ h => h.elim, fun _ h => h, fun _ h => h.elim, rfl, els_flat G w r⟩
/-- A literal becomes a slice of the call's own. -/
theorem SH.boxRow {α : Type} {sz : Nat} {enc : α → List Value} {hl h1} {g n : Nat} {cs : List Value} {e : TypeId} (xs : List α) (h : SH F w0 w (Box g cs e :: M)) (hcs : cs = (xs.map enc).flatten) (hn : n = xs.length) (hm : Nat.ble n 16777216 = true) :
    SH F w0 w (Row (Kd.flat sz enc hl h1) e (.slice (some ⟨g, 0, none⟩) n n) xs :: M) := by
  obtain ⟨hk, G1, G2, k1, k2, k3, ⟨hg, hb⟩, hr⟩ := h
  have hm' := Nat.le_of_ble_eq_true hm
  refine ⟨hk, G1, G2, k1, k2, k3, .inr ⟨xs.map enc, ?_, ?_, els_flat _ w xs⟩, hr⟩
  · have hlen : (xs.map enc).flatten.length = xs.length * sz := by
      have := flatten_len (sz := sz) (css := xs.map enc) (fun c hc => by obtain ⟨x, _, rfl⟩ := List.mem_map.1 hc; exact hl x)
      rwa [List.length_map] at this
    subst hn
    subst hcs
    exact ⟨hlen, .inr ⟨g, xs.length, _, rfl, Nat.zero_le _, hb, Nat.le_refl _, by simp only [maxLen]; omega, by simpa [Kd.flat] using hlen, List.take_of_length_le (Nat.le_of_eq hlen)⟩⟩
  · intro k hk
    simp [Value.ownBlock] at hk
    subst hk
    exact hg
end
section
variable {ρ : Option Nat} {Δ : List Deferred} variable {P : Program} {ops : Array Oper} {Q : Exit → Act → World → Prop} {a : Act} {w : World} {rest : List Oper} {N : Nat} {L : List (Nat × Value)}
variable {d ty : Nat} {pos : String} {af : Array Edge} {gd : Option (Nat × Bool)} {x y z : Operand}
def evq (L : List (Nat × Value)) : List (Nat × Operand) → Option (List (Nat × Value))
  | [] => some []
  | p :: r => match ev L p.2, evq L r with
    | some v, some vs => some ((p.1, v) :: vs)
    | _, _ => none
theorem evq_map (hst : ST Δ N a L) : ∀ {ps : List (Nat × Operand)} {vs : List (Nat × Value)}, evq L ps = some vs → (ps.map fun p => (p.1, a.eval p.2)) = vs
  | [], vs, h => by simp only [evq, Option.some.injEq] at h; subst h; rfl
  | p :: r, vs, h => by
    simp only [evq] at h
    split at h
    · rename_i v vs' hv hvs
      injection h with h
      subst h
      simp [hst.ev hv, evq_map hst hvs]
    · cases h
theorem x_build {t : Nat} {parts : Array (Nat × Operand)} {vs : List (Nat × Value)} {cs : List Value} (hst : ST Δ N a L) (hp : evq L parts.toList = some vs) (hb : P.built t vs = some cs.toArray) :
    Tell P a w (.build t parts) (.agg cs.toArray) := fun o ho => by
  have hm : (parts.map fun x => match x with | (i, x) => (i, a.eval x)).toList = vs := by
    rw [Array.toList_map]; exact evq_map hst hp
  have := run_build (P := P) w t (parts.map fun x => match x with | (i, x) => (i, a.eval x)) cs.toArray (by rw [hm]; exact hb)
  simp only [execOp, ho, Sem.run_bind, this, Result.andThen_ok, Sem.run_pure]
theorem eqIn_str (n t : Nat) (p q : ByteArray) (ht : P.underlying t = some .string) (w : World) : (Op.equalIn (n + 1) t (.string p) (.string q)).run P w = .ok (sEq p q) w := by
  simp [Op.equalIn, run_underlying ht, sEq, beq_toListBytes]
theorem eqIn_int (n t : Nat) {k : IntKind} (p q : Int) (ht : P.underlying t = some (.int k)) (w : World) : (Op.equalIn (n + 1) t (.int k p) (.int k q)).run P w = .ok (p == q) w := by
  simp [Op.equalIn, run_underlying ht]
theorem eqf_nil {n : Nat} {xs ys : Array Value} {w : World} : (Op.eqFields n xs ys []).run P w = .ok true w := by simp [Op.eqFields]
theorem eqf_step {n : Nat} {xs ys : List Value} {f : Field} {fs : List Field} {de : TypeDesc} {u v : Value} {r s : Bool} {w : World} (hn : (f.name == "_") = false) (hd : P.underlying f.type = some de) (hr : de.isRow = false)
    (ha : xs[f.offset]? = some u) (hb : ys[f.offset]? = some v) (he : ∀ w, (Op.equalIn n f.type u v).run P w = .ok r w) (hrest : (Op.eqFields n xs.toArray ys.toArray fs).run P w = .ok s w) :
    (Op.eqFields n xs.toArray ys.toArray (f :: fs)).run P w = .ok (r && s) w := by
  have hn' : f.name ≠ "_" := by simpa using hn
  have pa : ∀ (zs : List Value) (z : Value), zs[f.offset]? = some z → (part f.type zs.toArray f.offset).run P w = .ok z w := fun zs z hz => by
    simp [part, isAgg_run hd, hr, hz]
  rw [Op.eqFields]
  simp only [if_pos hn', Sem.run_bind, pa xs u ha, pa ys v hb, he, Result.andThen_ok]
  cases r
  · simp
  · simpa using hrest
theorem eqA_of {n t : Nat} {fs : Array Field} {xs ys : List Value} {r : Bool} (hu : P.underlying t = some (.struct fs)) (hp : P.stoodInHeld t = false) (h : ∀ w, (Op.eqFields n xs.toArray ys.toArray fs.toList).run P w = .ok r w) (w : World) :
    (Op.equalIn (n + 1) t (.agg xs.toArray) (.agg ys.toArray)).run P w = .ok r w := by
  have hf : P.fieldsOf t = fs := by simp [Program.fieldsOf, hu]
  rw [run_equalIn_struct (P := P) w n t xs.toArray ys.toArray (by rw [hf]; exact hu) hp, hf]
  exact h w
def EqOf {α : Type} (P : Program) (t : Nat) (enc : α → List Value) (f : α → α → Bool) : Prop :=
  P.eqGuardType P.depth t = false ∧ ∀ x y w, (Op.equal t (.agg (enc x).toArray) (.agg (enc y).toArray)).run P w = .ok (f x y) w
theorem x_eqS {α : Type} {enc : α → List Value} {f : α → α → Bool} {x0 y0 : α} {t1 t2 : Nat} {b : Bool} (hst : ST Δ N a L) (he : EqOf P t1 enc f) (hx : ev L x = some (.agg (enc x0).toArray)) (hy : ev L y = some (.agg (enc y0).toArray)) (hb : f x0 y0 = b) :
    Tell P a w (.binOp .eql t1 x y t2) (.bool b) := fun o ho => by
    subst hb
    have h1 : (eqGuard .eql t1 x y (.agg (enc x0).toArray) (.agg (enc y0).toArray)).run P w = .ok () w := by simp [eqGuard, he.1]
    have h2 : (binOp .eql t1 (.agg (enc x0).toArray) (.agg (enc y0).toArray)).run P w = .ok (.bool (f x0 y0)) w := by simp [binOp, he.2]
    simp [execOp, ho, hst.ev hx, hst.ev hy, h1, h2]
end
end Go.Proofs.YtbaemhkfmddakaaGreat.Sy
