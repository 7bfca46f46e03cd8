import Derived.Test.YtbaemhkfmddakaaGreatSyPure
import Derived.Test.YtbaemhkfmddakaaGreatSyRow
set_option linter.unusedVariables false
set_option linter.unusedSectionVars false
set_option linter.unusedSimpArgs false
namespace Go.Proofs.YtbaemhkfmddakaaGreat.Sy
open Go
/-- Nothing that was there has turned. -/
def Rk (w w' : World) : Prop := Kp (fun _ => False) w w'
theorem Rk.refl (w : World) : Rk w w := Kp.refl _ w
theorem Rk.trans {a b c : World} (h : Rk a b) (k : Rk b c) : Rk a c := Kp.trans h k (fun _ h => h.elim)
def Shut (C : World → Prop) : Prop := ∀ w w', C w → Rk w w' → C w'
section
variable {ρ : Option Nat} {Δ : List Deferred} {P : Program} {ops : Array Oper} {md : Region.Mode} {C : World → Prop} {Q : Exit → Act → World → Prop}
/-- Told in every world of the class; what was there stays. -/
def rUpon (P : Program) (w : World) (v : Value) : Result Next → Prop
  | .ok (.value u) w' => w' = w ∧ u = v
  | .ok .skip w' => w' = w ∧ v = undef
  | .ok (.enter f args) w' => w' = w ∧ Calls P f args w (fun e w'' => e = .returned v ∧ Rk w w'')
  | _ => False
def rAt (P : Program) (o : Oper) (a : Act) (w : World) (v : Value) : Prop := rUpon P w v ((execOp a.eval o).run P w)
/-- What has come up is closed: with each operation those that it waits for. -/
def Closed (md : Region.Mode) (ops : Array Oper) (l : Array Bool) : Prop := ∀ j oj, ops[j]? = some oj → l.getD j false = true → ∀ e ∈ oj.after, Region.binds md e = true → l.getD e.on false = true
def YR (P : Program) (ops : Array Oper) (C : World → Prop) (o : Oper) (v : Value) (a : Act) : Prop :=
  (Region.wanted o (yielded ops a.tmps) = true ∧ ∀ w, C w → rAt P o a w v) ∨ (Region.wanted o (yielded ops a.tmps) = false ∧ v = undef)
/-- Before operation i has come up: some class. -/
def Ere (md : Region.Mode) (ops : Array Oper) (D : Array Bool → World → Prop) (i : Nat) : World → Prop := fun w => ∃ l, Closed md ops l ∧ l.getD i true = false ∧ D l w
theorem Closed.set {md : Region.Mode} {ops : Array Oper} {l : Array Bool} {i : Nat} (hc : Closed md ops l) (hi : i ∈ Region.ready md ops l) : Closed md ops (l.setIfInBounds i true) := by
  obtain ⟨_, oi, hoi, hall⟩ := mem_ready.1 hi
  intro j oj hj hl e he hb
  by_cases hij : i = j
  · subst hij
    have : oj = oi := Option.some.inj (hj.symm.trans hoi)
    subst this
    exact getD_set_true (hall e he hb)
  · rw [getD_set_ne false hij] at hl
    exact getD_set_true (hc j oj hj hl e he hb)
theorem YR.of_same {o : Oper} {v : Value} {a a' : Act} (hy : YR P ops C o v a) (he : execOp a'.eval o = execOp a.eval o)
    (hw : Region.wanted o (yielded ops a'.tmps) = Region.wanted o (yielded ops a.tmps)) : YR P ops C o v a' := by
  unfold YR rAt at *
  rw [he, hw]
  exact hy
theorem YR.wqOp {i : Nat} {o : Oper} {v : Value} {a : Act} {w : World} (hi : ops[i]? = some o) (hy : YR P ops C o v a) (hC : C w) {K : Act → World → Prop} (h : ∀ w', Rk w w' → K (a.put o.dst v) w') : wqOp ρ P ops Q i K a w := by
  unfold Sy.wqOp
  simp only [hi]
  rcases hy with ⟨hw, hv⟩ | ⟨hw, rfl⟩
  · simp only [hw, if_true]
    have h3 := hv w hC
    unfold rAt at h3
    unfold owq
    generalize (execOp a.eval o).run P w = r at *
    cases r with
    | ok n w' =>
      cases n <;> simp only [rUpon] at h3 <;> simp only [Oper.uponIn]
      case value u =>
        obtain ⟨e1, e2⟩ := h3
        rw [e1, e2]
        exact h _ (Rk.refl w)
      case skip =>
        obtain ⟨e1, e2⟩ := h3
        rw [e1, ← e2]
        exact h _ (Rk.refl w)
      case enter f args =>
        obtain ⟨e1, hc⟩ := h3
        rw [e1]
        exact ⟨fun h => (by cases h), callsIn_FW (hc.mono fun e w'' ⟨he, hw''⟩ => by subst he; exact h _ hw'')⟩
    | halt x w' => simp only [rUpon] at h3
  · simp only [hw, Bool.false_eq_true, if_false]; exact h _ (Rk.refl w)
/-- No panic: the rest after an operation that is let in. -/
theorem wqOp_putR {j : Nat} {oi oj : Oper} {v : Value} (hj : ops[j]? = some oj) (hap : oi.apart ops oj = true)
    (hsi : ∀ cs b, oi.op ≠ .select cs b) (hsj : ∀ cs b, oj.op ≠ .select cs b)
    (hQ : ∀ c a w, Q (.panic c) (a.put oi.dst v) w → Q (.panic c) a w) {K : Act → World → Prop} {a : Act} {w : World}
    (hy : YR P ops C oi v a) (h : wqOp ρ P ops Q j K (a.put oi.dst v) w) :
    wqOp ρ P ops Q j (fun a' w' => YR P ops C oi v a' ∧ K (a'.put oi.dst v) w') a w := by
  obtain ⟨h1, h2, h3⟩ := Oper.apart_spec hap
  have keep : ∀ (a : Act), YR P ops C oi v a → ∀ u, YR P ops C oi v (a.put oj.dst u) := fun a hy u =>
    hy.of_same (execOp_put oi hsi a oj.dst u h3) (wanted_put oi a oj.dst u h3)
  have keepD : ∀ d, YR P ops C oi v { a with defers := d :: a.defers } := fun d => hy.of_same rfl rfl
  unfold wqOp at *
  simp only [hj] at *
  rw [wanted_put oj a oi.dst v h1] at h
  split
  · rename_i hw
    simp only [hw, if_true] at h
    unfold owq at *
    rw [execOp_put oj hsj a oi.dst v h1] at h
    generalize (execOp a.eval oj).run P w = r at *
    cases r with
    | ok n w' =>
      cases n <;> simp only [Oper.uponIn] at h ⊢
      case value u => exact ⟨keep a hy u, by rw [← Act.put_comm a v u h2]; exact h⟩
      case skip => exact ⟨keep a hy _, by rw [← Act.put_comm a v undef h2]; exact h⟩
      case defer d =>
        refine ⟨keep _ (keepD d) _, ?_⟩
        rw [← Act.put_comm _ v undef h2, ← Act.put_defers]
        exact h
      case enter f args =>
        refine ⟨h.1, CallsIn.mono h.2 fun e w'' he => ?_⟩
        cases e with
        | returned u => exact ⟨keep a hy u, by rw [← Act.put_comm a v u h2]; exact he⟩
        | panicked c => exact hQ _ _ _ he
        | outgrown => exact he
      case row row args => exact ⟨h.1, RowsIn.mono h.2 fun u w'' he => ⟨keep a hy u, by rw [← Act.put_comm a v u h2]; exact he⟩⟩
      case round l f tmps assign body =>
        refine ⟨h.1, RoundIn.mono h.2 fun e w'' he => ?_⟩
        cases e with
        | returned u => exact ⟨keep a hy u, by rw [← Act.put_comm a v u h2]; exact he⟩
        | panicked c => exact hQ _ _ _ he
        | outgrown => exact he
    | halt x w' =>
      cases x <;> simp only [Oper.uponIn] at h ⊢
      case panic u => exact hQ _ _ _ h
  · rename_i hw
    simp only [hw] at h
    exact ⟨keep a hy _, by rw [← Act.put_comm a v undef h2]; exact h⟩
theorem getD_rep (n j : Nat) : (Array.replicate n false).getD j false = false := by
  by_cases h : j < n <;> simp [h]
/-- Whatever order is picked, however much has been drawn or laid meanwhile. -/
def wpR (ρ : Option Nat) (P : Program) (md : Region.Mode) (ops : Array Oper) (D : Array Bool → World → Prop) (Q : Exit → Act → World → Prop) : Nat → Array Bool → Act → World → Prop
  | 0, listed, a, w => Region.ready md ops listed = [] ∧ ∀ w', Rk w w' → Q .normal a w'
  | fuel + 1, listed, a, w =>
    (Region.ready md ops listed = [] → ∀ w', Rk w w' → Q .normal a w') ∧
    ∀ i ∈ Region.ready md ops listed, ∀ w', Rk w w' → wqOp ρ P ops Q i (fun a' w'' => D (listed.setIfInBounds i true) w'' ∧ wpR ρ P md ops D Q fuel (listed.setIfInBounds i true) a' w'') a w'
variable {D : Array Bool → World → Prop} {E : World → Prop}
theorem wpR_shut : ∀ {fuel : Nat} {listed : Array Bool} {a : Act} {w w' : World}, Rk w w' → wpR ρ P md ops D Q fuel listed a w → wpR ρ P md ops D Q fuel listed a w'
  | 0, _, _, _, _, hr, h => ⟨h.1, fun w'' k => h.2 w'' (hr.trans k)⟩
  | _ + 1, _, _, _, _, hr, h => ⟨fun h0 w'' k => h.1 h0 w'' (hr.trans k), fun i hi w'' k => h.2 i hi w'' (hr.trans k)⟩
theorem wpR_weak {D' : Array Bool → World → Prop} : ∀ {fuel : Nat} {listed : Array Bool} {a : Act} {w : World}, (∀ l w, (∀ j, listed.getD j false = true → l.getD j false = true) → D' l w → D l w) → wpR ρ P md ops D' Q fuel listed a w → wpR ρ P md ops D Q fuel listed a w
  | 0, _, _, _, _, h => h
  | _ + 1, listed, _, _, hC, h => ⟨h.1, fun i hi w' k => wqOp_mono (fun a' w'' h' =>
      ⟨hC _ _ (fun j hj => getD_set_true hj) h'.1, wpR_weak (fun l w hl hd => hC l w (fun j hj => hl j (getD_set_true hj)) hd) h'.2⟩) (h.2 i hi w' k)⟩
theorem wqAny_of_R : ∀ {fuel : Nat} {listed : Array Bool} {a : Act} {w : World}, wpR ρ P md ops D Q fuel listed a w → wqAny ρ P md ops Q fuel listed a w
  | 0, _, _, w, h => ⟨h.1, h.2 w (Rk.refl w)⟩
  | _ + 1, _, _, w, h => ⟨fun h0 => h.1 h0 w (Rk.refl w), fun i hi => wqOp_mono (fun a' w'' h' => wqAny_of_R h'.2) (h.2 i hi w (Rk.refl w))⟩
/-- A quiet operation that may come up now may be taken first. 'C': a class that holds before it has come up, and behind it. -/
theorem wpR_first (hS : ∀ l, Shut (D l)) {i : Nat} {oi : Oper} {v : Value} (hi : ops[i]? = some oi) (hsel : ∀ (j : Nat) (o : Oper) cs b, ops[j]? = some o → o.op ≠ .select cs b)
    (hQ : ∀ c a w, Q (.panic c) (a.put oi.dst v) w → Q (.panic c) a w) (hD : ∀ l w, D (l.setIfInBounds i true) w ↔ D l w) :
    ∀ (fuel : Nat) (listed : Array Bool) (a : Act) (w : World), Closed md ops listed → D listed w →
      (∀ j oj, ops[j]? = some oj → j ≠ i → listed.getD j true = false → (∀ e ∈ oj.after, Region.binds md e = true → e.on ≠ i) → oi.apart ops oj = true) →
      i ∈ Region.ready md ops listed → YR P ops (Ere md ops D i) oi v a →
      wpR ρ P md ops D Q fuel (listed.setIfInBounds i true) (a.put oi.dst v) w → wpR ρ P md ops D Q (fuel + 1) listed a w := by
  intro fuel
  induction fuel with
  | zero =>
    intro listed a w hcl hC _ hr hy H
    refine ⟨fun h => (by rw [h] at hr; cases hr), fun j hj w' hk => ?_⟩
    by_cases hji : j = i
    · subst hji
      have hu := (mem_ready.1 hr).1
      exact hy.wqOp hi ⟨listed, hcl, hu, hS _ _ _ hC hk⟩ fun w'' hk' => ⟨(hD _ _).2 (hS _ _ _ (hS _ _ _ hC hk) hk'), wpR_shut (hk.trans hk') H⟩
    · have := ready_mono hj hji
      rw [H.1] at this
      cases this
  | succ fuel ih =>
    intro listed a w hcl hC hfree hr hy H
    refine ⟨fun h => (by rw [h] at hr; cases hr), fun j hj w' hk => ?_⟩
    by_cases hji : j = i
    · subst hji
      have hu := (mem_ready.1 hr).1
      exact hy.wqOp hi ⟨listed, hcl, hu, hS _ _ _ hC hk⟩ fun w'' hk' => ⟨(hD _ _).2 (hS _ _ _ (hS _ _ _ hC hk) hk'), wpR_shut (hk.trans hk') H⟩
    · have h1 := H.2 j (ready_mono hj hji) w' hk
      obtain ⟨hjun, oj, hoj, hall⟩ := mem_ready.1 hj
      have hnot : ∀ e ∈ oj.after, Region.binds md e = true → e.on ≠ i := fun e he hb heq => by
        have h1 := hall e he hb
        have h0 := (mem_ready.1 hr).1
        rw [heq] at h1
        rcases Nat.lt_or_ge i listed.size with h' | h'
        · simp [h'] at h0 h1; rw [h0] at h1; cases h1
        · simp [Array.getElem?_eq_none h'] at h1
      have h2 := wqOp_putR hoj (hfree j oj hoj hji hjun hnot) (fun cs b => hsel i oi cs b hi) (fun cs b => hsel j oj cs b hoj) hQ hy h1
      have hfree' : ∀ k ok, ops[k]? = some ok → k ≠ i → (listed.setIfInBounds j true).getD k true = false →
          (∀ e ∈ ok.after, Region.binds md e = true → e.on ≠ i) → oi.apart ops ok = true := fun k ok hk hki hun hno => by
        refine hfree k ok hk hki ?_ hno
        by_cases hjk : j = k
        · subst hjk; exact hjun
        · rw [getD_set_ne true hjk] at hun; exact hun
      refine wqOp_mono (fun a' w'' h3 => ?_) h2
      have h4 := h3.2.1
      rw [Array.setIfInBounds_comm _ _ (Ne.symm hji)] at h4
      have h5 := (hD _ _).1 h4
      refine ⟨h5, ih (listed.setIfInBounds j true) a' w'' (hcl.set hj) h5 hfree' (ready_mono hr (Ne.symm hji)) h3.1 ?_⟩
      rw [Array.setIfInBounds_comm _ _ hji]
      exact h3.2.2
def nth : List Oper → Nat → Oper
  | [], _ => default
  | o :: _, 0 => o
  | _ :: l, n + 1 => nth l n
theorem nth_get : ∀ (l : List Oper) (n : Nat), n < l.length → l[n]? = some (nth l n)
  | [], n, h => by simp at h
  | o :: l, 0, _ => rfl
  | o :: l, n + 1, h => by simpa [nth] using nth_get l n (by simpa using h)
/-- The first operation of the script at which the class may turn: it waits for all. -/
def bar (d : Option Nat) : List (Nat × Nat) → Option Nat
  | [] => d
  | (2, i) :: _ => some i
  | _ :: s => bar d s
def waitsP (md : Region.Mode) (ops : Array Oper) : Nat → Nat → Nat → Bool
  | 0, _, _ => false
  | n + 1, b, i => match ops[b]? with
    | some ob => ob.after.any fun e => Region.binds md e && (e.on == i || waitsP md ops n e.on i)
    | none => false
def waitsB (md : Region.Mode) (ops : Array Oper) (b i : Nat) : Bool := b != i && waitsP md ops 6 b i
theorem waitsP_spec {md : Region.Mode} {ops : Array Oper} {l : Array Bool} (hcl : Closed md ops l) : ∀ (n b i : Nat), waitsP md ops n b i = true → l.getD b false = true → l.getD i false = true
  | 0, _, _, h, _ => by simp [waitsP] at h
  | n + 1, b, i, h, hl => by
    simp only [waitsP] at h
    split at h
    · rename_i ob hob
      obtain ⟨e, he, hbb⟩ := Array.any_eq_true'.1 h
      simp only [Bool.and_eq_true, Bool.or_eq_true, beq_iff_eq] at hbb
      have h1 := hcl b ob hob hl e he hbb.1
      rcases hbb.2 with h2 | h2
      · rw [← h2]; exact h1
      · exact waitsP_spec hcl n e.on i h2 h1
    · cases h
/-- The script is right: 0: a quiet operation; 1: the one that may come next; 2: the same, and it waits for all quiet ones. What has come up behind it. -/
def okQ (md : Region.Mode) (ops : Array Oper) (b : Option Nat) (i : Nat) (listed : Array Bool) : Bool :=
  decide (i < ops.size) && (Region.ready md ops listed).contains i && Region.free md ops listed i && (match b with | none => true | some b => waitsB md ops b i)
def okP (md : Region.Mode) (ops : Array Oper) (b : Option Nat) (i : Nat) (listed : Array Bool) : Bool :=
  decide (i < ops.size) && (Region.ready md ops listed).contains i && Region.free md ops listed i && (b != some i)
def okL (md : Region.Mode) (ops : Array Oper) (i : Nat) (listed : Array Bool) : Bool := decide (i < ops.size) && (Region.ready md ops listed == [i])
def scrB (md : Region.Mode) (ops : Array Oper) (d : Option Nat) : List (Nat × Nat) → Array Bool → Option (Array Bool)
  | [], listed => some listed
  | (0, i) :: s, listed => if okQ md ops (bar d s) i listed = true then scrB md ops d s (listed.setIfInBounds i true) else none
  | (3, i) :: s, listed => if okP md ops (bar d s) i listed = true then scrB md ops d s (listed.setIfInBounds i true) else none
  | (4, i) :: s, listed => if okP md ops (bar d s) i listed = true then scrB md ops d s (listed.setIfInBounds i true) else none
  | (_, i) :: s, listed => if okL md ops i listed = true then scrB md ops d s (listed.setIfInBounds i true) else none
def scr (l : List Oper) : List (Nat × Nat) → List (Nat × Oper)
  | [] => []
  | x :: s => (x.1, nth l x.2) :: scr l s
/-- What a class of worlds becomes. -/
def Turns (k : Nat) (C C' : World → Prop) : Prop := match k with | 2 => True | _ => ∀ w, C' w → C w
/-- A loud operation, and what is behind it. -/
def Ld (ρ : Option Nat) (P : Program) (ops : Array Oper) (E : World → Prop) (Q : Exit → Act → World → Prop) (n : Nat) (o : Oper) (T : (World → Prop) → (World → Prop) → Act → Prop) (B X : World → Prop) (a : Act) : Prop :=
  ∀ w, X w → (if Region.wanted o (yielded ops a.tmps) then owq o ρ P a w (fun a' w' => ∃ B' X', X' w' ∧ (∀ w, X' w → B' w) ∧ Turns n B B' ∧ (∀ w, B' w → E w) ∧ Shut B' ∧ Shut X' ∧ T B' X' a') Q
      else ∃ B' X', X' w ∧ (∀ w, X' w → B' w) ∧ Turns n B B' ∧ (∀ w, B' w → E w) ∧ Shut B' ∧ Shut X' ∧ T B' X' (a.put o.dst undef))
/-- The walk of the script: 'B': a class that stays; 'X': where the world is now; behind it 'K'. -/
def wpM (ρ : Option Nat) (P : Program) (ops : Array Oper) (E : World → Prop) (Q : Exit → Act → World → Prop) (K : (World → Prop) → (World → Prop) → Act → Prop) : List (Nat × Oper) → (World → Prop) → (World → Prop) → Act → Prop
  | [], B, X, a => K B X a
  | (0, o) :: s, B, X, a => if Region.wanted o (yielded ops a.tmps) then ∃ v, (∀ w, B w → rAt P o a w v) ∧ wpM ρ P ops E Q K s B X (a.put o.dst v) else wpM ρ P ops E Q K s B X (a.put o.dst undef)
  | (3, o) :: s, B, X, a => if Region.wanted o (yielded ops a.tmps) then ∃ v, (∀ w, rAt P o a w v) ∧ wpM ρ P ops E Q K s B X (a.put o.dst v) else wpM ρ P ops E Q K s B X (a.put o.dst undef)
  | (4, o) :: s, B, X, a => if Region.wanted o (yielded ops a.tmps) then ∃ v, (∀ w, E w → rAt P o a w v) ∧ wpM ρ P ops E Q K s B X (a.put o.dst v) else wpM ρ P ops E Q K s B X (a.put o.dst undef)
  | (k, o) :: s, B, X, a => Ld ρ P ops E Q k o (wpM ρ P ops E Q K s) B X a
def Dof (E : World → Prop) (b : Option Nat) (C : World → Prop) : Array Bool → World → Prop := fun l w => ((∃ i, b = some i ∧ l.getD i false = true) ∨ C w) ∧ E w
theorem Dof.shut {E : World → Prop} {b : Option Nat} {C : World → Prop} (hE : Shut E) (h : Shut C) (l : Array Bool) : Shut (Dof E b C l) := fun w w' hd hk => ⟨hd.1.imp id fun hc => h _ _ hc hk, hE _ _ hd.2 hk⟩
theorem getD_set_same {l : Array Bool} {i : Nat} (h : i < l.size) : (l.setIfInBounds i true).getD i false = true := by simp [h]
/-- A loud operation comes up. -/
theorem wqOp_of_Ld {l : List Oper} {T : (World → Prop) → (World → Prop) → Act → Prop} {C X : World → Prop} {a : Act} {w : World} {k j fuel : Nat} {d d' : Option Nat} {listed : Array Bool} (hlt : j < l.length) (hz : listed.size = l.length)
    (hd : k = 2 ∧ d = some j ∨ k ≠ 2 ∧ d = d') (hT : Shut X) (hX : X w)
    (hrec : ∀ C' X' a' w'', Shut C' → Shut X' → (∀ w, C' w → E w) → (∀ w, X' w → C' w) → X' w'' → T C' X' a' → wpR ρ P md l.toArray (Dof E d' C') Q fuel (listed.setIfInBounds j true) a' w'')
    (h : Ld ρ P l.toArray E Q k (nth l j) T C X a) : ∀ w', Rk w w' → wqOp ρ P l.toArray Q j (fun a' w'' => Dof E d C (listed.setIfInBounds j true) w'' ∧ wpR ρ P md l.toArray (Dof E d C) Q fuel (listed.setIfInBounds j true) a' w'') a w' := by
  intro w' hk
  have hi : l.toArray[j]? = some (nth l j) := by simpa using nth_get l j hlt
  have next : ∀ (a' : Act) (w'' : World), (∃ C' X', X' w'' ∧ (∀ w, X' w → C' w) ∧ Turns k C C' ∧ (∀ w, C' w → E w) ∧ Shut C' ∧ Shut X' ∧ T C' X' a') →
      Dof E d C (listed.setIfInBounds j true) w'' ∧ wpR ρ P md l.toArray (Dof E d C) Q fuel (listed.setIfInBounds j true) a' w'' := by
    rintro a' w'' ⟨C', X', h0, h01, h2, hCE, h3, h3', h4⟩
    have h1 := h01 _ h0
    have hin : (listed.setIfInBounds j true).getD j false = true := getD_set_same (by rw [hz]; exact hlt)
    have hr := hrec C' X' a' w'' h3 h3' hCE h01 h0 h4
    rcases hd with ⟨_, rfl⟩ | ⟨h2k, rfl⟩
    · exact ⟨⟨.inl ⟨j, rfl, hin⟩, hCE _ h1⟩, wpR_weak (fun l' w3 hl' hd => ⟨.inl ⟨j, rfl, hl' j hin⟩, hd.2⟩) hr⟩
    · have hsub : ∀ w, C' w → C w := by
        unfold Turns at h2
        split at h2
        · exact absurd rfl h2k
        · exact h2
      exact ⟨⟨.inr (hsub _ h1), hCE _ h1⟩, wpR_weak (fun l' w3 hl' hd => ⟨hd.1.imp id (hsub _), hd.2⟩) hr⟩
  have hx := h w' (hT _ _ hX hk)
  unfold wqOp
  simp only [hi]
  by_cases hw : Region.wanted (nth l j) (yielded l.toArray a.tmps) = true
  · rw [if_pos hw] at hx ⊢
    exact oper_wq_mono (fun a' w'' h => next a' w'' h) hx
  · rw [if_neg hw] at hx ⊢
    exact next _ _ hx
theorem wpR_of_M (hE : Shut E) {l : List Oper} {K : (World → Prop) → (World → Prop) → Act → Prop} {d : Option Nat} {n : Nat} {lf : Array Bool} (hs : Region.noSelect l.toArray = true) (hQ : ∀ c a w o v, Q (.panic c) (a.put o v) w → Q (.panic c) a w)
    (hK : ∀ C X a w, lf.size = l.length → Closed md l.toArray lf → Shut C → Shut X → (∀ w, C w → E w) → (∀ w, X w → C w) → X w → K C X a → wpR ρ P md l.toArray (Dof E d C) Q n lf a w) : ∀ (s : List (Nat × Nat)) (listed : Array Bool) (C X : World → Prop) (a : Act) (w : World), listed.size = l.length → Closed md l.toArray listed → Shut C → Shut X → (∀ w, C w → E w) → (∀ w, X w → C w) → X w →
    scrB md l.toArray d s listed = some lf → wpM ρ P l.toArray E Q K (scr l s) C X a → wpR ρ P md l.toArray (Dof E (bar d s) C) Q (n + s.length) listed a w
  | [], listed, C, X, a, w, hz, hcl, hS, hT, hCE, hXC, hX, hB, h => by
    simp only [scrB, Option.some.injEq] at hB
    subst hB
    exact hK C X a w hz hcl hS hT hCE hXC hX h
  | (0, i) :: s, listed, C, X, a, w, hz, hcl, hS, hT, hCE, hXC, hX, hB, h => by
    have hC := hXC w hX
    change (if okQ md l.toArray (bar d s) i listed = true then scrB md l.toArray d s (listed.setIfInBounds i true) else none) = some lf at hB
    by_cases hB0 : okQ md l.toArray (bar d s) i listed = true
    · rw [if_pos hB0] at hB
      simp only [okQ, Bool.and_eq_true, decide_eq_true_eq] at hB0
      obtain ⟨⟨⟨hlt, hr⟩, hf⟩, hbar⟩ := hB0
      have hi : l.toArray[i]? = some (nth l i) := by simpa using nth_get l i (by simpa using hlt)
      have hr' : i ∈ Region.ready md l.toArray listed := by simpa using hr
      have h' : ∃ v, YR P l.toArray C (nth l i) v a ∧ wpM ρ P l.toArray E Q K (scr l s) C X (a.put (nth l i).dst v) := by
        change (if Region.wanted (nth l i) (yielded l.toArray a.tmps) = true then ∃ v, (∀ w, C w → rAt P (nth l i) a w v) ∧ wpM ρ P l.toArray E Q K (scr l s) C X (a.put (nth l i).dst v) else wpM ρ P l.toArray E Q K (scr l s) C X (a.put (nth l i).dst undef)) at h
        by_cases hw : Region.wanted (nth l i) (yielded l.toArray a.tmps) = true
        · rw [if_pos hw] at h
          obtain ⟨v, h1, h2⟩ := h
          exact ⟨v, .inl ⟨hw, h1⟩, h2⟩
        · rw [if_neg hw] at h
          exact ⟨undef, .inr ⟨by simpa using hw, rfl⟩, h⟩
      obtain ⟨v, hy, hk⟩ := h'
      have hb : bar d ((0, i) :: s) = bar d s := rfl
      rw [hb]
      have hw1 : ∀ b, bar d s = some b → b ≠ i ∧ ∀ l', Closed md l.toArray l' → l'.getD b false = true → l'.getD i false = true := by
        intro b hbs
        rw [hbs] at hbar
        simp only [waitsB, Bool.and_eq_true, bne_iff_ne, ne_eq] at hbar
        exact ⟨hbar.1, fun l' hl' hb' => waitsP_spec hl' _ _ _ hbar.2 hb'⟩
      refine wpR_first (Dof.shut hE hS) hi (Region.noSelect_spec hs) (fun c a w => hQ c a w _ _) ?_ (n + s.length) listed a w hcl ⟨.inr hC, hCE _ hC⟩ (Region.free_spec hi hf) hr' ?_ (wpR_of_M hE hs hQ hK s _ C X _ w (by simpa using hz) (hcl.set hr') hS hT hCE hXC hX hB hk)
      · intro l' w'
        unfold Dof
        constructor
        · rintro ⟨⟨b, hb, hl⟩ | hc, he⟩
          · rw [getD_set_ne false (Ne.symm (hw1 b hb).1)] at hl
            exact ⟨.inl ⟨b, hb, hl⟩, he⟩
          · exact ⟨.inr hc, he⟩
        · rintro ⟨⟨b, hb, hl⟩ | hc, he⟩
          · exact ⟨.inl ⟨b, hb, by rw [getD_set_ne false (Ne.symm (hw1 b hb).1)]; exact hl⟩, he⟩
          · exact ⟨.inr hc, he⟩
      · rcases hy with ⟨h1, h2⟩ | h1
        · refine .inl ⟨h1, fun w' hE9 => h2 w' ?_⟩
          obtain ⟨l', hcl', hu, hd, _⟩ := hE9
          rcases hd with ⟨b, hb, hl⟩ | hc
          · exfalso
            have := (hw1 b hb).2 l' hcl' hl
            rcases Nat.lt_or_ge i l'.size with h' | h'
            · simp [h'] at hu this
              rw [hu] at this
              cases this
            · simp [Array.getElem?_eq_none h'] at this
          · exact hc
        · exact .inr h1
    · rw [if_neg hB0] at hB; cases hB
  | (3, i) :: s, listed, C, X, a, w, hz, hcl, hS, hT, hCE, hXC, hX, hB, h => by
    have hC := hXC w hX
    change (if okP md l.toArray (bar d s) i listed = true then scrB md l.toArray d s (listed.setIfInBounds i true) else none) = some lf at hB
    by_cases hB0 : okP md l.toArray (bar d s) i listed = true
    · rw [if_pos hB0] at hB
      simp only [okP, Bool.and_eq_true, decide_eq_true_eq] at hB0
      obtain ⟨⟨⟨hlt, hr⟩, hf⟩, hbar⟩ := hB0
      have hi : l.toArray[i]? = some (nth l i) := by simpa using nth_get l i (by simpa using hlt)
      have hr' : i ∈ Region.ready md l.toArray listed := by simpa using hr
      have h' : ∃ v, YR P l.toArray (fun _ => True) (nth l i) v a ∧ wpM ρ P l.toArray E Q K (scr l s) C X (a.put (nth l i).dst v) := by
        change (if Region.wanted (nth l i) (yielded l.toArray a.tmps) = true then ∃ v, (∀ w, rAt P (nth l i) a w v) ∧ wpM ρ P l.toArray E Q K (scr l s) C X (a.put (nth l i).dst v) else wpM ρ P l.toArray E Q K (scr l s) C X (a.put (nth l i).dst undef)) at h
        by_cases hw : Region.wanted (nth l i) (yielded l.toArray a.tmps) = true
        · rw [if_pos hw] at h
          obtain ⟨v, h1, h2⟩ := h
          exact ⟨v, .inl ⟨hw, fun w _ => h1 w⟩, h2⟩
        · rw [if_neg hw] at h
          exact ⟨undef, .inr ⟨by simpa using hw, rfl⟩, h⟩
      obtain ⟨v, hy, hk⟩ := h'
      have hb : bar d ((3, i) :: s) = bar d s := rfl
      rw [hb]
      have hw1 : ∀ b, bar d s = some b → b ≠ i := by
        intro b hbs e
        subst e
        rw [hbs] at hbar
        simp at hbar
      refine wpR_first (Dof.shut hE hS) hi (Region.noSelect_spec hs) (fun c a w => hQ c a w _ _) ?_ (n + s.length) listed a w hcl ⟨.inr hC, hCE _ hC⟩ (Region.free_spec hi hf) hr' ?_ (wpR_of_M hE hs hQ hK s _ C X _ w (by simpa using hz) (hcl.set hr') hS hT hCE hXC hX hB hk)
      · intro l' w'
        unfold Dof
        constructor
        · rintro ⟨⟨b, hb, hl⟩ | hc, he⟩
          · rw [getD_set_ne false (Ne.symm (hw1 b hb))] at hl
            exact ⟨.inl ⟨b, hb, hl⟩, he⟩
          · exact ⟨.inr hc, he⟩
        · rintro ⟨⟨b, hb, hl⟩ | hc, he⟩
          · exact ⟨.inl ⟨b, hb, by rw [getD_set_ne false (Ne.symm (hw1 b hb))]; exact hl⟩, he⟩
          · exact ⟨.inr hc, he⟩
      · rcases hy with ⟨h1, h2⟩ | h1
        · exact .inl ⟨h1, fun w' _ => h2 w' trivial⟩
        · exact .inr h1
    · rw [if_neg hB0] at hB; cases hB
  | (4, i) :: s, listed, C, X, a, w, hz, hcl, hS, hT, hCE, hXC, hX, hB, h => by
    have hC := hXC w hX
    change (if okP md l.toArray (bar d s) i listed = true then scrB md l.toArray d s (listed.setIfInBounds i true) else none) = some lf at hB
    by_cases hB0 : okP md l.toArray (bar d s) i listed = true
    · rw [if_pos hB0] at hB
      simp only [okP, Bool.and_eq_true, decide_eq_true_eq] at hB0
      obtain ⟨⟨⟨hlt, hr⟩, hf⟩, hbar⟩ := hB0
      have hi : l.toArray[i]? = some (nth l i) := by simpa using nth_get l i (by simpa using hlt)
      have hr' : i ∈ Region.ready md l.toArray listed := by simpa using hr
      have h' : ∃ v, YR P l.toArray E (nth l i) v a ∧ wpM ρ P l.toArray E Q K (scr l s) C X (a.put (nth l i).dst v) := by
        change (if Region.wanted (nth l i) (yielded l.toArray a.tmps) = true then ∃ v, (∀ w, E w → rAt P (nth l i) a w v) ∧ wpM ρ P l.toArray E Q K (scr l s) C X (a.put (nth l i).dst v) else wpM ρ P l.toArray E Q K (scr l s) C X (a.put (nth l i).dst undef)) at h
        by_cases hw : Region.wanted (nth l i) (yielded l.toArray a.tmps) = true
        · rw [if_pos hw] at h
          obtain ⟨v, h1, h2⟩ := h
          exact ⟨v, .inl ⟨hw, h1⟩, h2⟩
        · rw [if_neg hw] at h
          exact ⟨undef, .inr ⟨by simpa using hw, rfl⟩, h⟩
      obtain ⟨v, hy, hk⟩ := h'
      have hb : bar d ((4, i) :: s) = bar d s := rfl
      rw [hb]
      have hw1 : ∀ b, bar d s = some b → b ≠ i := by
        intro b hbs e
        subst e
        rw [hbs] at hbar
        simp at hbar
      refine wpR_first (Dof.shut hE hS) hi (Region.noSelect_spec hs) (fun c a w => hQ c a w _ _) ?_ (n + s.length) listed a w hcl ⟨.inr hC, hCE _ hC⟩ (Region.free_spec hi hf) hr' ?_ (wpR_of_M hE hs hQ hK s _ C X _ w (by simpa using hz) (hcl.set hr') hS hT hCE hXC hX hB hk)
      · intro l' w'
        unfold Dof
        constructor
        · rintro ⟨⟨b, hb, hl⟩ | hc, he⟩
          · rw [getD_set_ne false (Ne.symm (hw1 b hb))] at hl
            exact ⟨.inl ⟨b, hb, hl⟩, he⟩
          · exact ⟨.inr hc, he⟩
        · rintro ⟨⟨b, hb, hl⟩ | hc, he⟩
          · exact ⟨.inl ⟨b, hb, by rw [getD_set_ne false (Ne.symm (hw1 b hb))]; exact hl⟩, he⟩
          · exact ⟨.inr hc, he⟩
      · rcases hy with ⟨h1, h2⟩ | h1
        · refine .inl ⟨h1, fun w' hE9 => h2 w' ?_⟩
          obtain ⟨l', hcl', hu, hd, he⟩ := hE9
          exact he
        · exact .inr h1
    · rw [if_neg hB0] at hB; cases hB
  | (1, i) :: s, listed, C, X, a, w, hz, hcl, hS, hT, hCE, hXC, hX, hB, h => by
    change (if okL md l.toArray i listed = true then scrB md l.toArray d s (listed.setIfInBounds i true) else none) = some lf at hB
    by_cases hB0 : okL md l.toArray i listed = true
    · rw [if_pos hB0] at hB
      simp only [okL, Bool.and_eq_true, decide_eq_true_eq] at hB0
      obtain ⟨hlt, hr⟩ := hB0
      have hr' : Region.ready md l.toArray listed = [i] := by simpa using hr
      have hri : i ∈ Region.ready md l.toArray listed := by rw [hr']; simp
      show wpR ρ P md l.toArray (Dof E (bar d ((1, i) :: s)) C) Q (n + s.length + 1) listed a w
      refine And.intro (fun h0 => by rw [hr'] at h0; cases h0) fun j hj => ?_
      obtain rfl : j = i := by rw [hr'] at hj; simpa using hj
      exact wqOp_of_Ld (k := 1) (d' := bar d s) (by simpa using hlt) hz (.inr ⟨by omega, rfl⟩) hT hX (fun C' X' a' w'' h3 h3' hce h01 h0 h4 => wpR_of_M hE hs hQ hK s _ C' X' a' w'' (by simpa using hz) (hcl.set hri) h3 h3' hce h01 h0 hB h4) h
    · rw [if_neg hB0] at hB; cases hB
  | (2, i) :: s, listed, C, X, a, w, hz, hcl, hS, hT, hCE, hXC, hX, hB, h => by
    change (if okL md l.toArray i listed = true then scrB md l.toArray d s (listed.setIfInBounds i true) else none) = some lf at hB
    by_cases hB0 : okL md l.toArray i listed = true
    · rw [if_pos hB0] at hB
      simp only [okL, Bool.and_eq_true, decide_eq_true_eq] at hB0
      obtain ⟨hlt, hr⟩ := hB0
      have hr' : Region.ready md l.toArray listed = [i] := by simpa using hr
      have hri : i ∈ Region.ready md l.toArray listed := by rw [hr']; simp
      show wpR ρ P md l.toArray (Dof E (bar d ((2, i) :: s)) C) Q (n + s.length + 1) listed a w
      refine And.intro (fun h0 => by rw [hr'] at h0; cases h0) fun j hj => ?_
      obtain rfl : j = i := by rw [hr'] at hj; simpa using hj
      exact wqOp_of_Ld (k := 2) (d' := bar d s) (by simpa using hlt) hz (.inl ⟨rfl, rfl⟩) hT hX (fun C' X' a' w'' h3 h3' hce h01 h0 h4 => wpR_of_M hE hs hQ hK s _ C' X' a' w'' (by simpa using hz) (hcl.set hri) h3 h3' hce h01 h0 hB h4) h
    · rw [if_neg hB0] at hB; cases hB
  | (k + 5, i) :: s, listed, C, X, a, w, hz, hcl, hS, hT, hCE, hXC, hX, hB, h => by
    change (if okL md l.toArray i listed = true then scrB md l.toArray d s (listed.setIfInBounds i true) else none) = some lf at hB
    by_cases hB0 : okL md l.toArray i listed = true
    · rw [if_pos hB0] at hB
      simp only [okL, Bool.and_eq_true, decide_eq_true_eq] at hB0
      obtain ⟨hlt, hr⟩ := hB0
      have hr' : Region.ready md l.toArray listed = [i] := by simpa using hr
      have hri : i ∈ Region.ready md l.toArray listed := by rw [hr']; simp
      show wpR ρ P md l.toArray (Dof E (bar d ((k + 5, i) :: s)) C) Q (n + s.length + 1) listed a w
      refine And.intro (fun h0 => by rw [hr'] at h0; cases h0) fun j hj => ?_
      obtain rfl : j = i := by rw [hr'] at hj; simpa using hj
      exact wqOp_of_Ld (k := k + 5) (d' := bar d s) (by simpa using hlt) hz (.inr ⟨by omega, rfl⟩) hT hX (fun C' X' a' w'' h3 h3' hce h01 h0 h4 => wpR_of_M hE hs hQ hK s _ C' X' a' w'' (by simpa using hz) (hcl.set hri) h3 h3' hce h01 h0 hB h4) h
    · rw [if_neg hB0] at hB; cases hB
/-- Scripts that part: behind 's' just 'i' and 'j' may come next. -/
inductive Tr where
  | fin (s : List (Nat × Nat))
  | alt (s : List (Nat × Nat)) (i j : Nat) (t u : Tr)
  | alt3 (s : List (Nat × Nat)) (i j m : Nat) (t u v : Tr)
def Tr.bar : Tr → Option Nat
  | .fin s => Sy.bar none s
  | .alt s _ _ t _ => Sy.bar t.bar s
  | .alt3 s _ _ _ t _ _ => Sy.bar t.bar s
def Tr.len : Tr → Nat
  | .fin s => s.length
  | .alt s _ _ t _ => t.len + 1 + s.length
  | .alt3 s _ _ _ t _ _ => t.len + 1 + s.length
def Tr.ok (md : Region.Mode) (ops : Array Oper) : Tr → Array Bool → Bool
  | .fin s, l => match scrB md ops none s l with
    | some lf => (Region.ready md ops lf).isEmpty
    | none => false
  | .alt s i j t u, l => match scrB md ops t.bar s l with
    | some lf => (Region.ready md ops lf == [i, j]) && decide (i < ops.size) && decide (j < ops.size) && (t.bar == u.bar) && (t.len == u.len) && t.ok md ops (lf.setIfInBounds i true) && u.ok md ops (lf.setIfInBounds j true)
    | none => false
  | .alt3 s i j m t u v, l => match scrB md ops t.bar s l with
    | some lf => (Region.ready md ops lf == [i, j, m]) && decide (i < ops.size) && decide (j < ops.size) && decide (m < ops.size) && (t.bar == u.bar) && (t.len == u.len) && (t.bar == v.bar) && (t.len == v.len) && t.ok md ops (lf.setIfInBounds i true) && u.ok md ops (lf.setIfInBounds j true) && v.ok md ops (lf.setIfInBounds m true)
    | none => false
def Fin (Q : Exit → Act → World → Prop) : (World → Prop) → (World → Prop) → Act → Prop := fun _ X a => ∀ w, X w → Q .normal a w
def wpT (ρ : Option Nat) (P : Program) (E : World → Prop) (l : List Oper) (Q : Exit → Act → World → Prop) : Tr → (World → Prop) → (World → Prop) → Act → Prop
  | .fin s => wpM ρ P l.toArray E Q (Fin Q) (scr l s)
  | .alt s i j t u => wpM ρ P l.toArray E Q (fun B X a => Ld ρ P l.toArray E Q 1 (nth l i) (wpT ρ P E l Q t) B X a ∧ Ld ρ P l.toArray E Q 1 (nth l j) (wpT ρ P E l Q u) B X a) (scr l s)
  | .alt3 s i j m t u v => wpM ρ P l.toArray E Q (fun B X a => Ld ρ P l.toArray E Q 1 (nth l i) (wpT ρ P E l Q t) B X a ∧ Ld ρ P l.toArray E Q 1 (nth l j) (wpT ρ P E l Q u) B X a ∧ Ld ρ P l.toArray E Q 1 (nth l m) (wpT ρ P E l Q v) B X a) (scr l s)
theorem wpR_of_T (hE : Shut E) {l : List Oper} (hs : Region.noSelect l.toArray = true) (hQ : ∀ c a w o v, Q (.panic c) (a.put o v) w → Q (.panic c) a w) : ∀ (t : Tr) (listed : Array Bool) (C X : World → Prop) (a : Act) (w : World), listed.size = l.length → Closed md l.toArray listed → Shut C → Shut X → (∀ w, C w → E w) → (∀ w, X w → C w) → X w →
    t.ok md l.toArray listed = true → wpT ρ P E l Q t C X a → wpR ρ P md l.toArray (Dof E t.bar C) Q t.len listed a w
  | .fin s, listed, C, X, a, w, hz, hcl, hS, hT, hCE, hXC, hX, hB, h => by
    simp only [Tr.ok] at hB
    split at hB
    · rename_i lf hlf
      have := wpR_of_M (n := 0) (K := Fin Q) hE hs hQ (lf := lf) (d := none) (fun C X a w _ _ _ hT _ _ hX hK => ⟨by simpa [List.isEmpty_iff] using hB, fun w' hk => hK w' (hT _ _ hX hk)⟩) s listed C X a w hz hcl hS hT hCE hXC hX hlf h
      rw [Nat.zero_add] at this
      exact this
    · cases hB
  | .alt s i j t u, listed, C, X, a, w, hz, hcl, hS, hT, hCE, hXC, hX, hB, h => by
    simp only [Tr.ok] at hB
    split at hB
    · rename_i lf hlf
      simp only [Bool.and_eq_true, beq_iff_eq, decide_eq_true_eq] at hB
      obtain ⟨⟨⟨⟨⟨⟨hr, hi⟩, hj⟩, hbu⟩, hlu⟩, ht⟩, hu⟩ := hB
      refine wpR_of_M (n := t.len + 1) (lf := lf) (d := t.bar) hE hs hQ ?_ s listed C X a w hz hcl hS hT hCE hXC hX hlf h
      rintro C X a w hz hcl hS hT hCE hXC hX ⟨k1, k2⟩
      refine And.intro (fun h0 => by rw [hr] at h0; cases h0) fun q hq => ?_
      have hq' : q = i ∨ q = j := by rw [hr] at hq; simpa using hq
      rcases hq' with rfl | rfl
      · exact wqOp_of_Ld (k := 1) (d' := t.bar) (by simpa using hi) hz (.inr ⟨by omega, rfl⟩) hT hX (fun C' X' a' w'' h3 h3' hce h01 h0 h4 => wpR_of_T hE hs hQ t _ C' X' a' w'' (by simpa using hz) (hcl.set hq) h3 h3' hce h01 h0 ht h4) k1
      · refine wqOp_of_Ld (k := 1) (d' := t.bar) (by simpa using hj) hz (.inr ⟨by omega, rfl⟩) hT hX (fun C' X' a' w'' h3 h3' hce h01 h0 h4 => ?_) k2
        have := wpR_of_T hE hs hQ u _ C' X' a' w'' (by simpa using hz) (hcl.set hq) h3 h3' hce h01 h0 hu h4
        rw [← hbu, ← hlu] at this
        exact this
    · cases hB
  | .alt3 s i j m t u v, listed, C, X, a, w, hz, hcl, hS, hT, hCE, hXC, hX, hB, h => by
    simp only [Tr.ok] at hB
    split at hB
    · rename_i lf hlf
      simp only [Bool.and_eq_true, beq_iff_eq, decide_eq_true_eq] at hB
      obtain ⟨⟨⟨⟨⟨⟨⟨⟨⟨⟨hr, hi⟩, hj⟩, hm⟩, hbu⟩, hlu⟩, hbv⟩, hlv⟩, ht⟩, hu⟩, hv⟩ := hB
      refine wpR_of_M (n := t.len + 1) (lf := lf) (d := t.bar) hE hs hQ ?_ s listed C X a w hz hcl hS hT hCE hXC hX hlf h
      rintro C X a w hz hcl hS hT hCE hXC hX ⟨k1, k2, k3⟩
      refine And.intro (fun h0 => by rw [hr] at h0; cases h0) fun q hq => ?_
      have hq' : q = i ∨ q = j ∨ q = m := by rw [hr] at hq; simpa using hq
      rcases hq' with rfl | rfl | rfl
      · exact wqOp_of_Ld (k := 1) (d' := t.bar) (by simpa using hi) hz (.inr ⟨by omega, rfl⟩) hT hX (fun C' X' a' w'' h3 h3' hce h01 h0 h4 => wpR_of_T hE hs hQ t _ C' X' a' w'' (by simpa using hz) (hcl.set hq) h3 h3' hce h01 h0 ht h4) k1
      · refine wqOp_of_Ld (k := 1) (d' := t.bar) (by simpa using hj) hz (.inr ⟨by omega, rfl⟩) hT hX (fun C' X' a' w'' h3 h3' hce h01 h0 h4 => ?_) k2
        have := wpR_of_T hE hs hQ u _ C' X' a' w'' (by simpa using hz) (hcl.set hq) h3 h3' hce h01 h0 hu h4
        rw [← hbu, ← hlu] at this
        exact this
      · refine wqOp_of_Ld (k := 1) (d' := t.bar) (by simpa using hm) hz (.inr ⟨by omega, rfl⟩) hT hX (fun C' X' a' w'' h3 h3' hce h01 h0 h4 => ?_) k3
        have := wpR_of_T hE hs hQ v _ C' X' a' w'' (by simpa using hz) (hcl.set hq) h3 h3' hce h01 h0 hv h4
        rw [← hbv, ← hlv] at this
        exact this
    · cases hB
def Qn (Q : Exit → Act → World → Prop) : Exit → Act → World → Prop := fun e a w => e = .normal ∧ Q .normal a w
theorem wq_region_t {id : Nat} {l : List Oper} {a : Act} {w : World} (hp : Plain ρ l) (t : Tr) (E B X : World → Prop) (hE : Shut E) (hS : Shut B) (hT : Shut X) (hBE : ∀ w, B w → E w) (hXB : ∀ w, X w → B w) (hX : X w.drew) (hm : P.follows .mixedOrders = true)
    (hB : (Region.noSelect l.toArray && (t.len == l.length) && t.ok .any l.toArray (Array.replicate l.length false)) = true) (h : wpT ρ P E l (Qn Q) t B X a) : wq (Code.region id l.toArray true) ρ P Q a w := by
  simp only [Bool.and_eq_true, beq_iff_eq] at hB
  obtain ⟨⟨h1, h2⟩, h3⟩ := hB
  refine wq_mono (Q := Qn Q) (fun e a w hq => by obtain ⟨rfl, h⟩ := hq; exact h) ?_
  refine wq_region_any (ops := l.toArray) (by simpa using hp) hm (wqAny_of_R (D := Dof E t.bar B) ?_)
  have := wpR_of_T (md := .any) (P := P) (Q := Qn Q) hE h1 (fun c a w o v hq => by obtain ⟨h, _⟩ := hq; cases h) t (Array.replicate l.length false) B X a w.drew (by simp)
    (by intro j oj _ hl; rw [getD_rep] at hl; cases hl) hS hT hBE hXB hX h3 h
  rw [h2] at this
  simpa using this
theorem wq_region_m {id : Nat} {l : List Oper} {a : Act} {w : World} (hp : Plain ρ l) (s : List (Nat × Nat)) (B X : World → Prop) (hS : Shut B) (hT : Shut X) (hXB : ∀ w, X w → B w) (hX : X w.drew) (hm : P.follows .mixedOrders = true)
    (hB : (Region.noSelect l.toArray && ((Tr.fin s).len == l.length) && (Tr.fin s).ok .any l.toArray (Array.replicate l.length false)) = true) (h : wpM ρ P l.toArray B (Qn Q) (Fin (Qn Q)) (scr l s) B X a) : wq (Code.region id l.toArray true) ρ P Q a w :=
  wq_region_t hp (.fin s) B B X hS hS hT (fun _ h => h) hXB hX hm hB h
end
theorem shut_sh (F : Nat → Prop) (w0 : World) (M : List SP) : Shut (fun w' => SH F w0 w' M) := fun w w' h hk => by
  have := h.call0 (L' := []) ⟨hk, trivial⟩
  simpa using this
section
variable {ρ : Option Nat} {Δ : List Deferred} {P : Program} {ops : Array Oper} {E B X : World → Prop} {Q : Exit → Act → World → Prop} {K : (World → Prop) → (World → Prop) → Act → Prop} {T : (World → Prop) → (World → Prop) → Act → Prop} {a : Act} {w : World} {rest : List (Nat × Oper)} {N : Nat} {L : List (Nat × Value)}
variable {d ty : Nat} {pos : String} {af : Array Edge} {g : Option (Nat × Bool)} {x y z : Operand}
theorem m_t {op : Op} {v : Value} (hst : ST Δ N a L) (hw : Wt ops L g) (hd : Nat.blt d N = true) (h : ∀ w, B w → Tell P a w op v)
    (k : ∀ a, ST Δ N a ((d, v) :: L) → wpM ρ P ops E Q K rest B X a) : wpM ρ P ops E Q K ((0, { dst := some d, op := op, type := ty, pos := pos, after := af, guard := g }) :: rest) B X a := by
  show (if Region.wanted _ (yielded ops a.tmps) = true then ∃ v, (∀ w, B w → rAt P _ a w v) ∧ wpM ρ P ops E Q K rest B X (a.put (some d) v) else wpM ρ P ops E Q K rest B X (a.put (some d) undef))
  rw [if_pos (wanted_of hst hw)]
  refine ⟨v, fun w hC => ?_, k _ (hst.put hd v)⟩
  unfold rAt
  rw [h w hC _ rfl]
  exact ⟨rfl, rfl⟩
theorem m_p {op : Op} {v : Value} (hst : ST Δ N a L) (hw : Wt ops L g) (hd : Nat.blt d N = true) (h : ∀ w, Tell P a w op v)
    (k : ∀ a, ST Δ N a ((d, v) :: L) → wpM ρ P ops E Q K rest B X a) : wpM ρ P ops E Q K ((3, { dst := some d, op := op, type := ty, pos := pos, after := af, guard := g }) :: rest) B X a := by
  show (if Region.wanted _ (yielded ops a.tmps) = true then ∃ v, (∀ w, rAt P _ a w v) ∧ wpM ρ P ops E Q K rest B X (a.put (some d) v) else wpM ρ P ops E Q K rest B X (a.put (some d) undef))
  rw [if_pos (wanted_of hst hw)]
  refine ⟨v, fun w => ?_, k _ (hst.put hd v)⟩
  unfold rAt
  rw [h w _ rfl]
  exact ⟨rfl, rfl⟩
theorem m_call {f : FuncId} {xs : List Operand} {vs : List Value} {tt : Array TypeId} {v : Value} (hst : ST Δ N a L) (hw : Wt ops L g) (hd : Nat.blt d N = true) (hf : FnOf P f) (hargs : evs L xs = some vs)
    (hc : ∀ w, B w → Calls P f vs.toArray w (fun e w'' => e = .returned v ∧ SH (fun _ => False) w w'' []))
    (k : ∀ a, ST Δ N a ((d, v) :: L) → wpM ρ P ops E Q K rest B X a) : wpM ρ P ops E Q K ((0, { dst := some d, op := .call { callee := .value (.func f), args := xs.toArray, argTypes := tt }, type := ty, pos := pos, after := af, guard := g }) :: rest) B X a := by
  show (if Region.wanted _ (yielded ops a.tmps) = true then ∃ v, (∀ w, B w → rAt P _ a w v) ∧ wpM ρ P ops E Q K rest B X (a.put (some d) v) else wpM ρ P ops E Q K rest B X (a.put (some d) undef))
  rw [if_pos (wanted_of hst hw)]
  refine ⟨v, fun w hC => ?_, k _ (hst.put hd v)⟩
  have hrun : ∀ o : Oper, o.op = .call { callee := .value (.func f), args := xs.toArray, argTypes := tt } → (execOp a.eval o).run P w = .ok (.enter f vs.toArray) w := fun o ho => by
    simp only [execOp, ho, resolve, Deferred.ofValue, Act.eval, Sem.run_bind, Sem.run_pure, Result.andThen_ok, invoke]
    have : (#[] : Array Value) ++ Array.map a.eval xs.toArray ++ #[] = vs.toArray := by simp [evs_map hst hargs]
    rw [this]
    exact callFunc_run hf _
  unfold rAt
  rw [hrun _ rfl]
  exact ⟨rfl, (hc w hC).mono fun e w' ⟨h1, h2⟩ => ⟨h1, h2.kp⟩⟩
/-- Behind a loud operation. -/
def Ql (E : World → Prop) (T : (World → Prop) → (World → Prop) → Act → Prop) (n : Nat) (B : World → Prop) : Exit → Act → World → Prop :=
  fun e a' w' => e = .normal ∧ ∃ B' X', X' w' ∧ (∀ w, X' w → B' w) ∧ Turns n B B' ∧ (∀ w, B' w → E w) ∧ Shut B' ∧ Shut X' ∧ T B' X' a'
theorem ld_loud {n : Nat} {o : Oper} (h : ∀ w, X w → wpL ρ P ops (Ql E T n B) [o] a w) : Ld ρ P ops E Q n o T B X a := by
  intro w hC
  have hx := h w hC
  unfold wpL at hx
  by_cases hw : Region.wanted o (yielded ops a.tmps) = true
  · rw [if_pos hw] at hx ⊢
    unfold owq at *
    generalize (execOp a.eval o).run P w = r at *
    cases r with
    | ok n w' =>
      cases n <;> simp only [Oper.uponIn] at hx ⊢ <;>
        first
          | exact hx.2
          | exact ⟨hx.1, CallsIn.mono hx.2 (fun e w'' he => by
              cases e with
              | returned v => exact he.2
              | panicked c => exact absurd he.1 (fun h => by cases h)
              | outgrown =>
                obtain ⟨a1, w1, h1, _⟩ := he
                cases h1)⟩
          | exact ⟨hx.1, RowsIn.mono hx.2 (fun _ _ he => he.2)⟩
          | exact ⟨hx.1, RoundIn.mono hx.2 (fun e w'' he => by
              cases e with
              | returned v => exact he.2
              | panicked c => exact absurd he.1 (fun h => by cases h)
              | outgrown =>
                obtain ⟨a1, w1, h1, _⟩ := he
                cases h1)⟩
    | halt x w' => cases x <;> simp only [Oper.uponIn] at hx ⊢ <;> first | exact hx | (obtain ⟨h1, _⟩ := hx; cases h1) | (obtain ⟨_, _, h1, _⟩ := hx; cases h1)
  · rw [if_neg hw] at hx ⊢
    exact hx.2
theorem m_loud {n : Nat} {o : Oper} (hn : n = 1 ∨ n = 2) (h : ∀ w, X w → wpL ρ P ops (Ql E (wpM ρ P ops E Q K rest) n B) [o] a w) : wpM ρ P ops E Q K ((n, o) :: rest) B X a := by
  rcases hn with rfl | rfl
  · exact ld_loud h
  · exact ld_loud h
theorem m_on {n : Nat} {F : Nat → Prop} {w0 : World} {M MX MB : List SP} (σ τ : List Nat) (hp : picks MX σ = MB) (hq : picks MB τ = M) (hsh : SH F w0 w MX) (hB : B = fun w' => SH F w0 w' M) (hBE : ∀ w, B w → E w)
    (k : T (fun w' => SH F w0 w' MB) (fun w' => SH F w0 w' MX) a) : wpL ρ P ops (Ql E T n B) [] a w := by
  subst hB
  have hτ : ∀ w, SH F w0 w MB → SH F w0 w M := fun w h => by
    have := h.pick τ
    rw [hq] at this
    exact this
  refine ⟨rfl, _, _, hsh, ?_, ?_, fun w h => hBE w (hτ w h), shut_sh _ _ _, shut_sh _ _ _, k⟩
  · intro w h
    have := h.pick σ
    rw [hp] at this
    exact this
  · unfold Turns
    split
    · trivial
    · exact hτ
theorem m_turn {F : Nat → Prop} {w0 : World} {MX : List SP} (hsh : SH F w0 w MX) (hXE : ∀ w, SH F w0 w MX → E w)
    (k : T (fun w' => SH F w0 w' MX) (fun w' => SH F w0 w' MX) a) : wpL ρ P ops (Ql E T (1 + 1) B) [] a w :=
  ⟨rfl, _, _, hsh, fun _ h => h, trivial, hXE, shut_sh _ _ _, shut_sh _ _ _, k⟩
theorem sub_sh {F : Nat → Prop} {w0 : World} {MX MB : List SP} (σ : List Nat) (hp : picks MX σ = MB) : ∀ w, SH F w0 w MX → SH F w0 w MB := by
  intro w h
  have := h.pick σ
  rw [hp] at this
  exact this
theorem m_nil (h : ∀ w, X w → Q .normal a w) : wpM ρ P ops E Q (Fin Q) [] B X a := h
theorem qn_normal {a : Act} {w : World} (h : Q .normal a w) : Qn Q .normal a w := ⟨rfl, h⟩
end
theorem t_fin {ρ : Option Nat} {E : World → Prop} {P : Program} {l : List Oper} {Q : Exit → Act → World → Prop} {s : List (Nat × Nat)} {B X : World → Prop} {a : Act} (h : wpM ρ P l.toArray E Q (Fin Q) (scr l s) B X a) : wpT ρ P E l Q (.fin s) B X a := h
end Go.Proofs.YtbaemhkfmddakaaGreat.Sy
