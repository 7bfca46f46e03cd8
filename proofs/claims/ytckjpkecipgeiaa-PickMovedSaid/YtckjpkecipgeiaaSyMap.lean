import Derived.Test.YtckjpkecipgeiaaSyView
import Derived.Maps.Views
import Derived.Maps.OwnSet
import Derived.Lib.AppendZeros
set_option linter.unusedVariables false
set_option linter.unusedSectionVars false
set_option linter.unusedSimpArgs false
namespace Go.Proofs.Ytckjpkecipgeiaa.Sy
open Go
theorem cells_sl (A : Option Addr) (n c : Nat) : (Value.slice A n c).cells = #[.slice A n c] := rfl
/-- What lies at a key: the newest; 0, if nothing does. -/
def mget : List (Int × Int) → Int → Int
  | [], _ => 0
  | p :: r, x => if p.1 = x then p.2 else mget r x
def wfi (q : IntKind) (x : Int) : Bool := (Lit.int q x).wf
def mput (r : IntKind) (l : List (Int × Int)) (x v : Int) : Option (List (Int × Int)) := if wfi r v = true ∧ l.length < maxLen then some ((x, v) :: l) else none
def MapI (P : Program) (q r : IntKind) (k e : TypeId) (b : Nat) (l : List (Int × Int)) : SP where
  H G w := G b ∧ ∃ D : DataW Unit, w.ownsMap P k (plainElem P e) b l.length D ∧ Maps.IsMap D ∧ ∀ x, wfi q x = true → D.atKey (.int q x) (.lit (.int r 0)) = .lit (.int r (mget l x))
  stable := by
    rintro G w w' hs ⟨hb, D, ho, hm, hat⟩
    refine ⟨hb, D, ?_, hm, hat⟩
    obtain ⟨es, clock, hh, F, hsz, hD⟩ := ho
    exact ⟨es, clock, (hs b hb (Array.getElem?_eq_some_iff.1 hh).1).trans hh, F, hsz, hD⟩
  mono hs h := ⟨hs _ h.1, h.2⟩
  inb h := ⟨⟨h.1, h.2.choose_spec.1.lt⟩, h.2⟩
section
variable {ρ : Option Nat} {Δ : List Deferred} variable {P : Program} {ops : Array Oper} {Q : Exit → Act → World → Prop} {a : Act} {w : World} {rest : List Oper} {N : Nat} {L : List (Nat × Value)}
variable {d ty : Nat} {pos : String} {af : Array Edge} {gd : Option (Nat × Bool)} {x y z : Operand}
variable {F : Nat → Prop} {w0 : World} {M : List SP}
theorem r_makeMap {t : Nat} {q r : IntKind} (k e : TypeId) (hst : ST Δ N a L) (hsh : SH F w0 w M) (hw : Wt ops L gd) (hd : Nat.blt d N = true)
    (K : ∀ g a w', g = w.heap.size → SH F w0 w' (MapI P q r k e g [] :: M) → ST Δ N a ((d, .map (some g)) :: L) → wpL ρ P ops Q rest a w') :
    wpL ρ P ops Q ({ dst := some d, op := .makeMap t none, type := ty, pos := pos, after := af, guard := gd } :: rest) a w := by
  have hs : ∀ k, k < w.heap.size → (w.alloc (.map #[] 0)).heap[k]? = w.heap[k]? := fun k hk => alloc_old w _ k hk
  refine wl_val (v := .map (some w.heap.size)) (w' := w.alloc (.map #[] 0)) hst hw ?_ (K _ _ _ rfl ?_ (hst.put hd _))
  · have hrun : (Instr.makeMap t none).run P w = .ok (.map (some w.heap.size)) (w.alloc (.map #[] 0)) := rfl
    simp [execOp, hrun]
  · refine ⟨⟨hsh.kp.os, hsh.kp.tape, hsh.kp.output, by have := hsh.kp.size; simp; omega, fun k hk hn => by rw [hs k (by have := hsh.kp.size; omega)]; exact hsh.kp.keep k hk hn⟩, ?_⟩
    refine ⟨fun k => k = w.heap.size, Mine F w0 w, ?_, fun k hk => hk.alloc _, ?_, ⟨rfl, .map [], World.ownsMap_made w P k (plainElem P e), ?_, ?_⟩, hsh.sep.stable fun k hk _ => hs k hk.1⟩
    · rintro k rfl
      exact ⟨by simp, .inr hsh.kp.size⟩
    · rintro k rfl hk
      exact absurd hk.1 (Nat.lt_irrefl _)
    · exact (World.ownsMap_made w P k (plainElem (H := Unit) P e)).isMap
    · intro x hx
      rfl
theorem x_lookupI {t k e b i : Nat} {q r : IntKind} {l : List (Int × Int)} {n : Int} (hst : ST Δ N a L) (hsh : SH F w0 w M) (ht : P.underlying t = some (.map k e)) (hk : P.underlying k = some (.int q)) (he : P.underlying e = some (.int r))
    (hz : ∀ w, (zeroValue e).run P w = .ok (.int r 0) w) (hx : ev L x = some (.map (some b))) (hy : ev L y = some (.int q n)) (hi : M[i]? = some (MapI P q r k e b l)) (hn : wfi q n = true) :
    Tell P a w (.lookup t x y false) (.int r (mget l n)) := fun o ho => by
  obtain ⟨_, D, hown, hm, hat⟩ := (hsh.sep.pull i hi).head
  obtain ⟨c, hrun, hc, _⟩ := hown.lookup_int (Maps.int_keyed hk) ht he (hz w) (Maps.keyOf_int_mk hk hn)
  rw [hat n hn] at hc
  injection hc with hc
  injection hc with _ hc
  subst hc
  simp [execOp, ho, hst.ev hx, hst.ev hy, hrun]
theorem r_mapUpdateI {t k e b i : Nat} {q r : IntKind} {l l' : List (Int × Int)} {n m : Int} (hst : ST Δ N a L) (hsh : SH F w0 w M) (hw : Wt ops L gd) (ht : P.underlying t = some (.map k e)) (hk : P.underlying k = some (.int q)) (he : P.underlying e = some (.int r))
    (hx : ev L x = some (.map (some b))) (hy : ev L y = some (.int q n)) (hz : ev L z = some (.int r m)) (hi : M[i]? = some (MapI P q r k e b l)) (hn : wfi q n = true) (hp : mput r l n m = some l')
    (K : ∀ a w', SH F w0 w' (MapI P q r k e b l' :: M.eraseIdx i) → ST Δ N a L → wpL ρ P ops Q rest a w') :
    wpL ρ P ops Q ({ dst := none, op := .mapUpdate t x y z, type := ty, pos := pos, after := af, guard := gd } :: rest) a w := by
  unfold mput at hp
  split at hp
  case isFalse => cases hp
  rename_i hb
  injection hp with hp
  subst hp
  obtain ⟨G, hs, hG, hkk⟩ := SH.call (L1 := [MapI P q r k e b l]) (L2 := M.eraseIdx i) ⟨hsh.kp, hsh.sep.pull i hi⟩
  obtain ⟨hGb, D, hown, hm, hat⟩ := hs.head
  have hkey := Maps.keyOf_int_mk (P := P) hk hn
  obtain ⟨w', hrun, hown', hgr⟩ := hown.update (Maps.int_keyed hk) ht hb.2 hkey (plainElem_int he hb.1)
  have hlit : WideAt.IsKeyLit (Lit.int q n) := (Maps.int_keyed hk).key hkey
  refine wl_skip (w' := w') hst hw ?_ (K _ _ (hkk w' [MapI P q r k e b ((n, m) :: l)] ?_) (hst.putN _))
  · simp [execOp, hst.ev hx, hst.ev hy, hst.ev hz, hrun]
  · refine ⟨⟨hgr.os, hgr.tape, hgr.output, hgr.size, fun j hj hn => hgr.block j hj (fun e => hn (by injection e with e; rw [e]; exact hGb))⟩, Mine G w w', fun _ => False, fun _ h => h, fun _ h => h.elim, fun _ _ h => h, ⟨⟨Nat.lt_of_lt_of_le (hG b hGb).1 hgr.size, .inl hGb⟩, _, hown', hown'.isMap, ?_⟩, trivial⟩
    intro y hy
    by_cases hyn : n = y
    · subst hyn
      rw [Maps.atKey_put_same hm hlit]
      simp [mget]
    · rw [Maps.atKey_put_other (by intro e; injection e with _ e; exact hyn e.symm), hat y hy]
      simp [mget, hyn]
end
def mkP {α : Type} (N : Nat) (n : Int) (z : α) : Option (List α) := if 0 < n ∧ n ≤ N then some (List.replicate n.toNat z) else none
theorem r_appendZ {ρ : Option Nat} {Δ : List Deferred} {P : Program} {ops : Array Oper} {Q : Exit → Act → World → Prop} {a : Act} {w : World} {rest : List Oper} {N : Nat} {L : List (Nat × Value)}
    {d ty : Nat} {pos : String} {af : Array Edge} {gd : Option (Nat × Bool)} {x y : Operand} {F : Nat → Prop} {w0 : World} {M : List SP}
    {α : Type} {dk : Kd α} {t tn e by_ bd : Nat} {n : Int} {z : α} {zc : List Value} {xs : List α} {kl : IntKind} (hst : ST Δ N a L) (hsh : SH F w0 w M) (hw : Wt ops L gd) (hd : Nat.blt d N = true)
    (ht : P.underlying t = some (.slice e)) (htn : P.underlying tn = some (.int kl)) (he : ElOf P e dk.sz by_) (hz : ZrOf P e zc) (hsz : 0 < dk.sz) (hbd : bd * by_ ≤ 281474976710656) (hby : 0 < by_) (hx : ev L x = some (.slice none 0 0)) (hy : ev L y = some (.int kl n))
    (hM : MF dk [] z zc) (hp : mkP bd n z = some xs)
    (k : ∀ v' a w', SH F w0 w' (Row dk e v' xs :: M) → ST Δ N a ((d, v') :: L) → wpL ρ P ops Q rest a w') :
    wpL ρ P ops Q ({ dst := some d, op := .call { callee := .builtin .append, args := #[x, y], argTypes := #[t, tn] }, type := ty, pos := pos, after := af, guard := gd } :: rest) a w := by
  unfold mkP at hp
  split at hp
  case isFalse => cases hp
  rename_i hb
  injection hp with hp
  subst hp
  obtain ⟨inf, zz, hinf, hzz, hzs, hisz, hib⟩ := he
  obtain ⟨inf', zz', hinf', hzz', hzc⟩ := hz
  rw [hinf] at hinf'
  injection hinf' with hinf'
  subst hinf'
  rw [hzz] at hzz'
  injection hzz' with hzz'
  subst hzz'
  have hzl : zc.length = dk.sz := by rw [hzc] at hzs; simpa using hzs
  obtain ⟨m, rfl⟩ : ∃ m : Nat, n = m := ⟨n.toNat, by omega⟩
  rw [Int.toNat_natCast] at k
  have hm0 : 0 < m := by omega
  have hbig : m * by_ ≤ 281474976710656 := Nat.le_trans (Nat.mul_le_mul_right _ (by omega)) hbd
  have hsm : m ≤ 281474976710656 := Nat.le_trans (Nat.le_mul_of_pos_right _ hby) hbig
  have hr := Lib.run_append_nil_zeros (P := P) w t tn ty e inf zz kl kl ht htn hinf hzz m hm0 (by omega) (by omega) (by rw [hib]; omega)
  have hge := grownCap_ge w m 0 e
  have hcm : grownCap w m 0 e ≤ maxLen := grownCap_le_maxLen w m 0 e (by have : maxLen = 9223372036854775807 := rfl; omega)
  have hz1 : (Builtin.zeroCells zz.cells m).toList = (List.replicate m zc).flatten := by
    rw [hzc, ← madeCells_rep zc (by omega)]
    simp [Builtin.zeroCells, madeCells]
  have hlen := ef_rep hM m (fun _ => False) (w.drew.alloc (.cells (Builtin.zeroCells zz.cells m ++ Builtin.zeroCells zz.cells (grownCap w m 0 e - m)) e)) trivial
  have hfl := flatten_len (fun cs hc => (hlen.lens cs hc).1)
  rw [List.length_replicate] at hfl
  refine wl_val (v := .slice (some ⟨w.heap.size, 0, none⟩) m (grownCap w m 0 e)) (w' := w.drew.alloc (.cells (Builtin.zeroCells zz.cells m ++ Builtin.zeroCells zz.cells (grownCap w m 0 e - m)) e)) hst hw ?_ (k _ _ _ ?_ (hst.put hd _))
  · simp only [execOp, resolve, invoke, builtin, Sem.run_bind, Sem.run_pure, Result.andThen_ok, List.map_toArray, List.map_cons, List.map_nil, hst.ev hx, hst.ev hy, hr]
  · have hsz' : w.drew.heap.size = w.heap.size := rfl
    have hs : ∀ k, k < w.heap.size → (w.drew.alloc (.cells (Builtin.zeroCells zz.cells m ++ Builtin.zeroCells zz.cells (grownCap w m 0 e - m)) e)).heap[k]? = w.heap[k]? := fun k hk => heap_alloc_old w.drew _ k hk
    refine ⟨⟨hsh.kp.os, hsh.kp.tape, hsh.kp.output, by have := hsh.kp.size; simp; omega, fun k hk hn => by rw [hs k (by have := hsh.kp.size; omega)]; exact hsh.kp.keep k hk hn⟩, ?_⟩
    refine ⟨fun k => k = w.heap.size, Mine F w0 w, ?_, fun k hk => ⟨by have := hk.1; simp; omega, hk.2⟩, ?_, .inr ⟨List.replicate m zc, ⟨?_, .inr ⟨w.heap.size, _, _, (by rw [List.length_replicate]), Nat.zero_le _, heap_alloc_new w.drew _, ?_, hcm, ?_, ?_⟩⟩, ?_, ?_⟩, hsh.sep.stable fun k hk _ => hs k hk.1⟩
    · rintro k rfl
      exact ⟨by simp, .inr hsh.kp.size⟩
    · rintro k rfl hk
      exact absurd hk.1 (Nat.lt_irrefl _)
    · rw [hfl]; simp
    · simpa using hge
    · simp only [Array.size_append, size_zeroCells, hzs, ← Nat.add_mul]
      congr 1
      omega
    · rw [Array.toList_append, hz1]
      have : (List.replicate m z).length * dk.sz = (List.replicate m zc).flatten.length := by rw [hfl]; simp
      rw [this]
      simp
    · intro k hk
      simp [Value.ownBlock] at hk
      exact hk.symm
    · have := hlen.mono (G' := fun k => k = w.heap.size ∧ Value.ownBlock (.slice (some ⟨w.heap.size, 0, none⟩) m (grownCap w m 0 e)) ≠ some k) (fun _ h => h.elim)
      simpa using this
section
variable {ρ : Option Nat} {Δ : List Deferred} variable {P : Program} {ops : Array Oper} {Q : Exit → Act → World → Prop} {a : Act} {w : World} {rest : List Oper} {N : Nat} {L : List (Nat × Value)} {x y : Operand}
theorem x_capNil {t e : TypeId} (hst : ST Δ N a L) (ht : P.underlying t = some (.slice e)) (hx : ev L x = some (.slice none 0 0)) : Tell P a w (.call { callee := .builtin .cap, args := #[x], argTypes := #[t] }) (.int .i64 0) := fun o ho => by
  simp [execOp, ho, resolve, invoke, builtin, hst.ev hx, Builtin.cap_, run_underlying ht, goInt]
theorem sh_cls {F : Nat → Prop} {w0 : World} {M M' : List SP} (σ τ : List Nat) (h1 : picks M σ = M') (h2 : picks M' τ = M) : (fun w' => SH F w0 w' M) = (fun w' => SH F w0 w' M') := by
  funext w'
  exact propext ⟨fun h => h1 ▸ h.pick σ, fun h => h2 ▸ h.pick τ⟩
theorem sh_cls_nil {α : Type} (dk : Kd α) (e : TypeId) {F : Nat → Prop} {w0 : World} {M : List SP} : (fun w' => SH F w0 w' M) = (fun w' => SH F w0 w' (Row dk e (.slice none 0 0) [] :: M)) := by
  funext w'
  exact propext ⟨fun h => h.addNil dk e, fun h => ⟨h.kp, h.sep.tail⟩⟩
theorem x_cutNil {t e sz by_ : Nat} {kh : IntKind} (hst : ST Δ N a L) (ht : P.underlying t = some (.slice e)) (he : ElOf P e sz by_) (hx : ev L x = some (.slice none 0 0)) (hh : ev L y = some (.int kh 0)) :
    Tell P a w (.slice t x none (some y) none) (.slice none 0 0) := fun o ho => by
  simp [execOp, ho, hst.ev hx, hst.ev hh, Instr.sliceAt, Instr.slice, run_underlying ht, Instr.sliceBounds, bound_ok (P := P) (w := w) (k := kh) (n := 0) (i := 0) (code := .sliceAcap) (by omega) (by omega), sizeOf_el he]
theorem m_joinA {E : World → Prop} {ops : Array Oper} {Q : Exit → Act → World → Prop} {KK : (World → Prop) → (World → Prop) → Act → Prop} {B X : World → Prop} {l : List (Nat × Oper)} (n : Nat) (J : Act → Prop) (h1 : ∀ a, J a → wpM ρ P ops E Q KK (l.drop n) B X a) (h2 : (∀ a, J a → wpM ρ P ops E Q KK (l.drop n) B X a) → wpM ρ P ops E Q KK l B X a) : wpM ρ P ops E Q KK l B X a := h2 h1
theorem m_joinB {E : World → Prop} {ops : Array Oper} {Q : Exit → Act → World → Prop} {KK : (World → Prop) → (World → Prop) → Act → Prop} {B X : World → Prop} {l : List (Nat × Oper)} (n : Nat) (J : Act → (World → Prop) → (World → Prop) → Prop) (h1 : ∀ a B X, J a B X → wpM ρ P ops E Q KK (l.drop n) B X a) (h2 : (∀ a B X, J a B X → wpM ρ P ops E Q KK (l.drop n) B X a) → wpM ρ P ops E Q KK l B X a) : wpM ρ P ops E Q KK l B X a := h2 h1
end
end Go.Proofs.Ytckjpkecipgeiaa.Sy
