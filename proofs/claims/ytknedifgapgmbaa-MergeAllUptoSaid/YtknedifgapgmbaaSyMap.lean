import Derived.Test.YtknedifgapgmbaaSyView
import Derived.Maps.Views
import Derived.Maps.OwnSet
import Derived.Lib.AppendZeros
set_option linter.unusedVariables false
set_option linter.unusedSectionVars false
set_option linter.unusedSimpArgs false
namespace Go.Proofs.Ytknedifgapgmbaa.Sy
open Go
theorem cells_sl (A : Option Addr) (n c : Nat) : (Value.slice A n c).cells = #[.slice A n c] := rfl
section
variable {ρ : Option Nat} {Δ : List Deferred} variable {P : Program} {ops : Array Oper} {Q : Exit → Act → World → Prop} {a : Act} {w : World} {rest : List Oper} {N : Nat} {L : List (Nat × Value)}
variable {d ty : Nat} {pos : String} {af : Array Edge} {gd : Option (Nat × Bool)} {x y z : Operand}
variable {F : Nat → Prop} {w0 : World} {M : List SP}
end
def mkP {α : Type} (N : Nat) (n : Int) (z : α) : Option (List α) := if 0 < n ∧ n ≤ N then some (List.replicate n.toNat z) else none
theorem r_appendZ {ρ : Option Nat} {Δ : List Deferred} {P : Program} {ops : Array Oper} {Q : Exit → Act → World → Prop} {a : Act} {w : World} {rest : List Oper} {N : Nat} {L : List (Nat × Value)}
    {d ty : Nat} {pos : String} {af : Array Edge} {gd : Option (Nat × Bool)} {x y : Operand} {F : Nat → Prop} {w0 : World} {M : List SP}
    {α : Type} {dk : Kd α} {t tn e by_ bd : Nat} {n : Int} {z : α} {zc : List Value} {xs : List α} {kl : IntKind} (hst : ST Δ N a L) (hsh : SH F w0 w M) (hw : Wt ops L gd) (hd : Nat.blt d N = true)
    (ht : P.underlying t = some (.slice e)) (htn : P.underlying tn = some (.int kl)) (he : ElOf P e dk.sz by_) (hz : ZrOf P e zc) (hsz : 0 < dk.sz) (hbd : bd * by_ ≤ 281474976710656) (hby : 0 < by_) (hx : ev L x = some (.slice none 0 0)) (hy : ev L y = some (.int kl n))
    (hM : MF dk [] z zc) (hp : mkP bd n z = some xs)
    (k : ∀ v' a w', SH F w0 w' (Row dk e v' xs :: M) → ST Δ N a ((d, v') :: L) → wpL ρ P ops Q rest a w') :
    wpL ρ P ops Q ({ dst := some d, op := .call { callee := .builtin .append, args := #[x, y], argTypes := #[t, tn] }, type := ty, pos := pos, after := af, guard := gd } :: rest) a w := by
  unfold mkP at hp
  split at hp
  case isFalse => cases hp
  rename_i hb
  injection hp with hp
  subst hp
  obtain ⟨inf, zz, hinf, hzz, hzs, hisz, hib⟩ := he
  obtain ⟨inf', zz', hinf', hzz', hzc⟩ := hz
  rw [hinf] at hinf'
  injection hinf' with hinf'
  subst hinf'
  rw [hzz] at hzz'
  injection hzz' with hzz'
  subst hzz'
  have hzl : zc.length = dk.sz := by rw [hzc] at hzs; simpa using hzs
  obtain ⟨m, rfl⟩ : ∃ m : Nat, n = m := ⟨n.toNat, by omega⟩
  rw [Int.toNat_natCast] at k
  have hm0 : 0 < m := by omega
  have hbig : m * by_ ≤ 281474976710656 := Nat.le_trans (Nat.mul_le_mul_right _ (by omega)) hbd
  have hsm : m ≤ 281474976710656 := Nat.le_trans (Nat.le_mul_of_pos_right _ hby) hbig
  have hr := Lib.run_append_nil_zeros (P := P) w t tn ty e inf zz kl kl ht htn hinf hzz m hm0 (by omega) (by omega) (by rw [hib]; omega)
  have hge := grownCap_ge w m 0 e
  have hcm : grownCap w m 0 e ≤ maxLen := grownCap_le_maxLen w m 0 e (by have : maxLen = 9223372036854775807 := rfl; omega)
  have hz1 : (Builtin.zeroCells zz.cells m).toList = (List.replicate m zc).flatten := by
    rw [hzc, ← madeCells_rep zc (by omega)]
    simp [Builtin.zeroCells, madeCells]
  have hlen := ef_rep hM m (fun _ => False) (w.drew.alloc (.cells (Builtin.zeroCells zz.cells m ++ Builtin.zeroCells zz.cells (grownCap w m 0 e - m)) e)) trivial
  have hfl := flatten_len (fun cs hc => (hlen.lens cs hc).1)
  rw [List.length_replicate] at hfl
  refine wl_val (v := .slice (some ⟨w.heap.size, 0, none⟩) m (grownCap w m 0 e)) (w' := w.drew.alloc (.cells (Builtin.zeroCells zz.cells m ++ Builtin.zeroCells zz.cells (grownCap w m 0 e - m)) e)) hst hw ?_ (k _ _ _ ?_ (hst.put hd _))
  · simp only [execOp, resolve, invoke, builtin, Sem.run_bind, Sem.run_pure, Result.andThen_ok, List.map_toArray, List.map_cons, List.map_nil, hst.ev hx, hst.ev hy, hr]
  · have hsz' : w.drew.heap.size = w.heap.size := rfl
    have hs : ∀ k, k < w.heap.size → (w.drew.alloc (.cells (Builtin.zeroCells zz.cells m ++ Builtin.zeroCells zz.cells (grownCap w m 0 e - m)) e)).heap[k]? = w.heap[k]? := fun k hk => heap_alloc_old w.drew _ k hk
    refine ⟨⟨hsh.kp.os, hsh.kp.tape, hsh.kp.output, by have := hsh.kp.size; simp; omega, fun k hk hn => by rw [hs k (by have := hsh.kp.size; omega)]; exact hsh.kp.keep k hk hn⟩, ?_⟩
    refine ⟨fun k => k = w.heap.size, Mine F w0 w, ?_, fun k hk => ⟨by have := hk.1; simp; omega, hk.2⟩, ?_, .inr ⟨List.replicate m zc, ⟨?_, .inr ⟨w.heap.size, _, _, (by rw [List.length_replicate]), Nat.zero_le _, heap_alloc_new w.drew _, ?_, hcm, ?_, ?_⟩⟩, ?_, ?_⟩, hsh.sep.stable fun k hk _ => hs k hk.1⟩
    · rintro k rfl
      exact ⟨by simp, .inr hsh.kp.size⟩
    · rintro k rfl hk
      exact absurd hk.1 (Nat.lt_irrefl _)
    · rw [hfl]; simp
    · simpa using hge
    · simp only [Array.size_append, size_zeroCells, hzs, ← Nat.add_mul]
      congr 1
      omega
    · rw [Array.toList_append, hz1]
      have : (List.replicate m z).length * dk.sz = (List.replicate m zc).flatten.length := by rw [hfl]; simp
      rw [this]
      simp
    · intro k hk
      simp [Value.ownBlock] at hk
      exact hk.symm
    · have := hlen.mono (G' := fun k => k = w.heap.size ∧ Value.ownBlock (.slice (some ⟨w.heap.size, 0, none⟩) m (grownCap w m 0 e)) ≠ some k) (fun _ h => h.elim)
      simpa using this
section
variable {ρ : Option Nat} {Δ : List Deferred} variable {P : Program} {ops : Array Oper} {Q : Exit → Act → World → Prop} {a : Act} {w : World} {rest : List Oper} {N : Nat} {L : List (Nat × Value)} {x y : Operand}
theorem x_capNil {t e : TypeId} (hst : ST Δ N a L) (ht : P.underlying t = some (.slice e)) (hx : ev L x = some (.slice none 0 0)) : Tell P a w (.call { callee := .builtin .cap, args := #[x], argTypes := #[t] }) (.int .i64 0) := fun o ho => by
  simp [execOp, ho, resolve, invoke, builtin, hst.ev hx, Builtin.cap_, run_underlying ht, goInt]
theorem x_cutNil {t e sz by_ : Nat} {kh : IntKind} (hst : ST Δ N a L) (ht : P.underlying t = some (.slice e)) (he : ElOf P e sz by_) (hx : ev L x = some (.slice none 0 0)) (hh : ev L y = some (.int kh 0)) :
    Tell P a w (.slice t x none (some y) none) (.slice none 0 0) := fun o ho => by
  simp [execOp, ho, hst.ev hx, hst.ev hh, Instr.sliceAt, Instr.slice, run_underlying ht, Instr.sliceBounds, bound_ok (P := P) (w := w) (k := kh) (n := 0) (i := 0) (code := .sliceAcap) (by omega) (by omega), sizeOf_el he]
end
end Go.Proofs.Ytknedifgapgmbaa.Sy
