import Derived.Test.YtckjpkecipgeiaaSyFld
import Derived.ArgAppend
set_option linter.unusedVariables false
set_option linter.unusedSectionVars false
set_option linter.unusedSimpArgs false
namespace Go.Proofs.Ytckjpkecipgeiaa.Sy
open Go
/-- l[:i] with l[j:] behind it, in place. -/
def selfApp {α : Type} (l : List α) (i j : Nat) : List α := l.take i ++ l.drop j ++ l.drop (i + (l.length - j))
section
variable {α : Type} {e : TypeId} {F : Nat → Prop} {w0 w : World} {M : List SP} {v : Value} {xs : List α} {sz : Nat} {enc : α → List Value} {hl : ∀ x, (enc x).length = sz} {h1 : ∀ x, ∀ u ∈ enc x, u.oneCell' = true}
theorem SH.front (h : SH F w0 w M) (i : Nat) {A : SP} (hi : M[i]? = some A) : SH F w0 w (A :: M.eraseIdx i) := by
  obtain ⟨G1, G2, h1, h2, h3, hA, hr⟩ := h.sep.pull i hi
  exact ⟨h.kp, G1, G2, h1, h2, h3, hA, hr⟩
theorem seg_step {α : Type} (xs ys : List α) (p : Nat) (y : α) (h : p + (ys.length + 1) ≤ xs.length) :
    (xs.set p y).take (p + 1) ++ ys ++ (xs.set p y).drop (p + 1 + ys.length) = xs.take p ++ (y :: ys) ++ xs.drop (p + (ys.length + 1)) := by
  have e1 : (xs.set p y).take (p + 1) = xs.take p ++ [y] := by
    rw [List.take_add_one, List.take_set_of_le (Nat.le_refl _), List.getElem?_set_self (by omega)]
    rfl
  have e2 : (xs.set p y).drop (p + 1 + ys.length) = xs.drop (p + (ys.length + 1)) := by
    rw [List.drop_set_of_lt (by omega)]
    congr 1
    omega
  rw [e1, e2]
  simp
theorem SH.rowSeg (hpos : 0 < sz) : ∀ (ys : List α) (p : Nat) (w : World) (M : List SP) (i : Nat) (xs : List α), SH F w0 w M → M[i]? = some (Row (Kd.flat sz enc hl h1) e v xs) → p + ys.length ≤ xs.length →
    SH F w0 (w.setCells (base v).block ((base v).off + p * sz) (ys.map enc).flatten) (Row (Kd.flat sz enc hl h1) e v (xs.take p ++ ys ++ xs.drop (p + ys.length)) :: M.eraseIdx i)
  | [], p, w, M, i, xs, h, hi, hp => by
    have := h.front i hi
    simpa [World.setCells] using this
  | y :: ys, p, w, M, i, xs, h, hi, hp => by
    simp only [List.length_cons] at hp
    have hx : idx xs ((p : Nat) : Int) = some xs[p] := getD_idx (by omega)
    have hs := (h.rowStore i hi hx (off := 0) (vs := enc y) (cs' := enc y) (new := y) (by rw [hl]; exact Nat.le_of_eq (Nat.zero_add _)) (fun Z w cs hc => by
      obtain rfl : cs = enc xs[p] := hc
      have := setL_mid (enc y) [] (enc xs[p]) [] (by rw [hl, hl])
      simpa using this) (fun _ _ => rfl)).2
    rw [Int.toNat_natCast] at hs
    have := SH.rowSeg hpos ys (p + 1) _ _ 0 (xs.set p y) hs rfl (by simp; omega)
    rw [seg_step xs ys p y hp] at this
    have e1 : (base v).off + (p * (Kd.flat sz enc hl h1).sz + 0) = (base v).off + p * sz := rfl
    rw [e1] at this
    have e2 : (base v).off + (p + 1) * sz = (base v).off + p * sz + (enc y).length := by rw [hl, Nat.add_mul]; omega
    rw [e2, ← setCells_app] at this
    simpa using this
end
section
variable {ρ : Option Nat} {Δ : List Deferred} variable {P : Program} {ops : Array Oper} {Q : Exit → Act → World → Prop} {a : Act} {w : World} {rest : List Oper} {N : Nat} {L : List (Nat × Value)}
variable {d ty : Nat} {pos : String} {af : Array Edge} {gd : Option (Nat × Bool)} {x y z : Operand}
variable {F : Nat → Prop} {w0 : World} {M : List SP}
/-- append(s[:i], s[j:]...) -/
theorem r_appSelf {α : Type} {sz : Nat} {enc : α → List Value} {hl : ∀ x, (enc x).length = sz} {h1 : ∀ x, ∀ u ∈ enc x, u.oneCell' = true} {t e by_ q : Nat} {v : Value} {xs a1 a2 : List α} {i j : Int} (hst : ST Δ N a L) (hsh : SH F w0 w M) (hw : Wt ops L gd) (hd : Nat.blt d N = true)
    (ht : P.underlying t = some (.slice e)) (he : ElOf P e sz by_) (hpos : 0 < sz) (hx : ev L x = some (cutV v (Int.toNat 0) i.toNat sz)) (hy : ev L y = some (cutV v j.toNat (Int.toNat xs.length) sz))
    (hi : M[q]? = some (Row (Kd.flat sz enc hl h1) e v xs)) (hc1 : cut xs 0 i = some a1) (hc2 : cut xs j xs.length = some a2) (hij : i < j)
    (k : ∀ a w', SH F w0 w' (Row (Kd.flat sz enc hl h1) e v (selfApp xs i.toNat j.toNat) :: M.eraseIdx q) → ST Δ N a ((d, cutV v (Int.toNat 0) (i.toNat + (xs.length - j.toNat)) sz) :: L) → wpL ρ P ops Q rest a w') :
    wpL ρ P ops Q ({ dst := some d, op := .call { callee := .builtin .append, args := #[x, y], argTypes := #[t, t] }, type := ty, pos := pos, after := af, guard := gd } :: rest) a w := by
  unfold cut at hc1
  split at hc1
  case isFalse => cases hc1
  rename_i hb1
  have hrd := hsh.row q hi
  have hrc := RD.cut hrd hpos hc2
  unfold cut at hc2
  split at hc2
  case isFalse => cases hc2
  rename_i hb2
  injection hc2 with hc2
  obtain ⟨i, rfl⟩ : ∃ n : Nat, i = n := ⟨i.toNat, by omega⟩
  obtain ⟨j, rfl⟩ : ∃ n : Nat, j = n := ⟨j.toNat, by omega⟩
  simp only [Int.toNat_natCast, Int.toNat_zero] at *
  rw [List.take_length] at hc2
  subst hc2
  have hs := SH.rowSeg hpos (xs.drop j) i w M q xs hsh hi (by simp; omega)
  obtain ⟨A, c, css, hv, hA, hcl, hK, hcell, hone⟩ := hrc.all (Same.refl _ _)
  have hcss : css = (xs.drop j).map enc := by
    refine List.ext_getElem? fun n => ?_
    rw [List.getElem?_map]
    cases hx2 : (xs.drop j)[n]? with
    | none =>
      have := List.getElem?_eq_none_iff.1 hx2
      rw [List.getElem?_eq_none (by omega)]
      rfl
    | some y =>
      have hn := (List.getElem?_eq_some_iff.1 hx2).1
      have hc := hK n y css[n] hx2 (List.getElem?_eq_getElem (by omega))
      rw [List.getElem?_eq_getElem (by omega)]
      exact congrArg some hc
  subst hcss
  obtain ⟨inf, zz, hinf, hzz, hzs, hisz, hib⟩ := he
  obtain ⟨G1, G2, g1, g2, g3, hB, hr⟩ := hsh.sep.pull q hi
  rcases hB with ⟨ad, rfl, rfl⟩ | ⟨css', hown, hblk, hels⟩
  · simp at hb2; omega
  rcases hown.2 with ⟨rfl, hn0⟩ | ⟨g, cap, cur, rfl, hbb, hgg, hle, hcm, hcs, htk⟩
  · rw [hn0] at hb2; omega
  have add0 : ∀ b : Addr, b.add 0 = b := fun b => by unfold Addr.add; simp
  have hcap0 : ¬ cap = 0 := by omega
  have ex : cutV (.slice (some ⟨g, 0, none⟩) xs.length cap) 0 i sz = .slice (some ⟨g, 0, none⟩) i cap := by simp only [cutV, if_neg hcap0, Nat.zero_mul, Nat.sub_zero, Option.map_some, add0]
  have er : cutV (.slice (some ⟨g, 0, none⟩) xs.length cap) 0 (i + (xs.length - j)) sz = .slice (some ⟨g, 0, none⟩) (i + (xs.length - j)) cap := by simp only [cutV, if_neg hcap0, Nat.zero_mul, Nat.sub_zero, Option.map_some, add0]
  obtain ⟨b, c', ey⟩ : ∃ b c', cutV (.slice (some ⟨g, 0, none⟩) xs.length cap) j xs.length sz = .slice (some b) (xs.length - j) c' := by
    by_cases hcj : cap = j
    · exact ⟨⟨g, 0, none⟩, cap - j, by simp only [cutV, if_pos hcj]⟩
    · exact ⟨(⟨g, 0, none⟩ : Addr).add (j * sz), cap - j, by simp only [cutV, if_neg hcj, Option.map_some]⟩
  have hbase : base (.slice (some ⟨g, 0, none⟩) xs.length cap : Value) = ⟨g, 0, none⟩ := rfl
  rw [hbase] at hs
  simp only [Nat.zero_add] at hs
  have hAb : A = some b := by
    have hv' : cutV (.slice (some ⟨g, 0, none⟩) xs.length cap) j xs.length sz = _ := hv
    rw [ey] at hv'
    injection hv' with h1 _ _
    exact h1.symm
  have hlenf : ((xs.drop j).map enc).flatten.length = (xs.length - j) * inf.size := by
    rw [flatten_len (sz := sz) (fun cs hc => by obtain ⟨z, _, rfl⟩ := List.mem_map.1 hc; exact hl z)]
    have : inf.size = sz := hisz
    rw [this]
    simp
  have hisz' : inf.size = sz := hisz
  have hth : ∀ m, m < ((xs.drop j).map enc).flatten.length → (w.cell? ⟨g, i * sz + m, none⟩).isSome = true ∧ w.frozen? ⟨g, i * sz + m, none⟩ = false := by
    intro m hm
    have hin : i * sz + m < xs.length * sz := by
      rw [hlenf, hisz'] at hm
      have : (i + (xs.length - j)) * sz ≤ xs.length * sz := Nat.mul_le_mul_right _ (by omega)
      rw [Nat.add_mul] at this
      omega
    refine ⟨?_, hown.frozenAt (cap := cap) _⟩
    rw [hown.cellAt _ hin, List.getElem?_eq_getElem (by rw [hown.1]; exact hin)]
    rfl
  have hrun := run_append_room_cells (P := P) w t ty e inf ht hinf g 0 i cap b (xs.length - j) c' ((xs.drop j).map enc).flatten hlenf (fun j u hu => hcell b hAb j u hu)
    (fun u hu => by
      obtain ⟨cs, hc, huc⟩ := List.mem_flatten.1 hu
      exact (hone cs hc).2 u huc) (by omega)
    (fun m hm => by rw [hisz']; simp only [Nat.zero_add]; exact (hth m hm).1) (fun m hm => by rw [hisz']; simp only [Nat.zero_add]; exact (hth m hm).2)
  rw [ex] at hx
  rw [ey] at hy
  rw [hisz'] at hrun
  simp only [Nat.zero_add] at hrun
  refine wl_val (v := .slice (some ⟨g, 0, none⟩) (i + (xs.length - j)) cap) (w' := w.setCells g (i * sz) ((xs.drop j).map enc).flatten) hst hw ?_ (k _ (w.setCells g (i * sz) ((xs.drop j).map enc).flatten) (by unfold selfApp; simpa using hs) (by rw [er]; exact hst.put hd _))
  simp only [execOp, resolve, invoke, builtin, Sem.run_bind, Sem.run_pure, Result.andThen_ok, List.map_toArray, List.map_cons, List.map_nil, hst.ev hx, hst.ev hy, hrun]
def cutV3 (v : Value) (l h m sz : Nat) : Value := match v with
  | .slice A _ _ => .slice (if m = l then A else A.map (·.add (l * sz))) (h - l) (m - l)
  | v => v
/-- s[l:h:len(s)] -/
theorem x_cut3 {α : Type} {dk : Kd α} {Z : Nat → Prop} {wr : World} {t e by_ : Nat} {v : Value} {xs ys : List α} {l h : Int} {kl kh km : IntKind} {xl xh xm : Operand} (hst : ST Δ N a L) (ht : P.underlying t = some (.slice e)) (he : ElOf P e dk.sz by_) (hx : ev L x = some v)
    (hl : ev L xl = some (.int kl l)) (hh : ev L xh = some (.int kh h)) (hm : ev L xm = some (.int km xs.length)) (hr : RD dk Z wr v xs) (hc : cut xs l h = some ys) : Tell P a w (.slice t x (some xl) (some xh) (some xm)) (cutV3 v l.toNat h.toNat xs.length dk.sz) := fun o ho => by
  unfold cut at hc
  split at hc
  · rename_i hb
    obtain ⟨A, c, rfl, hle, hmm, hel⟩ := hr
    simp [execOp, ho, hst.ev hx, hst.ev hl, hst.ev hh, hst.ev hm, Instr.sliceAt, Instr.slice, run_underlying ht, Instr.sliceBounds, bound_ok (P := P) (w := w) (k := km) (n := c) (i := (xs.length : Int)) (code := .slice3Acap) (by omega) (by omega),
      bound_ok (P := P) (w := w) (k := kh) (n := xs.length) (i := h) (code := .slice3B) (by omega) (by omega), bound_ok (P := P) (w := w) (k := kl) (n := h.toNat) (i := l) (code := .slice3C) (by omega) (by omega), sizeOf_el he, cutV3]
  · cases hc
/-- A cut of a front, beyond its end. -/
theorem x_cutLHb {α : Type} {dk : Kd α} {Z : Nat → Prop} {wr : World} {t e by_ n : Nat} {v : Value} {xs ys : List α} {l h : Int} {kl kh : IntKind} {xl xh : Operand} (hst : ST Δ N a L) (ht : P.underlying t = some (.slice e)) (he : ElOf P e dk.sz by_) (hx : ev L x = some (cutV v (Int.toNat 0) n dk.sz))
    (hl : ev L xl = some (.int kl l)) (hh : ev L xh = some (.int kh h)) (hr : RD dk Z wr v xs) (hc : cut xs l h = some ys) : Tell P a w (.slice t x (some xl) (some xh) none) (cutV v l.toNat h.toNat dk.sz) := fun o ho => by
  unfold cut at hc
  split at hc
  · rename_i hb
    obtain ⟨A, c, rfl, hle, hmm, hel⟩ := hr
    have add0 : ∀ b : Addr, b.add 0 = b := fun b => by unfold Addr.add; simp
    have e0 : cutV (.slice A xs.length c) (Int.toNat 0) n dk.sz = .slice A n c := by
      by_cases h0 : c = 0
      · simp [cutV, h0]
      · cases A <;> simp [cutV, h0, add0]
    rw [e0] at hx
    simp [execOp, ho, hst.ev hx, hst.ev hl, hst.ev hh, Instr.sliceAt, Instr.slice, run_underlying ht, Instr.sliceBounds, bound_ok (P := P) (w := w) (k := kh) (n := c) (i := h) (code := .sliceAcap) (by omega) (by omega),
      bound_ok (P := P) (w := w) (k := kl) (n := h.toNat) (i := l) (code := .sliceB) (by omega) (by omega), sizeOf_el he, cutV]
  · cases hc
end
end Go.Proofs.Ytckjpkecipgeiaa.Sy
