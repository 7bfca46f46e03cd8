import Derived.Test.YtbaemhkfmddakaaGreatSyObj
set_option linter.unusedVariables false
set_option linter.unusedSectionVars false
set_option linter.unusedSimpArgs false
namespace Go.Proofs.YtbaemhkfmddakaaGreat.Sy
open Go
def clr {α : Type} (xs : List α) (lo hi : Nat) (z : α) : List α := xs.take lo ++ List.replicate (hi - lo) z ++ xs.drop hi
theorem clr_zero {α : Type} (xs : List α) (j : Nat) (z : α) : clr xs j j z = xs := by simp [clr]
theorem clr_succ {α : Type} (xs : List α) (j n : Nat) (z : α) (h : j + n < xs.length) : (clr xs j (j + n) z).set (j + n) z = clr xs j (j + (n + 1)) z := by
  unfold clr
  have h1 : (xs.take j ++ List.replicate (j + n - j) z).length = j + n := by simp; omega
  have e : xs.drop (j + n) = xs[j + n] :: xs.drop (j + n + 1) := List.drop_eq_getElem_cons h
  rw [List.set_append_right _ _ (by omega), h1, Nat.sub_self, e, List.set_cons_zero]
  have e2 : j + (n + 1) - j = (j + n - j) + 1 := by omega
  rw [e2, List.replicate_succ']
  simp [Nat.add_assoc]
theorem setCells_app : ∀ (vs us : List Value) (w : World) (g o : Nat), w.setCells g o (vs ++ us) = (w.setCells g o vs).setCells g (o + vs.length) us
  | [], us, w, g, o => rfl
  | v :: r, us, w, g, o => by
    show (w.setCell ⟨g, o, none⟩ v).setCells g (o + 1) (r ++ us) = _
    rw [setCells_app r us]
    show _ = ((w.setCell ⟨g, o, none⟩ v).setCells g (o + 1) r).setCells g (o + (r.length + 1)) us
    rw [Nat.add_assoc, Nat.add_comm 1]
section
variable {α : Type} {dk : Kd α} {e : TypeId} {F : Nat → Prop} {w0 w : World} {M : List SP} {v : Value} {xs : List α} {z : α} {zc : List Value}
theorem setL_zc (hzl : zc.length = dk.sz) {x : α} : ∀ Z w cs, dk.K Z w x cs → setL cs 0 zc = zc := fun Z w cs h => by
  have := setL_mid zc [] cs [] (by rw [dk.K_len h, hzl])
  simpa using this
theorem SH.clearThere (h : SH F w0 w M) (i : Nat) (hi : M[i]? = some (Row dk e v xs)) (hM : ∀ G w, dk.M G w z zc) (hzl : zc.length = dk.sz) (hsz : 0 < dk.sz) {j n m : Nat} (hj : j + n ≤ xs.length) (hm : m < n * dk.sz) :
    (w.cell? ⟨(base v).block, (base v).off + j * dk.sz + m, none⟩).isSome = true ∧ w.frozen? ⟨(base v).block, (base v).off + j * dk.sz + m, none⟩ = false := by
  have hq : m / dk.sz < n := Nat.div_lt_of_lt_mul (by rw [Nat.mul_comm]; exact hm)
  have hr : m % dk.sz < dk.sz := Nat.mod_lt _ hsz
  have hx : idx xs ((j + m / dk.sz : Nat) : Int) = some xs[j + m / dk.sz] := getD_idx (by omega)
  have := (h.rowStore i hi hx (off := 0) (vs := zc) (by omega) (setL_zc hzl) hM).1 (m % dk.sz) (by omega)
  have e : (base v).off + (((j + m / dk.sz : Nat) : Int).toNat * dk.sz + 0) + m % dk.sz = (base v).off + j * dk.sz + m := by
    rw [Int.toNat_natCast, Nat.add_mul]
    have := Nat.div_add_mod m dk.sz
    rw [Nat.mul_comm] at this
    omega
  rw [e] at this
  exact this
theorem SH.rowClear (h : SH F w0 w M) (i : Nat) (hi : M[i]? = some (Row dk e v xs)) (hM : ∀ G w, dk.M G w z zc) (hzl : zc.length = dk.sz) (j : Nat) : ∀ n, j + (n + 1) ≤ xs.length →
    SH F w0 (w.setCells (base v).block ((base v).off + j * dk.sz) (List.replicate (n + 1) zc).flatten) (Row dk e v (clr xs j (j + (n + 1)) z) :: M.eraseIdx i) := by
  intro n
  induction n with
  | zero =>
    intro hj
    have hx : idx xs ((j : Nat) : Int) = some xs[j] := getD_idx (by omega)
    have := (h.rowStore i hi hx (off := 0) (vs := zc) (by omega) (setL_zc hzl) hM).2
    have e := clr_succ xs j 0 z (by omega)
    simp only [Nat.add_zero, clr_zero] at e
    simpa [e] using this
  | succ n ih =>
    intro hj
    have h1 := ih (by omega)
    have hl : (clr xs j (j + (n + 1)) z).length = xs.length := by unfold clr; simp; omega
    have hx : idx (clr xs j (j + (n + 1)) z) ((j + (n + 1) : Nat) : Int) = some ((clr xs j (j + (n + 1)) z)[j + (n + 1)]'(by rw [hl]; omega)) := getD_idx (by rw [hl]; omega)
    have := (SH.rowStore h1 0 rfl hx (off := 0) (vs := zc) (by omega) (setL_zc hzl) hM).2
    rw [Int.toNat_natCast, clr_succ xs j (n + 1) z (by omega)] at this
    have e2 : (List.replicate (n + 1 + 1) zc).flatten = (List.replicate (n + 1) zc).flatten ++ zc := by rw [List.replicate_succ', List.flatten_append]; simp
    have e3 : ((List.replicate (n + 1) zc).flatten).length = (n + 1) * dk.sz := by rw [flatten_len (sz := dk.sz) (fun cs hc => by rw [(List.mem_replicate.1 hc).2, hzl]), List.length_replicate]
    rw [e2, setCells_app, e3]
    have e4 : (base v).off + j * dk.sz + (n + 1) * dk.sz = (base v).off + ((j + (n + 1)) * dk.sz + 0) := by have := Nat.add_mul j (n + 1) dk.sz; omega
    rw [e4]
    exact this
end
section
variable {ρ : Option Nat} {Δ : List Deferred} variable {P : Program} {ops : Array Oper} {Q : Exit → Act → World → Prop} {a : Act} {w : World} {rest : List Oper} {N : Nat} {L : List (Nat × Value)}
variable {d ty : Nat} {pos : String} {af : Array Edge} {gd : Option (Nat × Bool)} {x y : Operand}
variable {F : Nat → Prop} {w0 : World} {M : List SP}
theorem zeroCells_rep (zc : List Value) (n : Nat) (h0 : 0 < zc.length) : (Builtin.zeroCells zc.toArray n).toList = (List.replicate n zc).flatten := by
  have hl : ∀ cs ∈ List.replicate n zc, cs.length = zc.length := fun cs hc => by rw [(List.mem_replicate.1 hc).2]
  refine List.ext_getElem? fun j => ?_
  by_cases hj : j < n * zc.length
  · have hq : j / zc.length < n := Nat.div_lt_of_lt_mul (by rw [Nat.mul_comm]; exact hj)
    have hr : j % zc.length < zc.length := Nat.mod_lt _ h0
    have hf := flatten_get hl (j / zc.length) zc (by rw [List.getElem?_replicate]; simp [hq]) (j % zc.length) zc[j % zc.length] (List.getElem?_eq_getElem hr)
    rw [Nat.mul_comm, Nat.div_add_mod] at hf
    rw [hf]
    simp [Builtin.zeroCells, hj, hr]
  · have h1 : (List.replicate n zc).flatten.length = n * zc.length := by rw [flatten_len hl, List.length_replicate]
    rw [List.getElem?_eq_none (l := (Builtin.zeroCells zc.toArray n).toList) (by simp [Builtin.zeroCells]; omega), List.getElem?_eq_none (by rw [h1]; omega)]
/-- clear(s[lo:hi]) -/
theorem run_clear {α : Type} {dk : Kd α} {t e by_ i : Nat} {v : Value} {xs : List α} {z : α} {zc : List Value} {l h : Nat} (hsh : SH F w0 w M) (ht : P.underlying t = some (.slice e)) (he : ElOf P e dk.sz by_) (hz : ZrOf P e zc)
    (hsz : 0 < dk.sz) (hM : ∀ G w, dk.M G w z zc) (hi' : M[i]? = some (Row dk e v xs)) (hlh : l < h) (hh : h ≤ xs.length) (ty : TypeId) :
    (Builtin.clear_ #[t] ty #[cutV v l h dk.sz]).run P w = .ok (.tuple #[]) (w.setCells (base v).block ((base v).off + l * dk.sz) (List.replicate (h - l) zc).flatten) := by
  obtain ⟨inf, zz, hinf, hzz, hzs, hisz, hib⟩ := he
  obtain ⟨inf', zz', hinf', hzz', hzc⟩ := hz
  rw [hinf] at hinf'
  injection hinf' with hinf'
  subst hinf'
  rw [hzz] at hzz'
  injection hzz' with hzz'
  subst hzz'
  have hzl : zc.length = dk.sz := by rw [hzc] at hzs; simpa using hzs
  have hone : ∀ u ∈ zc, u.oneCell' = true := dk.K_one (dk.M_K (hM (fun _ => False) w))
  obtain ⟨G1, G2, h1, h2, h3, hA, hr⟩ := hsh.sep.pull i hi'
  rcases hA with ⟨ad, rfl, rfl⟩ | ⟨css, hown, hblk, hels⟩
  · simp at hh; omega
  rcases hown.2 with ⟨rfl, hn0⟩ | ⟨g, cap, cur, rfl, hb, hgg, hle, hcm, hcs, htk⟩
  · rw [hn0] at hh; omega
  have hcut : cutV (.slice (some ⟨g, 0, none⟩) xs.length cap) l h dk.sz = .slice (some ⟨g, l * dk.sz, none⟩) (h - l) (cap - l) := by
    have hne : ¬ cap = l := by omega
    simp [cutV, hne, Addr.add_lit]
  rw [hcut]
  have hbase : base (.slice (some ⟨g, 0, none⟩) xs.length cap : Value) = ⟨g, 0, none⟩ := rfl
  have hth := fun m hm => hsh.clearThere i hi' hM hzl hsz (j := l) (n := h - l) (m := m) (by omega) hm
  rw [hbase] at hth ⊢
  simp only [Nat.zero_add] at hth ⊢
  have hlen : ((List.replicate (h - l) zc).flatten).length = (h - l) * dk.sz := by rw [flatten_len (sz := dk.sz) (fun cs hc => by rw [(List.mem_replicate.1 hc).2, hzl]), List.length_replicate]
  have hrun := run_storeCells_cells (P := P) g (l * dk.sz) (List.replicate (h - l) zc).flatten 0 w (fun j hj => (hth j (by omega)).1) (fun j hj => (hth j (by omega)).2)
    (fun u hu => by
      obtain ⟨cs, h1, h2⟩ := List.mem_flatten.1 hu
      rw [(List.mem_replicate.1 h1).2] at h2
      exact hone u h2)
  have hz9 : (Builtin.zeroCells zz.cells (h - l)).toList = (List.replicate (h - l) zc).flatten := by
    have : zz.cells = zc.toArray := by rw [hzc]
    rw [this]
    exact zeroCells_rep zc _ (by omega)
  have hne : h - l ≠ 0 := by omega
  obtain ⟨q, hq⟩ : ∃ q, h - l = q + 1 := ⟨h - l - 1, by omega⟩
  simp only [Nat.add_zero] at hrun
  rw [hq] at hz9 hrun ⊢
  simp [Builtin.clear_, run_underlying ht, zeroValue, typeInfo, hinf, hzz, hz9, hrun]
theorem r_clear {α : Type} {dk : Kd α} {t e by_ i : Nat} {v : Value} {xs ys : List α} {z : α} {zc : List Value} {lo hi : Int} (hst : ST Δ N a L) (hsh : SH F w0 w M) (hw : Wt ops L gd) (ht : P.underlying t = some (.slice e)) (he : ElOf P e dk.sz by_) (hz : ZrOf P e zc)
    (hsz : 0 < dk.sz) (hx : ev L x = some (cutV v lo.toNat hi.toNat dk.sz)) (hM : ∀ G w, dk.M G w z zc) (hi' : M[i]? = some (Row dk e v xs)) (hc : cut xs lo hi = some ys)
    (k : ∀ a w', SH F w0 w' (Row dk e v (clr xs lo.toNat hi.toNat z) :: M.eraseIdx i) → ST Δ N a L → wpL ρ P ops Q rest a w') :
    wpL ρ P ops Q ({ dst := none, op := .call { callee := .builtin .clear, args := #[x], argTypes := #[t] }, type := ty, pos := pos, after := af, guard := gd } :: rest) a w := by
  unfold cut at hc
  split at hc
  case isFalse => cases hc
  rename_i hb
  clear hc
  obtain ⟨l, rfl⟩ : ∃ l : Nat, lo = l := ⟨lo.toNat, by omega⟩
  obtain ⟨h, rfl⟩ : ∃ h : Nat, hi = h := ⟨hi.toNat, by omega⟩
  simp only [Int.toNat_natCast] at hx k
  by_cases hpos : l = h
  · subst hpos
    obtain ⟨A, c, hv⟩ := Row.slen hsh i hi'
    have hs : SH F w0 w (Row dk e v (clr xs l l z) :: M.eraseIdx i) := by
      rw [clr_zero]
      obtain ⟨G1, G2, h1, h2, h3, hA, hr⟩ := hsh.sep.pull i hi'
      exact ⟨hsh.kp, G1, G2, h1, h2, h3, hA, hr⟩
    refine wl_val (v := .tuple #[]) hst hw ?_ (k _ _ hs (hst.putN _))
    have hcv : ∃ B c', cutV v l l dk.sz = .slice B 0 c' := by rw [hv]; exact ⟨_, _, by simp [cutV]; exact ⟨rfl, rfl⟩⟩
    obtain ⟨B, c', hcv⟩ := hcv
    rw [hcv] at hx
    cases B <;> simp [execOp, hst.ev hx, resolve, invoke, builtin, Builtin.clear_, run_underlying ht]
  have hrun := run_clear (P := P) hsh ht he hz hsz hM hi' (l := l) (h := h) (by omega) (by omega) ty
  have hzl : zc.length = dk.sz := dk.K_len (dk.M_K (hM (fun _ => False) w))
  have hs := SH.rowClear hsh i hi' hM hzl l (h - l - 1) (by omega)
  have e1 : h - l - 1 + 1 = h - l := by omega
  have e2 : l + (h - l) = h := by omega
  rw [e1, e2] at hs
  refine wl_val (v := .tuple #[]) hst hw ?_ (k _ _ hs (hst.putN _))
  simp [execOp, hst.ev hx, resolve, invoke, builtin, hrun]
end
end Go.Proofs.YtbaemhkfmddakaaGreat.Sy
