import Derived.Test.YtbaemhkfmddakaaGreatSyMix
set_option linter.unusedVariables false
set_option linter.unusedSectionVars false
set_option linter.unusedSimpArgs false
namespace Go.Proofs.YtbaemhkfmddakaaGreat.Sy
open Go
def pushN {α : Type} (N : Nat) (xs zs : List α) : Option (List α) := if xs.length + zs.length ≤ N then some (xs ++ zs) else none
theorem pushN_some {α : Type} {N : Nat} {xs zs r : List α} (h : pushN N xs zs = some r) : xs.length + zs.length ≤ N ∧ r = xs ++ zs := by
  unfold pushN at h
  split at h
  · injection h with h
    exact ⟨by assumption, h.symm⟩
  · cases h
theorem pick_list {β : Type} : ∀ (n : Nat) (p : Nat → β → Prop), (∀ i, i < n → ∃ x, p i x) → ∃ l : List β, l.length = n ∧ ∀ i x, l[i]? = some x → p i x
  | 0, _, _ => ⟨[], rfl, fun i x h => by simp at h⟩
  | n + 1, p, h => by
    obtain ⟨x, hx⟩ := h 0 (by omega)
    obtain ⟨l, hl, hp⟩ := pick_list n (fun i => p (i + 1)) (fun i hi => h (i + 1) (by omega))
    refine ⟨x :: l, by simp [hl], fun i y hy => ?_⟩
    cases i with
    | zero => simp at hy; subst hy; exact hx
    | succ i => exact hp i y (by simpa using hy)
theorem flatten_inv {sz : Nat} : ∀ {css : List (List Value)}, (∀ cs ∈ css, cs.length = sz) → ∀ (j : Nat) (u : Value), css.flatten[j]? = some u → ∃ i q cs, j = i * sz + q ∧ css[i]? = some cs ∧ cs[q]? = some u
  | [], _, j, u, h => by simp at h
  | c :: r, hl, j, u, h => by
    have hc := hl c (List.mem_cons_self ..)
    rw [List.flatten_cons] at h
    by_cases hj : j < c.length
    · rw [List.getElem?_append_left hj] at h
      exact ⟨0, j, c, by omega, rfl, h⟩
    · rw [List.getElem?_append_right (by omega)] at h
      obtain ⟨i, q, cs, h1, h2, h3⟩ := flatten_inv (fun cs hc => hl cs (List.mem_cons_of_mem _ hc)) _ u h
      exact ⟨i + 1, q, cs, by rw [Nat.add_mul]; omega, h2, h3⟩
/-- Data without memory of their own. -/
def Flat {α : Type} (d : Kd α) : Prop := ∀ (Z G : Nat → Prop) (w w' : World) (x : α) (cs : List Value), d.K Z w x cs → d.M G w' x cs
theorem flat_flat {α : Type} (sz : Nat) (enc : α → List Value) (hl) (h1) : Flat (Kd.flat sz enc hl h1) := fun _ _ _ _ _ _ h => h
section
variable {α : Type} {dk : Kd α} {e : TypeId} {F : Nat → Prop} {w0 w w' : World} {M : List SP} {v : Value} {xs : List α}
/-- The cells of all elements that are read. -/
theorem RD.all {Z : Nat → Prop} {wr : World} {zs : List α} {v : Value} (hr : RD dk Z wr v zs) (hs : Same Z wr w) :
    ∃ (A : Option Addr) (c : Nat) (css : List (List Value)), v = .slice A zs.length c ∧ (A = none → zs = []) ∧ css.length = zs.length ∧ (∀ (i : Nat) (x : α) (cs : List Value), zs[i]? = some x → css[i]? = some cs → dk.K Z wr x cs) ∧ (∀ ad, A = some ad → ∀ (j : Nat) (u : Value), css.flatten[j]? = some u → w.cell? (ad.add j) = some u) ∧
      (∀ cs ∈ css, cs.length = dk.sz ∧ ∀ u ∈ cs, u.oneCell' = true) := by
  obtain ⟨A, c, rfl, hle, hm, hel⟩ := hr
  have hex : ∀ i, i < zs.length → ∃ cs, ∀ x, zs[i]? = some x → ∃ ad : Addr, A = some ad ∧ ad.spot = none ∧ Z ad.block ∧ dk.K Z wr x cs ∧ ∀ j u, cs[j]? = some u → wr.cell? ⟨ad.block, ad.off + (i * dk.sz + j), none⟩ = some u := by
    intro i hi
    obtain ⟨ad, h1, h2, h3, cs, h4, h5⟩ := hel i _ (List.getElem?_eq_getElem hi)
    refine ⟨cs, fun x hx => ?_⟩
    rw [List.getElem?_eq_getElem hi] at hx
    injection hx with hx
    subst hx
    exact ⟨ad, h1, h2, h3, h4, h5⟩
  obtain ⟨css, hl, hp⟩ := pick_list zs.length _ hex
  have hmem : ∀ i cs, css[i]? = some cs → ∃ x, zs[i]? = some x := fun i cs h => by
    have := (List.getElem?_eq_some_iff.1 h).1
    exact ⟨_, List.getElem?_eq_getElem (by omega)⟩
  have hlen : ∀ cs ∈ css, cs.length = dk.sz ∧ ∀ u ∈ cs, u.oneCell' = true := by
    intro cs hc
    obtain ⟨i, hi⟩ := List.getElem?_of_mem hc
    obtain ⟨x, hx⟩ := hmem i cs hi
    obtain ⟨ad, _, _, _, hK, _⟩ := hp i cs hi x hx
    exact ⟨dk.K_len hK, dk.K_one hK⟩
  refine ⟨A, c, css, rfl, ?_, hl, ?_, ?_, hlen⟩
  · intro hA
    cases zs with
    | nil => rfl
    | cons z zs =>
      obtain ⟨ad, h1, _⟩ := hel 0 z rfl
      rw [hA] at h1
      cases h1
  · intro i x cs hx hc
    obtain ⟨ad, _, _, _, hK, _⟩ := hp i cs hc x hx
    exact hK
  · intro ad hA j u hu
    obtain ⟨i, q, cs, rfl, h2, h3⟩ := flatten_inv (fun cs hc => (hlen cs hc).1) j u hu
    obtain ⟨x, hx⟩ := hmem i cs h2
    obtain ⟨ad', h4, h5, h6, hK, hc⟩ := hp i cs h2 x hx
    rw [hA] at h4
    injection h4 with h4
    subst h4
    have := hc q u h3
    have hk := cell_keep (w := wr) (a := ⟨ad.block, ad.off + (i * dk.sz + q), none⟩) (hs _ h6 (World.block_lt_of_cell? (a := ⟨ad.block, ad.off + (i * dk.sz + q), none⟩) wr this)) this
    have : ad.add (i * dk.sz + q) = ⟨ad.block, ad.off + (i * dk.sz + q), none⟩ := by
      obtain ⟨b, o, s⟩ := ad
      cases h5
      unfold Addr.add
      by_cases h0 : i * dk.sz + q = 0 <;> simp [h0]
    rw [this]
    exact hk
theorem Els.app {w : World} (hfl : Flat dk) {Z : Nat → Prop} {wr : World} {G : Nat → Prop} : ∀ (zs : List α) (cs2 : List (List Value)) (xs : List α) (css : List (List Value)), cs2.length = zs.length →
    (∀ (i : Nat) (x : α) (cs : List Value), zs[i]? = some x → cs2[i]? = some cs → dk.K Z wr x cs) → Els dk G w xs css → Els dk G w (xs ++ zs) (css ++ cs2)
  | [], [], xs, css, _, _, h => by simpa using h
  | z :: zs, c :: cs2, xs, css, hl, hK, h => by
    have := Els.app hfl zs cs2 (xs ++ [z]) (css ++ [c]) (by simpa using hl) (fun i x cs hx hc => hK (i + 1) x cs hx hc)
      (Els.snoc (G1 := G) (G2 := fun _ => False) (fun _ h => h) (fun _ h => h.elim) (fun _ _ h => h) h (hfl Z _ wr w z c (hK 0 z c rfl rfl)))
    simpa using this
  | [], _ :: _, _, _, hl, _, _ => by simp at hl
  | _ :: _, [], _, _, hl, _, _ => by simp at hl
end
section
variable {ρ : Option Nat} {Δ : List Deferred} variable {P : Program} {ops : Array Oper} {Q : Exit → Act → World → Prop} {a : Act} {w : World} {rest : List Oper} {N : Nat} {L : List (Nat × Value)}
variable {d ty : Nat} {pos : String} {af : Array Edge} {gd : Option (Nat × Bool)} {x y z : Operand}
variable {F : Nat → Prop} {w0 : World} {M : List SP}
/-- append(s, z...), s the call's own, z read; elements without memory of their own. -/
theorem r_appendN {α : Type} {dk : Kd α} {t e by_ bd : Nat} {v vz : Value} {xs ys zs : List α} {Z : Nat → Prop} {wr : World} (hst : ST Δ N a L) (hsh : SH F w0 w (Row dk e v xs :: M)) (hw : Wt ops L gd) (hd : Nat.blt d N = true)
    (ht : P.underlying t = some (.slice e)) (he : ElOf P e dk.sz by_) (hsz : 0 < dk.sz) (hbd : (bd + bd / 4 + 192) * by_ ≤ 281474976710656) (hby : 0 < by_) (hx : ev L x = some v) (hy : ev L y = some vz)
    (hfl : Flat dk) (hr : RD dk Z wr vz zs) (hs : Same Z wr w) (hp : pushN bd xs zs = some ys)
    (k : ∀ v' a w', SH F w0 w' (Row dk e v' ys :: M) → ST Δ N a ((d, v') :: L) → wpL ρ P ops Q rest a w') :
    wpL ρ P ops Q ({ dst := some d, op := .call { callee := .builtin .append, args := #[x, y], argTypes := #[t, t] }, type := ty, pos := pos, after := af, guard := gd } :: rest) a w := by
  obtain ⟨hlt, rfl⟩ := pushN_some hp
  obtain ⟨A, c, cs2, rfl, hnone, hl2, hK, hcell, hone⟩ := hr.all hs
  obtain ⟨G, hsp, hG, hk⟩ := SH.call (L1 := [Row dk e v xs]) (L2 := M) hsh
  obtain ⟨G1, G2, h1, h2, h3, hA, _⟩ := hsp
  have hbnd : ((xs.length + zs.length) + (xs.length + zs.length) / 4 + 192) * by_ ≤ 281474976710656 := Nat.le_trans (Nat.mul_le_mul_right _ (by omega)) hbd
  have hmx : xs.length + zs.length ≤ maxLen := by
    have := Nat.le_mul_of_pos_right ((xs.length + zs.length) + (xs.length + zs.length) / 4 + 192) hby
    simp only [maxLen]
    omega
  have hin : ∀ k, G1 k → k < w.heap.size := fun k hk => (hG k (h1 k hk)).1
  have hsame : zs = [] → (Builtin.append_ #[t, t] ty #[v, .slice A zs.length c]).run P w = .ok v w := by
    rintro rfl
    obtain ⟨inf, zz, hinf, hz, hzs, hisz, hib⟩ := he
    rcases hA with ⟨ad, rfl, rfl⟩ | ⟨css, hown, hblk, hels⟩
    · cases A <;> simp [Builtin.append_, run_underlying ht, sizeOf, typeInfo, hinf, Builtin.lenOf, Builtin.firstCells, storeCells, loadCells, loadCellsFrom]
    · rcases hown.2 with ⟨rfl, hn⟩ | ⟨g, cap, cur, rfl, _, _, hnc, _⟩
      · cases A <;> simp [Builtin.append_, run_underlying ht, sizeOf, typeInfo, hinf, Builtin.lenOf, Builtin.firstCells, storeCells, loadCells, loadCellsFrom, hn]
      · cases A <;> simp [Builtin.append_, run_underlying ht, sizeOf, typeInfo, hinf, Builtin.lenOf, Builtin.firstCells, storeCells, loadCells, loadCellsFrom, hnc]
  rcases Nat.eq_zero_or_pos zs.length with h0 | hpos
  · have := List.eq_nil_of_length_eq_zero h0
    subst this
    refine wl_val (v := v) (w' := w) hst hw ?_ (k v _ w ?_ (hst.put hd _))
    · have hr := hsame rfl
      simp only [execOp, resolve, invoke, builtin, Sem.run_bind, Sem.run_pure, Result.andThen_ok, List.map_toArray, List.map_cons, List.map_nil, hst.ev hx, hst.ev hy, hr]
    · rw [List.append_nil]
      exact hsh
  cases A with
  | none =>
    have := hnone rfl
    subst this
    simp at hpos
  | some ad =>
    have hfl2 := flatten_len (fun cs hc => (hone cs hc).1)
    obtain ⟨v, css, hown, hblk, hels, v', w', hrun, hown', hgr, hat⟩ := Own.append (P := P) ty hA ht he hsz ad zs.length c cs2.flatten (by rw [hfl2, hl2])
      (hcell ad rfl) (fun u hu => by
        obtain ⟨cs, hc, huc⟩ := List.mem_flatten.1 hu
        exact (hone cs hc).2 u huc) hmx hbnd hpos
    refine wl_val (v := v') (w' := w') hst hw ?_ (k v' _ w' ?_ (hst.put hd _))
    · simp only [execOp, resolve, invoke, builtin, Sem.run_bind, Sem.run_pure, Result.andThen_ok, List.map_toArray, List.map_cons, List.map_nil, hst.ev hx, hst.ev hy, hrun]
    · refine hk w' [Row dk e v' (xs ++ zs)] ⟨⟨hgr.os, hgr.tape, hgr.output, hgr.size, fun k hk hn => hgr.block k hk (fun hh => hn (h1 k (hblk k hh.symm)))⟩, Mine G w w', fun _ => False, fun k hk => hk, fun _ h => h.elim, fun _ _ h => h, ?_, trivial⟩
      have hne : ∀ k, k < w.heap.size → G1 k ∧ v.ownBlock ≠ some k → w'.heap[k]? = w.heap[k]? := fun k hk h => hgr.block k hk (fun hh => h.2 hh.symm)
      have hnb : ∀ k, k < w.heap.size → G1 k ∧ v.ownBlock ≠ some k → v'.ownBlock ≠ some k := by
        intro k hk h hh
        rcases hat with h' | h'
        · rw [h'] at hh
          exact h.2 hh
        · rw [h'] at hh
          injection hh with hh
          omega
      refine .inr ⟨css ++ cs2, ?_, ?_, ?_⟩
      · rw [List.length_append, List.flatten_append]
        exact hown'
      · intro k hk
        refine ⟨own_block_of hown' hk, ?_⟩
        rcases hat with h | h
        · exact .inl (h1 k (hblk k (h ▸ hk)))
        · rw [h] at hk
          injection hk with hk
          exact .inr (Nat.le_of_eq hk)
      · refine Els.app hfl zs cs2 xs css hl2 hK ((hels.inb.stable (w' := w') fun k hk hlt => hne k hlt hk.1).mono ?_)
        rintro k ⟨h, hk⟩
        exact ⟨⟨Nat.lt_of_lt_of_le hk hgr.size, .inl (h1 k h.1)⟩, hnb k hk h⟩
/-- A result that is kept in memory. -/
theorem retC {fn : Func} {R : Ending → World → Prop} {t g ty : Nat} {v : Value} (hst : ST [] N a L) (h : fn.results = #[.cell t ty]) (hv : look L t = some (.pointer (some ⟨g, 0, none⟩)))
    (hl : (loadVar ty ⟨g, 0, none⟩).run P w = .ok v w) (hR : R (.returned v) w) : bodyPost P fn R .ret a w := by
  refine bodyPost_ret (v := v) ?_ hst.defers hR
  have e1 := hst.get _ _ hv
  simp [results, h, e1, asAddr, hl]
theorem box_var {t g i e n : Nat} {cs : List Value} (hsh : SH F w0 w M) (ht : AgOf P t n) (hi : M[i]? = some (Box g cs e)) (hn : cs.length = n) :
    (loadVar t ⟨g, 0, none⟩).run P w = .ok (.agg cs.toArray) w := by
  subst hn
  have hc : w.rangeAt g 0 cs := fun m v hv => by
    rw [box_cell (hsh.box i hi)]
    simpa using hv
  exact loadVar_ag ht hc
theorem box_var1 {t g i e : Nat} {v : Value} {cs : List Value} (hsh : SH F w0 w M) (ht : ScOf P t) (hi : M[i]? = some (Box g cs e)) (hn : cs[0]? = some v) :
    (loadVar t ⟨g, 0, none⟩).run P w = .ok v w := loadVar_sc ht ((box_cell (hsh.box i hi) 0).trans hn)
theorem one_cons {v : Value} {vs : List Value} (h : v.oneCell' = true) (k : vs.all (·.oneCell') = true) : (v :: vs).all (·.oneCell') = true := by
  simp only [List.all_cons, h, k, Bool.and_self]
/-- A part of a list: from l up to h. -/
def cut {α : Type} (xs : List α) (l h : Int) : Option (List α) := if 0 ≤ l ∧ l ≤ h ∧ h ≤ xs.length then some ((xs.take h.toNat).drop l.toNat) else none
theorem bound_ok {k : IntKind} {i : Int} {n : Nat} {code : BoundsCode} {w : World} (h0 : 0 ≤ i) (h1 : i ≤ n) : (Instr.sliceBound (.int k i) n code).run P w = .ok i.toNat w := by
  simp [Instr.sliceBound, asIntOf, h0, h1]
/-- A slice cut, of what is read. -/
def cutV (v : Value) (l h sz : Nat) : Value := match v with
  | .slice A _ c => .slice (if c = l then A else A.map (·.add (l * sz))) (h - l) (c - l)
  | v => v
theorem RD.cut {α : Type} {dk : Kd α} {Z : Nat → Prop} {wr : World} {v : Value} {xs ys : List α} {l h : Int} (hr : RD dk Z wr v xs) (hsz : 0 < dk.sz) (hc : Sy.cut xs l h = some ys) : RD dk Z wr (cutV v l.toNat h.toNat dk.sz) ys := by
  unfold Sy.cut at hc
  split at hc
  · rename_i hb
    injection hc with hc
    subst hc
    obtain ⟨A, c, rfl, hle, hm, hel⟩ := hr
    have hlen : ((xs.take h.toNat).drop l.toNat).length = h.toNat - l.toNat := by simp; omega
    refine ⟨if c = l.toNat then A else A.map (·.add (l.toNat * dk.sz)), c - l.toNat, ?_, by rw [hlen]; omega, by omega, fun i x hi => ?_⟩
    · simp only [cutV, hlen]
    · have hi' : i < h.toNat - l.toNat := by rw [← hlen]; exact (List.getElem?_eq_some_iff.1 hi).1
      have hx : xs[l.toNat + i]? = some x := by
        rw [List.getElem?_drop, List.getElem?_take] at hi
        split at hi
        · exact hi
        · cases hi
      obtain ⟨ad, rfl, hsp, hZ, cs, hK, hcell⟩ := hel _ _ hx
      have hne : c ≠ l.toNat := by omega
      refine ⟨⟨ad.block, ad.off + l.toNat * dk.sz, none⟩, ?_, rfl, hZ, cs, hK, fun j u hu => ?_⟩
      · rw [if_neg hne]
        obtain ⟨b, o, s⟩ := ad
        cases hsp
        simp only [Option.map_some, Option.some.injEq]
        unfold Addr.add
        by_cases h0 : l.toNat * dk.sz = 0 <;> simp [h0]
      · have := hcell j u hu
        have e : ad.off + ((l.toNat + i) * dk.sz + j) = ad.off + l.toNat * dk.sz + (i * dk.sz + j) := by rw [Nat.add_mul]; omega
        rw [e] at this
        exact this
  · cases hc
theorem sizeOf_el {e sz by_ : Nat} (he : ElOf P e sz by_) : (sizeOf e).run P w = .ok sz w := by
  obtain ⟨inf, zz, hinf, hz, hzs, hisz, hib⟩ := he
  simp [sizeOf, typeInfo, hinf, hisz]
/-- s[:h] -/
theorem x_cutH {α : Type} {dk : Kd α} {Z : Nat → Prop} {wr : World} {t e by_ : Nat} {v : Value} {xs ys : List α} {h : Int} {kh : IntKind} {xh : Operand} (hst : ST Δ N a L) (ht : P.underlying t = some (.slice e)) (he : ElOf P e dk.sz by_) (hx : ev L x = some v) (hh : ev L xh = some (.int kh h))
    (hr : RD dk Z wr v xs) (hc : cut xs 0 h = some ys) : Tell P a w (.slice t x none (some xh) none) (cutV v (Int.toNat 0) h.toNat dk.sz) := fun o ho => by
  unfold cut at hc
  split at hc
  · rename_i hb
    obtain ⟨A, c, rfl, hle, hm, hel⟩ := hr
    simp [execOp, ho, hst.ev hx, hst.ev hh, Instr.sliceAt, Instr.slice, run_underlying ht, Instr.sliceBounds, bound_ok (P := P) (w := w) (k := kh) (n := c) (i := h) (code := .sliceAcap) (by omega) (by omega), sizeOf_el he, cutV]
  · cases hc
/-- s[l:] -/
theorem x_cutL {α : Type} {dk : Kd α} {Z : Nat → Prop} {wr : World} {t e by_ : Nat} {v : Value} {xs ys : List α} {l : Int} {kl : IntKind} {xl : Operand} (hst : ST Δ N a L) (ht : P.underlying t = some (.slice e)) (he : ElOf P e dk.sz by_) (hx : ev L x = some v) (hl : ev L xl = some (.int kl l))
    (hr : RD dk Z wr v xs) (hc : cut xs l xs.length = some ys) : Tell P a w (.slice t x (some xl) none none) (cutV v l.toNat (Int.toNat xs.length) dk.sz) := fun o ho => by
  unfold cut at hc
  split at hc
  · rename_i hb
    obtain ⟨A, c, rfl, hle, hm, hel⟩ := hr
    simp [execOp, ho, hst.ev hx, hst.ev hl, Instr.sliceAt, Instr.slice, run_underlying ht, Instr.sliceBounds, bound_ok (P := P) (w := w) (k := kl) (n := xs.length) (i := l) (code := .sliceB) (by omega) (by omega), sizeOf_el he, cutV]
  · cases hc
end
end Go.Proofs.YtbaemhkfmddakaaGreat.Sy
