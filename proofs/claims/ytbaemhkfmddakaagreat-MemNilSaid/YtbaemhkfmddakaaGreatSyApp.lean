import Derived.Test.YtbaemhkfmddakaaGreatSyMix
set_option linter.unusedVariables false
set_option linter.unusedSectionVars false
set_option linter.unusedSimpArgs false
namespace Go.Proofs.YtbaemhkfmddakaaGreat.Sy
open Go
theorem pick_list {β : Type} : ∀ (n : Nat) (p : Nat → β → Prop), (∀ i, i < n → ∃ x, p i x) → ∃ l : List β, l.length = n ∧ ∀ i x, l[i]? = some x → p i x
  | 0, _, _ => ⟨[], rfl, fun i x h => by simp at h⟩
  | n + 1, p, h => by
    obtain ⟨x, hx⟩ := h 0 (by omega)
    obtain ⟨l, hl, hp⟩ := pick_list n (fun i => p (i + 1)) (fun i hi => h (i + 1) (by omega))
    refine ⟨x :: l, by simp [hl], fun i y hy => ?_⟩
    cases i with
    | zero => simp at hy; subst hy; exact hx
    | succ i => exact hp i y (by simpa using hy)
theorem flatten_inv {sz : Nat} : ∀ {css : List (List Value)}, (∀ cs ∈ css, cs.length = sz) → ∀ (j : Nat) (u : Value), css.flatten[j]? = some u → ∃ i q cs, j = i * sz + q ∧ css[i]? = some cs ∧ cs[q]? = some u
  | [], _, j, u, h => by simp at h
  | c :: r, hl, j, u, h => by
    have hc := hl c (List.mem_cons_self ..)
    rw [List.flatten_cons] at h
    by_cases hj : j < c.length
    · rw [List.getElem?_append_left hj] at h
      exact ⟨0, j, c, by omega, rfl, h⟩
    · rw [List.getElem?_append_right (by omega)] at h
      obtain ⟨i, q, cs, h1, h2, h3⟩ := flatten_inv (fun cs hc => hl cs (List.mem_cons_of_mem _ hc)) _ u h
      exact ⟨i + 1, q, cs, by rw [Nat.add_mul]; omega, h2, h3⟩
section
variable {α : Type} {dk : Kd α} {e : TypeId} {F : Nat → Prop} {w0 w w' : World} {M : List SP} {v : Value} {xs : List α}
/-- The cells of all elements that are read. -/
theorem RD.all {Z : Nat → Prop} {wr : World} {zs : List α} {v : Value} (hr : RD dk Z wr v zs) (hs : Same Z wr w) :
    ∃ (A : Option Addr) (c : Nat) (css : List (List Value)), v = .slice A zs.length c ∧ (A = none → zs = []) ∧ css.length = zs.length ∧ (∀ (i : Nat) (x : α) (cs : List Value), zs[i]? = some x → css[i]? = some cs → dk.K Z wr x cs) ∧ (∀ ad, A = some ad → ∀ (j : Nat) (u : Value), css.flatten[j]? = some u → w.cell? (ad.add j) = some u) ∧
      (∀ cs ∈ css, cs.length = dk.sz ∧ ∀ u ∈ cs, u.oneCell' = true) := by
  obtain ⟨A, c, rfl, hle, hm, hel⟩ := hr
  have hex : ∀ i, i < zs.length → ∃ cs, ∀ x, zs[i]? = some x → ∃ ad : Addr, A = some ad ∧ ad.spot = none ∧ Z ad.block ∧ dk.K Z wr x cs ∧ ∀ j u, cs[j]? = some u → wr.cell? ⟨ad.block, ad.off + (i * dk.sz + j), none⟩ = some u := by
    intro i hi
    obtain ⟨ad, h1, h2, h3, cs, h4, h5⟩ := hel i _ (List.getElem?_eq_getElem hi)
    refine ⟨cs, fun x hx => ?_⟩
    rw [List.getElem?_eq_getElem hi] at hx
    injection hx with hx
    subst hx
    exact ⟨ad, h1, h2, h3, h4, h5⟩
  obtain ⟨css, hl, hp⟩ := pick_list zs.length _ hex
  have hmem : ∀ i cs, css[i]? = some cs → ∃ x, zs[i]? = some x := fun i cs h => by
    have := (List.getElem?_eq_some_iff.1 h).1
    exact ⟨_, List.getElem?_eq_getElem (by omega)⟩
  have hlen : ∀ cs ∈ css, cs.length = dk.sz ∧ ∀ u ∈ cs, u.oneCell' = true := by
    intro cs hc
    obtain ⟨i, hi⟩ := List.getElem?_of_mem hc
    obtain ⟨x, hx⟩ := hmem i cs hi
    obtain ⟨ad, _, _, _, hK, _⟩ := hp i cs hi x hx
    exact ⟨dk.K_len hK, dk.K_one hK⟩
  refine ⟨A, c, css, rfl, ?_, hl, ?_, ?_, hlen⟩
  · intro hA
    cases zs with
    | nil => rfl
    | cons z zs =>
      obtain ⟨ad, h1, _⟩ := hel 0 z rfl
      rw [hA] at h1
      cases h1
  · intro i x cs hx hc
    obtain ⟨ad, _, _, _, hK, _⟩ := hp i cs hc x hx
    exact hK
  · intro ad hA j u hu
    obtain ⟨i, q, cs, rfl, h2, h3⟩ := flatten_inv (fun cs hc => (hlen cs hc).1) j u hu
    obtain ⟨x, hx⟩ := hmem i cs h2
    obtain ⟨ad', h4, h5, h6, hK, hc⟩ := hp i cs h2 x hx
    rw [hA] at h4
    injection h4 with h4
    subst h4
    have := hc q u h3
    have hk := cell_keep (w := wr) (a := ⟨ad.block, ad.off + (i * dk.sz + q), none⟩) (hs _ h6 (World.block_lt_of_cell? (a := ⟨ad.block, ad.off + (i * dk.sz + q), none⟩) wr this)) this
    have : ad.add (i * dk.sz + q) = ⟨ad.block, ad.off + (i * dk.sz + q), none⟩ := by
      obtain ⟨b, o, s⟩ := ad
      cases h5
      unfold Addr.add
      by_cases h0 : i * dk.sz + q = 0 <;> simp [h0]
    rw [this]
    exact hk
end
section
variable {ρ : Option Nat} {Δ : List Deferred} variable {P : Program} {ops : Array Oper} {Q : Exit → Act → World → Prop} {a : Act} {w : World} {rest : List Oper} {N : Nat} {L : List (Nat × Value)}
variable {d ty : Nat} {pos : String} {af : Array Edge} {gd : Option (Nat × Bool)} {x y z : Operand}
variable {F : Nat → Prop} {w0 : World} {M : List SP}
theorem box_var {t g i e n : Nat} {cs : List Value} (hsh : SH F w0 w M) (ht : AgOf P t n) (hi : M[i]? = some (Box g cs e)) (hn : cs.length = n) :
    (loadVar t ⟨g, 0, none⟩).run P w = .ok (.agg cs.toArray) w := by
  subst hn
  have hc : w.rangeAt g 0 cs := fun m v hv => by
    rw [box_cell (hsh.box i hi)]
    simpa using hv
  exact loadVar_ag ht hc
/-- A part of a list: from l up to h. -/
def cut {α : Type} (xs : List α) (l h : Int) : Option (List α) := if 0 ≤ l ∧ l ≤ h ∧ h ≤ xs.length then some ((xs.take h.toNat).drop l.toNat) else none
/-- A slice cut, of what is read. -/
def cutV (v : Value) (l h sz : Nat) : Value := match v with
  | .slice A _ c => .slice (if c = l then A else A.map (·.add (l * sz))) (h - l) (c - l)
  | v => v
theorem RD.cut {α : Type} {dk : Kd α} {Z : Nat → Prop} {wr : World} {v : Value} {xs ys : List α} {l h : Int} (hr : RD dk Z wr v xs) (hsz : 0 < dk.sz) (hc : Sy.cut xs l h = some ys) : RD dk Z wr (cutV v l.toNat h.toNat dk.sz) ys := by
  unfold Sy.cut at hc
  split at hc
  · rename_i hb
    injection hc with hc
    subst hc
    obtain ⟨A, c, rfl, hle, hm, hel⟩ := hr
    have hlen : ((xs.take h.toNat).drop l.toNat).length = h.toNat - l.toNat := by simp; omega
    refine ⟨if c = l.toNat then A else A.map (·.add (l.toNat * dk.sz)), c - l.toNat, ?_, by rw [hlen]; omega, by omega, fun i x hi => ?_⟩
    · simp only [cutV, hlen]
    · have hi' : i < h.toNat - l.toNat := by rw [← hlen]; exact (List.getElem?_eq_some_iff.1 hi).1
      have hx : xs[l.toNat + i]? = some x := by
        rw [List.getElem?_drop, List.getElem?_take] at hi
        split at hi
        · exact hi
        · cases hi
      obtain ⟨ad, rfl, hsp, hZ, cs, hK, hcell⟩ := hel _ _ hx
      have hne : c ≠ l.toNat := by omega
      refine ⟨⟨ad.block, ad.off + l.toNat * dk.sz, none⟩, ?_, rfl, hZ, cs, hK, fun j u hu => ?_⟩
      · rw [if_neg hne]
        obtain ⟨b, o, s⟩ := ad
        cases hsp
        simp only [Option.map_some, Option.some.injEq]
        unfold Addr.add
        by_cases h0 : l.toNat * dk.sz = 0 <;> simp [h0]
      · have := hcell j u hu
        have e : ad.off + ((l.toNat + i) * dk.sz + j) = ad.off + l.toNat * dk.sz + (i * dk.sz + j) := by rw [Nat.add_mul]; omega
        rw [e] at this
        exact this
  · cases hc
end
end Go.Proofs.YtbaemhkfmddakaaGreat.Sy
