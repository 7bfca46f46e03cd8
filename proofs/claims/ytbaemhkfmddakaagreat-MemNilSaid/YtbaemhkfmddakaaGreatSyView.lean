import Derived.Test.YtbaemhkfmddakaaGreatSyStore
import Derived.Laws.MakeOwn
set_option linter.unusedVariables false
set_option linter.unusedSectionVars false
set_option linter.unusedSimpArgs false
namespace Go.Proofs.YtbaemhkfmddakaaGreat.Sy
open Go
section
variable {α : Type} {dk : Kd α} {e : TypeId} {F : Nat → Prop} {w0 w wr : World} {M : List SP} {v : Value} {xs ys : List α} {Z : Nat → Prop}
end
theorem addr_add0 (a : Addr) : a.add 0 = a := by simp [Addr.add]
theorem cutV_twice (v0 : Value) (m h sz : Nat) : cutV (cutV v0 0 m sz) 0 h sz = cutV v0 0 h sz := by
  have ha : ∀ a : Addr, a.add 0 = a := addr_add0
  cases v0 with
  | slice A n c => cases A <;> simp [cutV, ha]
  | _ => rfl
theorem cut_front {α : Type} (xs ys : List α) : cut (xs ++ ys) 0 (xs.length : Int) = some xs := by
  unfold cut
  rw [if_pos (by simp; omega)]
  simp
theorem Els.take {α : Type} {d : Kd α} {w : World} : ∀ {xs ys : List α} {css : List (List Value)} {G : Nat → Prop}, Els d G w (xs ++ ys) css → Els d G w xs (css.take xs.length)
  | [], ys, css, G, h => by cases css <;> exact trivial
  | x :: xs, ys, cs :: css, G, ⟨G1, G2, h1, h2, h3, hx, h⟩ => ⟨G1, G2, h1, h2, h3, hx, Els.take (ys := ys) h⟩
  | x :: xs, ys, [], G, h => by cases h
/-- Read, with ys behind its end. -/
def WRD {α : Type} (d : Kd α) (Z : Nat → Prop) (w : World) (v : Value) (xs ys : List α) : Prop := ∃ v0, v = cutV v0 0 xs.length d.sz ∧ RD d Z w v0 (xs ++ ys)
section
variable {α : Type} {dk : Kd α} {e : TypeId} {F : Nat → Prop} {w0 w wr : World} {M : List SP} {v : Value} {xs ys zs : List α} {Z : Nat → Prop}
theorem WRD.rd (h : WRD dk Z w v xs ys) (hsz : 0 < dk.sz) : RD dk Z w v xs := by
  obtain ⟨v0, rfl, h⟩ := h
  have := h.cut hsz (cut_front xs ys)
  simpa using this
theorem WRD.cut (h : WRD dk Z w v xs ys) (hsz : 0 < dk.sz) {hh : Int} (hc : Sy.cut (xs ++ ys) 0 hh = some zs) : RD dk Z w (cutV v (Int.toNat 0) hh.toNat dk.sz) zs := by
  obtain ⟨v0, rfl, h⟩ := h
  have := h.cut hsz hc
  simp only [Int.toNat_zero] at this ⊢
  rw [cutV_twice]
  exact this
end
section
variable {ρ : Option Nat} {Δ : List Deferred} variable {P : Program} {ops : Array Oper} {Q : Exit → Act → World → Prop} {a : Act} {w : World} {rest : List Oper} {N : Nat} {L : List (Nat × Value)}
variable {d ty : Nat} {pos : String} {af : Array Edge} {gd : Option (Nat × Bool)} {x y z : Operand}
variable {F : Nat → Prop} {w0 : World} {M : List SP}
end
def MF {α : Type} (d : Kd α) (C : List SP) (x : α) (cs : List Value) : Prop := ∀ G w, Sep G w C → d.M G w x cs
theorem mf_flat {α : Type} {sz : Nat} {enc : α → List Value} {hl h1} {x : α} : MF (Kd.flat sz enc hl h1) [] x (enc x) := fun _ _ _ => rfl
def EF {α : Type} (d : Kd α) (C : List SP) (xs : List α) (css : List (List Value)) : Prop := ∀ G w, Sep G w C → Els d G w xs css
theorem ef_nil {α : Type} {d : Kd α} : EF d [] [] [] := fun _ _ _ => trivial
theorem ef_cons {α : Type} {d : Kd α} {C1 C2 : List SP} {x : α} {cs : List Value} {xs : List α} {css : List (List Value)} (h1 : MF d C1 x cs) (h2 : EF d C2 xs css) : EF d (C1 ++ C2) (x :: xs) (cs :: css) := fun G w h => by
  obtain ⟨G1, G2, k1, k2, k3, s1, s2⟩ := h.split
  exact ⟨G1, G2, k1, k2, k3, h1 _ _ s1, h2 _ _ s2⟩
theorem ef_rep {α : Type} {d : Kd α} {x : α} {cs : List Value} (h : MF d [] x cs) : ∀ n, EF d [] (List.replicate n x) (List.replicate n cs)
  | 0 => ef_nil
  | n + 1 => ef_cons (C1 := []) (C2 := []) h (ef_rep h n)
/-- A literal of elements with memory of their own. -/
theorem SH.boxRowM {α : Type} {dk : Kd α} {F : Nat → Prop} {w0 w : World} {C M : List SP} {g n : Nat} {cs : List Value} {e : TypeId} (xs : List α) {css : List (List Value)} (h : SH F w0 w (Box g cs e :: C ++ M)) (hE : EF dk C xs css) (hcs : cs = css.flatten) (hn : n = xs.length) (hm : n ≤ maxLen) :
    SH F w0 w (Row dk e (.slice (some ⟨g, 0, none⟩) n n) xs :: M) := by
  obtain ⟨hk, hs⟩ := h
  obtain ⟨A1, A2, a1, a2, a3, ⟨G1, G2, k1, k2, k3, ⟨hg, hb⟩, hC⟩, hr⟩ := Sep.split (L := Box g cs e :: C) hs
  have hE' := hE _ _ hC
  have hl := fun cs hc => (hE'.lens cs hc).1
  have hfl := flatten_len hl
  rw [hE'.length] at hfl
  subst hn
  subst hcs
  refine ⟨hk, A1, A2, a1, a2, a3, .inr ⟨css, ⟨hfl, .inr ⟨g, xs.length, _, rfl, Nat.zero_le _, hb, Nat.le_refl _, hm, by simpa using hfl, List.take_of_length_le (Nat.le_of_eq hfl)⟩⟩, ?_, ?_⟩, hr⟩
  · intro k hk
    simp [Value.ownBlock] at hk
    subst hk
    exact k1 _ hg
  · refine hE'.mono fun k hk => ⟨k2 k hk, ?_⟩
    simp only [Value.ownBlock]
    intro e
    injection e with e
    subst e
    exact k3 _ hg hk
def ElsH {α : Type} (d : Kd α) : Nat → (Nat → Prop) → World → List α → List (List Value) → Prop
  | _, _, _, [], [] => True
  | 0, G, w, _ :: xs, cs :: css => (cs.length = d.sz ∧ ∀ u ∈ cs, u.oneCell' = true) ∧ Els d G w xs css
  | i + 1, G, w, x :: xs, cs :: css => ∃ G1 G2 : Nat → Prop, (∀ k, G1 k → G k) ∧ (∀ k, G2 k → G k) ∧ (∀ k, G1 k → ¬ G2 k) ∧ d.M G1 w x cs ∧ ElsH d i G2 w xs css
  | _, _, _, _, _ => False
section
variable {α : Type} {d : Kd α}
theorem ElsH.stable {w w' : World} : ∀ {i : Nat} {xs : List α} {css : List (List Value)} {G : Nat → Prop}, (∀ k, G k → k < w.heap.size → w'.heap[k]? = w.heap[k]?) → ElsH d i G w xs css → ElsH d i G w' xs css
  | 0, [], [], _, _, _ => trivial
  | _ + 1, [], [], _, _, _ => trivial
  | 0, _ :: _, _ :: _, _, hs, ⟨h1, h2⟩ => ⟨h1, h2.stable hs⟩
  | i + 1, _ :: _, _ :: _, _, hs, ⟨G1, G2, h1, h2, h3, hx, h⟩ => ⟨G1, G2, h1, h2, h3, d.M_stable (fun k hk => hs k (h1 k hk)) hx, ElsH.stable (fun k hk => hs k (h2 k hk)) h⟩
  | 0, [], _ :: _, _, _, h => h.elim
  | 0, _ :: _, [], _, _, h => h.elim
  | _ + 1, [], _ :: _, _, _, h => h.elim
  | _ + 1, _ :: _, [], _, _, h => h.elim
theorem ElsH.mono {w : World} : ∀ {i : Nat} {xs : List α} {css : List (List Value)} {G G' : Nat → Prop}, (∀ k, G k → G' k) → ElsH d i G w xs css → ElsH d i G' w xs css
  | 0, [], [], _, _, _, _ => trivial
  | _ + 1, [], [], _, _, _, _ => trivial
  | 0, _ :: _, _ :: _, _, _, hs, ⟨h1, h2⟩ => ⟨h1, h2.mono hs⟩
  | i + 1, _ :: _, _ :: _, _, _, hs, ⟨G1, G2, h1, h2, h3, hx, h⟩ => ⟨G1, G2, fun k hk => hs k (h1 k hk), fun k hk => hs k (h2 k hk), h3, hx, h⟩
  | 0, [], _ :: _, _, _, _, h => h.elim
  | 0, _ :: _, [], _, _, _, h => h.elim
  | _ + 1, [], _ :: _, _, _, _, h => h.elim
  | _ + 1, _ :: _, [], _, _, _, h => h.elim
theorem ElsH.inb {w : World} : ∀ {i : Nat} {xs : List α} {css : List (List Value)} {G : Nat → Prop}, ElsH d i G w xs css → ElsH d i (fun k => G k ∧ k < w.heap.size) w xs css
  | 0, [], [], _, _ => trivial
  | _ + 1, [], [], _, _ => trivial
  | 0, _ :: _, _ :: _, _, ⟨h1, h2⟩ => ⟨h1, h2.inb⟩
  | i + 1, _ :: _, _ :: _, _, ⟨G1, G2, h1, h2, h3, hx, h⟩ =>
    ⟨fun k => G1 k ∧ k < w.heap.size, fun k => G2 k ∧ k < w.heap.size, fun k hk => ⟨h1 k hk.1, hk.2⟩, fun k hk => ⟨h2 k hk.1, hk.2⟩, fun k hk hk' => h3 k hk.1 hk'.1, d.M_inb hx, ElsH.inb h⟩
  | 0, [], _ :: _, _, h => h.elim
  | 0, _ :: _, [], _, h => h.elim
  | _ + 1, [], _ :: _, _, h => h.elim
  | _ + 1, _ :: _, [], _, h => h.elim
theorem ElsH.lens {w : World} : ∀ {i : Nat} {xs : List α} {css : List (List Value)} {G : Nat → Prop}, ElsH d i G w xs css → ∀ cs ∈ css, cs.length = d.sz ∧ ∀ u ∈ cs, u.oneCell' = true
  | 0, [], [], _, _, cs, hc => by simp at hc
  | _ + 1, [], [], _, _, cs, hc => by simp at hc
  | 0, _ :: _, c :: css, _, ⟨h1, h2⟩, cs, hc => by
    rcases List.mem_cons.1 hc with rfl | hc
    · exact h1
    · exact h2.lens cs hc
  | i + 1, _ :: _, c :: css, _, ⟨G1, G2, h1, h2, h3, hx, h⟩, cs, hc => by
    rcases List.mem_cons.1 hc with rfl | hc
    · exact ⟨d.K_len (d.M_K hx), d.K_one (d.M_K hx)⟩
    · exact h.lens cs hc
  | 0, [], _ :: _, _, h, _, _ => h.elim
  | 0, _ :: _, [], _, h, _, _ => h.elim
  | _ + 1, [], _ :: _, _, h, _, _ => h.elim
  | _ + 1, _ :: _, [], _, h, _, _ => h.elim
theorem ElsH.shut {w : World} {y : α} {c : List Value} : ∀ {i : Nat} {xs : List α} {css : List (List Value)} {G1 G2 G : Nat → Prop}, (∀ k, G1 k → G k) → (∀ k, G2 k → G k) → (∀ k, G1 k → ¬ G2 k) →
    i < xs.length → ElsH d i G1 w xs css → d.M G2 w y c → Els d G w (xs.set i y) (css.set i c)
  | i, [], css, _, _, _, _, _, _, hi, _, _ => by simp at hi
  | 0, x :: xs, cs :: css, G1, G2, G, h1, h2, h3, _, ⟨_, h⟩, hm => ⟨G2, G1, h2, h1, fun k hk hk' => h3 k hk' hk, hm, h⟩
  | i + 1, x :: xs, cs :: css, G1, G2, G, h1, h2, h3, hi, ⟨E1, E2, e1, e2, e3, hx, h⟩, hm => by
    refine ⟨E1, fun k => E2 k ∨ G2 k, fun k hk => h1 k (e1 k hk), fun k hk => hk.elim (fun h => h1 k (e2 k h)) (h2 k), ?_, hx, ElsH.shut (G1 := E2) (G2 := G2) (fun _ => .inl) (fun _ => .inr) (fun k hk hk' => h3 k (e2 k hk) hk') (by simpa using hi) h hm⟩
    rintro k hk (h' | h')
    · exact e3 k hk h'
    · exact h3 k (e1 k hk) h'
  | 0, _ :: _, [], _, _, _, _, _, _, _, h, _ => h.elim
  | _ + 1, _ :: _, [], _, _, _, _, _, _, _, h, _ => h.elim
end
section
variable {α : Type} {dk : Kd α} {e e' : TypeId} {F : Nat → Prop} {w0 w : World} {M : List SP} {v u : Value}
end
section
variable {α : Type} {dk : Kd α} {e e' : TypeId} {F : Nat → Prop} {w0 w : World} {M : List SP} {v u : Value}
end
section
variable {ρ : Option Nat} {Δ : List Deferred} variable {P : Program} {ops : Array Oper} {Q : Exit → Act → World → Prop} {a : Act} {w : World} {rest : List Oper} {N : Nat} {L : List (Nat × Value)}
variable {d ty : Nat} {pos : String} {af : Array Edge} {gd : Option (Nat × Bool)} {x y z : Operand}
variable {F : Nat → Prop} {w0 : World} {M : List SP}
end
section
variable {ρ : Option Nat} {Δ : List Deferred} variable {P : Program} {ops : Array Oper} {Q : Exit → Act → World → Prop} {a : Act} {w : World} {rest : List Oper} {N : Nat} {L : List (Nat × Value)}
variable {d ty : Nat} {pos : String} {af : Array Edge} {gd : Option (Nat × Bool)} {x y z : Operand}
variable {F : Nat → Prop} {w0 : World} {M : List SP}
/-- make([]T, n) -/
def mkS {α : Type} (N : Nat) (n : Int) (z : α) : Option (List α) := if 0 ≤ n ∧ n ≤ N then some (List.replicate n.toNat z) else none
theorem madeCells_rep (zc : List Value) (h0 : 0 < zc.length) (n : Nat) : (madeCells zc.toArray (n * zc.length)).toList = (List.replicate n zc).flatten := by
  have hl : ∀ cs ∈ List.replicate n zc, cs.length = zc.length := fun cs hc => by rw [(List.mem_replicate.1 hc).2]
  refine List.ext_getElem? fun j => ?_
  by_cases hj : j < n * zc.length
  · have hq : j / zc.length < n := Nat.div_lt_of_lt_mul (by rw [Nat.mul_comm]; exact hj)
    have hr : j % zc.length < zc.length := Nat.mod_lt _ h0
    have hf := flatten_get hl (j / zc.length) zc (by rw [List.getElem?_replicate]; simp [hq]) (j % zc.length) zc[j % zc.length] (List.getElem?_eq_getElem hr)
    rw [Nat.mul_comm, Nat.div_add_mod] at hf
    rw [hf]
    simp [madeCells, hj, hr]
  · have h1 : (List.replicate n zc).flatten.length = n * zc.length := by rw [flatten_len hl, List.length_replicate]
    rw [List.getElem?_eq_none (l := (madeCells zc.toArray (n * zc.length)).toList) (by simp [madeCells]; omega), List.getElem?_eq_none (by rw [h1]; omega)]
theorem r_makeSlice {α : Type} {dk : Kd α} {t e by_ bd : Nat} {n : Int} {z : α} {zc : List Value} {xs : List α} {kl : IntKind} (hst : ST Δ N a L) (hsh : SH F w0 w M) (hw : Wt ops L gd) (hd : Nat.blt d N = true)
    (ht : P.underlying t = some (.slice e)) (he : ElOf P e dk.sz by_) (hz : ZrOf P e zc) (hbd : bd * by_ ≤ 281474976710656) (hby : 0 < by_) (hx : ev L x = some (.int kl n)) (hy : ev L y = some (.int kl n))
    (hM : MF dk [] z zc) (hp : mkS bd n z = some xs)
    (k : ∀ v' a w', SH F w0 w' (Row dk e v' xs :: M) → ST Δ N a ((d, v') :: L) → wpL ρ P ops Q rest a w') :
    wpL ρ P ops Q ({ dst := some d, op := .makeSlice t x y, type := ty, pos := pos, after := af, guard := gd } :: rest) a w := by
  unfold mkS at hp
  split at hp
  case isFalse => cases hp
  rename_i hb
  injection hp with hp
  subst hp
  obtain ⟨inf, zz, hinf, hzz, hzs, hisz, hib⟩ := he
  obtain ⟨inf', zz', hinf', hzz', hzc⟩ := hz
  rw [hinf] at hinf'
  injection hinf' with hinf'
  subst hinf'
  rw [hzz] at hzz'
  injection hzz' with hzz'
  subst hzz'
  have hzl : zc.length = dk.sz := by rw [hzc] at hzs; simpa using hzs
  have hn : n.toNat ≤ bd := by omega
  have hbig : n.toNat * by_ ≤ 281474976710656 := Nat.le_trans (Nat.mul_le_mul_right _ hn) hbd
  have hsm : n.toNat ≤ 281474976710656 := Nat.le_trans (Nat.le_mul_of_pos_right _ hby) hbig
  have hbytes : (inf.bytes : Int) * n ≤ 281474976710656 := by
    rw [hib]
    have : ((n.toNat * by_ : Nat) : Int) ≤ (281474976710656 : Nat) := Int.ofNat_le.2 hbig
    rw [Int.natCast_mul, Int.toNat_of_nonneg hb.1, Int.mul_comm] at this
    omega
  have hr := run_make (P := P) w t e inf zz ht hinf hzz kl kl n n hb.1 (Int.le_refl _) hbytes (by omega)
  have hcells : (madeCells zz.cells (n.toNat * inf.size)) = ((List.replicate n.toNat zc).flatten).toArray := by
    rw [hisz, hzc, ← hzl]
    by_cases h0 : zc.length = 0
    · have : zc = [] := List.eq_nil_of_length_eq_zero h0
      subst this
      simp [madeCells]
    · rw [← madeCells_rep zc (by omega)]
  rw [hcells] at hr
  refine wl_val (v := .slice (some ⟨w.heap.size, 0, none⟩) n.toNat n.toNat) (w' := w.alloc (.cells ((List.replicate n.toNat zc).flatten).toArray e)) hst hw ?_ (k _ _ _ ?_ (hst.put hd _))
  · simp [execOp, hst.ev hx, hst.ev hy, hr]
  · exact SH.boxRowM (C := []) _ (hsh.alloc _ e) (ef_rep hM n.toNat) rfl (List.length_replicate).symm (by have : maxLen = 9223372036854775807 := rfl; omega)
end
section
variable {ρ : Option Nat} {Δ : List Deferred} variable {P : Program} {a : Act} {w : World} {N : Nat} {L : List (Nat × Value)}
theorem ret_ct {fn : Func} {R : Ending → World → Prop} {t0 : Nat} {v0 : Value} {g0 ty0 : Nat} {t1 : Nat} {v1 : Value} (hst : ST [] N a L) (h : fn.results = #[.cell t0 ty0, .tmp t1]) (h0 : look L t0 = some (.pointer (some ⟨g0, 0, none⟩))) (l0 : (loadVar ty0 ⟨g0, 0, none⟩).run P w = .ok v0 w) (h1 : look L t1 = some v1)
    (hR : R (.returned (.tuple #[v0, v1])) w) : bodyPost P fn R .ret a w := by
  refine bodyPost_ret (v := .tuple #[v0, v1]) ?_ hst.defers hR
  have e0 := hst.get _ _ h0
  have e1 := hst.get _ _ h1
  simp [results, h, e0, e1, asAddr, l0]
end
section
variable {ρ : Option Nat} {Δ : List Deferred} variable {P : Program} {ops : Array Oper} {Q : Exit → Act → World → Prop} {a : Act} {w : World} {rest : List Oper} {N : Nat} {L : List (Nat × Value)}
variable {d ty : Nat} {pos : String} {af : Array Edge} {gd : Option (Nat × Bool)} {x y z : Operand}
variable {F : Nat → Prop} {w0 : World} {M : List SP}
/-- A literal of slices that is only read, where it stands. -/
def RDs {α : Type} (d : Kd α) (w : World) : List Value → List (List α) → Prop
  | [], [] => True
  | v :: vs, x :: xs => RD d (fun _ => True) w v x ∧ RDs d w vs xs
  | _, _ => False
theorem RDs.nil {α : Type} {d : Kd α} {w : World} : RDs d w [] [] := trivial
theorem RDs.cons {α : Type} {d : Kd α} {Z : Nat → Prop} {wr w : World} {v : Value} {x : List α} {vs : List Value} {xs : List (List α)} (h : RD d Z wr v x) (hs : Same Z wr w) (k : RDs d w vs xs) : RDs d w (v :: vs) (x :: xs) :=
  ⟨(h.stable (w' := w) fun k hz hk => hs k hz hk).mono fun _ _ => trivial, k⟩
theorem RDs.get {α : Type} {d : Kd α} {w : World} : ∀ {vs : List Value} {xs : List (List α)}, RDs d w vs xs → ∀ (i : Nat) (x : List α), xs[i]? = some x → ∃ v, vs[i]? = some v ∧ RD d (fun _ => True) w v x
  | [], [], _, i, x, h => by simp at h
  | v :: vs, y :: ys, h, 0, x, hx => by simp at hx; subst hx; exact ⟨v, rfl, h.1⟩
  | v :: vs, y :: ys, h, i + 1, x, hx => by
    obtain ⟨u, h1, h2⟩ := RDs.get h.2 i x (by simpa using hx)
    exact ⟨u, by simpa using h1, h2⟩
  | [], _ :: _, h, _, _, _ => h.elim
  | _ :: _, [], h, _, _, _ => h.elim
theorem RDs.len {α : Type} {d : Kd α} {w : World} : ∀ {vs : List Value} {xs : List (List α)}, RDs d w vs xs → vs.length = xs.length
  | [], [], _ => rfl
  | v :: vs, y :: ys, h => by simp [RDs.len h.2]
  | [], _ :: _, h => h.elim
  | _ :: _, [], h => h.elim
theorem RD.lit {α : Type} {d : Kd α} {e t g n i : Nat} {vs : List Value} {xs : List (List α)} (hsh : SH F w0 w M) (hi : M[i]? = some (Box g vs t)) (h : RDs d w vs xs) (hn : n = xs.length) (hm : n ≤ maxLen) : RD (Kd.slice e d) (fun _ => True) w (.slice (some ⟨g, 0, none⟩) n n) xs := by
  subst hn
  refine ⟨_, _, rfl, Nat.le_refl _, hm, fun i x hx => ⟨⟨g, 0, none⟩, rfl, rfl, trivial, ?_⟩⟩
  obtain ⟨v, h1, h2⟩ := h.get i x hx
  refine ⟨[v], ⟨v, rfl, h2⟩, fun j u hu => ?_⟩
  obtain rfl : j = 0 := by
    rcases Nat.eq_zero_or_pos j with h | h
    · exact h
    · rw [List.getElem?_eq_none (by simp; omega)] at hu; cases hu
  simp at hu
  subst hu
  rw [box_cell (hsh.box _ hi)]
  simpa [Kd.slice] using h1
end
end Go.Proofs.YtbaemhkfmddakaaGreat.Sy
