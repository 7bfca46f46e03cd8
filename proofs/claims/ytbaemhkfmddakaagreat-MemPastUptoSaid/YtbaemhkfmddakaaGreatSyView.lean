import Derived.Test.YtbaemhkfmddakaaGreatSyStore
import Derived.Laws.MakeOwn
set_option linter.unusedVariables false
set_option linter.unusedSectionVars false
set_option linter.unusedSimpArgs false
namespace Go.Proofs.YtbaemhkfmddakaaGreat.Sy
open Go
/-- Blocks of Z read as they did in wr. -/
def Frz (Z : Nat → Prop) (wr : World) : SP where
  H G w := (∀ k, Z k → k < wr.heap.size ∧ G k) ∧ Same Z wr w
  stable hs h := ⟨h.1, fun k hz hk => (hs k (h.1 k hz).2 (h.2.in hz hk)).trans (h.2 k hz hk)⟩
  mono hs h := ⟨fun k hz => ⟨(h.1 k hz).1, hs k (h.1 k hz).2⟩, h.2⟩
  inb h := ⟨fun k hz => ⟨(h.1 k hz).1, (h.1 k hz).2, h.2.in hz (h.1 k hz).1⟩, h.2⟩
section
variable {α : Type} {dk : Kd α} {e : TypeId} {F : Nat → Prop} {w0 w wr : World} {M : List SP} {v : Value} {xs ys : List α} {Z : Nat → Prop}
theorem SH.freeze (h : SH F w0 w M) (i : Nat) (hi : M[i]? = some (Row dk e v xs)) : ∃ Z, Own dk e Z w v xs ∧ SH F w0 w (Frz Z w :: M.eraseIdx i) := by
  obtain ⟨G1, G2, h1, h2, h3, hA, hr⟩ := h.sep.pull i hi
  exact ⟨_, Own.inb hA, h.kp, G1, G2, h1, h2, h3, ⟨fun k hk => ⟨hk.2, hk.1⟩, Same.refl _ _⟩, hr⟩
theorem SH.frz (h : SH F w0 w M) (i : Nat) (hi : M[i]? = some (Frz Z wr)) : Same Z wr w := (h.sep.pull i hi).head.2
theorem SH.thaw (h : SH F w0 w M) (i : Nat) (hi : M[i]? = some (Frz Z wr)) (ho : Own dk e Z wr v xs) : SH F w0 w (Row dk e v xs :: M.eraseIdx i) := by
  obtain ⟨G1, G2, h1, h2, h3, hA, hr⟩ := h.sep.pull i hi
  exact ⟨h.kp, G1, G2, h1, h2, h3, (ho.stable (w' := w) fun k hz hk => hA.2 k hz hk).mono fun k hz => (hA.1 k hz).2, hr⟩
end
theorem addr_add0 (a : Addr) : a.add 0 = a := by simp [Addr.add]
theorem cutV_twice (v0 : Value) (m h sz : Nat) : cutV (cutV v0 0 m sz) 0 h sz = cutV v0 0 h sz := by
  have ha : ∀ a : Addr, a.add 0 = a := addr_add0
  cases v0 with
  | slice A n c => cases A <;> simp [cutV, ha]
  | _ => rfl
theorem cut_front {α : Type} (xs ys : List α) : cut (xs ++ ys) 0 (xs.length : Int) = some xs := by
  unfold cut
  rw [if_pos (by simp; omega)]
  simp
theorem Els.take {α : Type} {d : Kd α} {w : World} : ∀ {xs ys : List α} {css : List (List Value)} {G : Nat → Prop}, Els d G w (xs ++ ys) css → Els d G w xs (css.take xs.length)
  | [], ys, css, G, h => by cases css <;> exact trivial
  | x :: xs, ys, cs :: css, G, ⟨G1, G2, h1, h2, h3, hx, h⟩ => ⟨G1, G2, h1, h2, h3, hx, Els.take (ys := ys) h⟩
  | x :: xs, ys, [], G, h => by cases h
theorem flatten_take {sz : Nat} : ∀ {css : List (List Value)} (n : Nat), (∀ cs ∈ css, cs.length = sz) → (css.take n).flatten = css.flatten.take (n * sz)
  | [], n, _ => by simp
  | c :: r, 0, _ => by simp
  | c :: r, n + 1, h => by
    have hc := h c (List.mem_cons_self ..)
    rw [List.take_succ_cons, List.flatten_cons, List.flatten_cons, flatten_take n (fun cs hcs => h cs (List.mem_cons_of_mem _ hcs)), Nat.add_mul, Nat.one_mul, List.take_append, hc]
    rw [List.take_of_length_le (l := c) (by omega)]
    congr 2
    omega
theorem Own.shrink {α : Type} {d : Kd α} {e : TypeId} {G : Nat → Prop} {w : World} {v0 : Value} {xs ys : List α} (h : Own d e G w v0 (xs ++ ys)) : Own d e G w (cutV v0 0 xs.length d.sz) xs := by
  have ha : ∀ a : Addr, a.add 0 = a := addr_add0
  rcases h with ⟨ad, rfl, hx⟩ | ⟨css, h1, h2, h3⟩
  · obtain ⟨rfl, rfl⟩ := List.append_eq_nil_iff.1 hx
    exact .inl ⟨ad, by simp [cutV], rfl⟩
  · have hl := fun cs hc => (h3.lens cs hc).1
    refine .inr ⟨css.take xs.length, ⟨?_, ?_⟩, ?_, ?_⟩
    · rw [flatten_take _ hl, List.length_take, h1.1, List.length_append]
      exact Nat.min_eq_left (Nat.mul_le_mul_right _ (by omega))
    · rcases h1.2 with ⟨rfl, hn⟩ | ⟨g, cap, cur, rfl, hb, hgg, hle, hm, hcs, htk⟩
      · left
        have : xs.length = 0 := by simp at hn; simp [hn]
        simp [cutV, this]
      · refine .inr ⟨g, cap, cur, ?_, hb, hgg, ?_, hm, hcs, ?_⟩
        · simp [cutV, ha]
        · rw [List.length_append] at hle; omega
        · rw [flatten_take _ hl, ← htk, List.take_take]
          congr 1
          rw [List.length_append, Nat.add_mul]
          omega
    · intro k hk
      refine h2 k ?_
      rcases h1.2 with ⟨rfl, hn⟩ | ⟨g, cap, cur, rfl, _⟩
      · simp [cutV, Value.ownBlock] at hk
      · simpa [cutV, ha, Value.ownBlock] using hk
    · refine (Els.take h3).mono fun k hk => ⟨hk.1, ?_⟩
      rcases h1.2 with ⟨rfl, hn⟩ | ⟨g, cap, cur, rfl, _⟩
      · simp [cutV, Value.ownBlock]
      · simpa [cutV, ha, Value.ownBlock] using hk.2
/-- An owned row with ys behind its end. -/
def Lent {α : Type} (d : Kd α) (e : TypeId) (v : Value) (xs ys : List α) : SP where
  H G w := ∃ v0, v = cutV v0 0 xs.length d.sz ∧ Own d e G w v0 (xs ++ ys)
  stable hs h := by obtain ⟨v0, h1, h2⟩ := h; exact ⟨v0, h1, h2.stable hs⟩
  mono hs h := by obtain ⟨v0, h1, h2⟩ := h; exact ⟨v0, h1, h2.mono hs⟩
  inb h := by obtain ⟨v0, h1, h2⟩ := h; exact ⟨v0, h1, h2.inb⟩
/-- Read, with ys behind its end. -/
def WRD {α : Type} (d : Kd α) (Z : Nat → Prop) (w : World) (v : Value) (xs ys : List α) : Prop := ∃ v0, v = cutV v0 0 xs.length d.sz ∧ RD d Z w v0 (xs ++ ys)
section
variable {α : Type} {dk : Kd α} {e : TypeId} {F : Nat → Prop} {w0 w wr : World} {M : List SP} {v : Value} {xs ys zs : List α} {Z : Nat → Prop}
theorem WRD.rd (h : WRD dk Z w v xs ys) (hsz : 0 < dk.sz) : RD dk Z w v xs := by
  obtain ⟨v0, rfl, h⟩ := h
  have := h.cut hsz (cut_front xs ys)
  simpa using this
theorem WRD.cut (h : WRD dk Z w v xs ys) (hsz : 0 < dk.sz) {hh : Int} (hc : Sy.cut (xs ++ ys) 0 hh = some zs) : RD dk Z w (cutV v (Int.toNat 0) hh.toNat dk.sz) zs := by
  obtain ⟨v0, rfl, h⟩ := h
  have := h.cut hsz hc
  simp only [Int.toNat_zero] at this ⊢
  rw [cutV_twice]
  exact this
theorem SH.unlend (h : SH F w0 w M) (i : Nat) (hi : M[i]? = some (Lent dk e v xs ys)) : SH F w0 w (Row dk e v xs :: M.eraseIdx i) := by
  obtain ⟨G1, G2, h1, h2, h3, ⟨v0, rfl, hA⟩, hr⟩ := h.sep.pull i hi
  exact ⟨h.kp, G1, G2, h1, h2, h3, hA.shrink, hr⟩
theorem SH.lend (h : SH F w0 w M) (i : Nat) (hi : M[i]? = some (Row dk e v zs)) {hh : Int} (hc : cut zs 0 hh = some xs) :
    SH F w0 w (Lent dk e (cutV v (Int.toNat 0) hh.toNat dk.sz) xs (zs.drop hh.toNat) :: M.eraseIdx i) := by
  unfold cut at hc
  split at hc
  · rename_i hb
    injection hc with hc
    subst hc
    obtain ⟨G1, G2, h1, h2, h3, hA, hr⟩ := h.sep.pull i hi
    refine ⟨h.kp, G1, G2, h1, h2, h3, ⟨v, ?_, ?_⟩, hr⟩
    · simp only [Int.toNat_zero, List.drop_zero, List.length_take]
      congr 1
      omega
    · have hz : (zs.take hh.toNat).drop (Int.toNat 0) ++ zs.drop hh.toNat = zs := by simp
      rw [hz]
      exact hA
  · cases hc
theorem SH.cutRow (h : SH F w0 w M) (i : Nat) (hi : M[i]? = some (Row dk e v zs)) {hh : Int} (hc : cut zs 0 hh = some xs) :
    SH F w0 w (Row dk e (cutV v (Int.toNat 0) hh.toNat dk.sz) xs :: M.eraseIdx i) := (h.lend i hi hc).unlend 0 rfl
end
section
variable {ρ : Option Nat} {Δ : List Deferred} variable {P : Program} {ops : Array Oper} {Q : Exit → Act → World → Prop} {a : Act} {w : World} {rest : List Oper} {N : Nat} {L : List (Nat × Value)}
variable {d ty : Nat} {pos : String} {af : Array Edge} {gd : Option (Nat × Bool)} {x y z : Operand}
variable {F : Nat → Prop} {w0 : World} {M : List SP}
end
def MF {α : Type} (d : Kd α) (C : List SP) (x : α) (cs : List Value) : Prop := ∀ G w, Sep G w C → d.M G w x cs
theorem mf_flat {α : Type} {sz : Nat} {enc : α → List Value} {hl h1} {x : α} : MF (Kd.flat sz enc hl h1) [] x (enc x) := fun _ _ _ => rfl
theorem mf_slice {α : Type} {d : Kd α} {e : TypeId} {v : Value} {xs : List α} : MF (Kd.slice e d) [Row d e v xs] xs [v] := fun _ _ h => ⟨v, rfl, h.head⟩
theorem mf_pair {α β : Type} {a : Kd α} {b : Kd β} {C1 C2 : List SP} {x : α} {y : β} {c1 c2 : List Value} (h1 : MF a C1 x c1) (h2 : MF b C2 y c2) : MF (Kd.pair a b) (C1 ++ C2) (x, y) (c1 ++ c2) := fun G w h => by
  obtain ⟨G1, G2, k1, k2, k3, s1, s2⟩ := h.split
  exact ⟨c1, c2, rfl, G1, G2, k1, k2, k3, h1 _ _ s1, h2 _ _ s2⟩
theorem mf_iso {α β : Type} {d : Kd α} {f : β → α} {C : List SP} {x : β} {cs : List Value} (h : MF d C (f x) cs) : MF (Kd.iso d f) C x cs := h
def EF {α : Type} (d : Kd α) (C : List SP) (xs : List α) (css : List (List Value)) : Prop := ∀ G w, Sep G w C → Els d G w xs css
theorem ef_nil {α : Type} {d : Kd α} : EF d [] [] [] := fun _ _ _ => trivial
theorem ef_cons {α : Type} {d : Kd α} {C1 C2 : List SP} {x : α} {cs : List Value} {xs : List α} {css : List (List Value)} (h1 : MF d C1 x cs) (h2 : EF d C2 xs css) : EF d (C1 ++ C2) (x :: xs) (cs :: css) := fun G w h => by
  obtain ⟨G1, G2, k1, k2, k3, s1, s2⟩ := h.split
  exact ⟨G1, G2, k1, k2, k3, h1 _ _ s1, h2 _ _ s2⟩
theorem ef_rep {α : Type} {d : Kd α} {x : α} {cs : List Value} (h : MF d [] x cs) : ∀ n, EF d [] (List.replicate n x) (List.replicate n cs)
  | 0 => ef_nil
  | n + 1 => ef_cons (C1 := []) (C2 := []) h (ef_rep h n)
/-- A literal of elements with memory of their own. -/
theorem SH.boxRowM {α : Type} {dk : Kd α} {F : Nat → Prop} {w0 w : World} {C M : List SP} {g n : Nat} {cs : List Value} {e : TypeId} (xs : List α) {css : List (List Value)} (h : SH F w0 w (Box g cs e :: C ++ M)) (hE : EF dk C xs css) (hcs : cs = css.flatten) (hn : n = xs.length) (hm : n ≤ maxLen) :
    SH F w0 w (Row dk e (.slice (some ⟨g, 0, none⟩) n n) xs :: M) := by
  obtain ⟨hk, hs⟩ := h
  obtain ⟨A1, A2, a1, a2, a3, ⟨G1, G2, k1, k2, k3, ⟨hg, hb⟩, hC⟩, hr⟩ := Sep.split (L := Box g cs e :: C) hs
  have hE' := hE _ _ hC
  have hl := fun cs hc => (hE'.lens cs hc).1
  have hfl := flatten_len hl
  rw [hE'.length] at hfl
  subst hn
  subst hcs
  refine ⟨hk, A1, A2, a1, a2, a3, .inr ⟨css, ⟨hfl, .inr ⟨g, xs.length, _, rfl, Nat.zero_le _, hb, Nat.le_refl _, hm, by simpa using hfl, List.take_of_length_le (Nat.le_of_eq hfl)⟩⟩, ?_, ?_⟩, hr⟩
  · intro k hk
    simp [Value.ownBlock] at hk
    subst hk
    exact k1 _ hg
  · refine hE'.mono fun k hk => ⟨k2 k hk, ?_⟩
    simp only [Value.ownBlock]
    intro e
    injection e with e
    subst e
    exact k3 _ hg hk
def ElsH {α : Type} (d : Kd α) : Nat → (Nat → Prop) → World → List α → List (List Value) → Prop
  | _, _, _, [], [] => True
  | 0, G, w, _ :: xs, cs :: css => (cs.length = d.sz ∧ ∀ u ∈ cs, u.oneCell' = true) ∧ Els d G w xs css
  | i + 1, G, w, x :: xs, cs :: css => ∃ G1 G2 : Nat → Prop, (∀ k, G1 k → G k) ∧ (∀ k, G2 k → G k) ∧ (∀ k, G1 k → ¬ G2 k) ∧ d.M G1 w x cs ∧ ElsH d i G2 w xs css
  | _, _, _, _, _ => False
section
variable {α : Type} {d : Kd α}
theorem ElsH.stable {w w' : World} : ∀ {i : Nat} {xs : List α} {css : List (List Value)} {G : Nat → Prop}, (∀ k, G k → k < w.heap.size → w'.heap[k]? = w.heap[k]?) → ElsH d i G w xs css → ElsH d i G w' xs css
  | 0, [], [], _, _, _ => trivial
  | _ + 1, [], [], _, _, _ => trivial
  | 0, _ :: _, _ :: _, _, hs, ⟨h1, h2⟩ => ⟨h1, h2.stable hs⟩
  | i + 1, _ :: _, _ :: _, _, hs, ⟨G1, G2, h1, h2, h3, hx, h⟩ => ⟨G1, G2, h1, h2, h3, d.M_stable (fun k hk => hs k (h1 k hk)) hx, ElsH.stable (fun k hk => hs k (h2 k hk)) h⟩
  | 0, [], _ :: _, _, _, h => h.elim
  | 0, _ :: _, [], _, _, h => h.elim
  | _ + 1, [], _ :: _, _, _, h => h.elim
  | _ + 1, _ :: _, [], _, _, h => h.elim
theorem ElsH.mono {w : World} : ∀ {i : Nat} {xs : List α} {css : List (List Value)} {G G' : Nat → Prop}, (∀ k, G k → G' k) → ElsH d i G w xs css → ElsH d i G' w xs css
  | 0, [], [], _, _, _, _ => trivial
  | _ + 1, [], [], _, _, _, _ => trivial
  | 0, _ :: _, _ :: _, _, _, hs, ⟨h1, h2⟩ => ⟨h1, h2.mono hs⟩
  | i + 1, _ :: _, _ :: _, _, _, hs, ⟨G1, G2, h1, h2, h3, hx, h⟩ => ⟨G1, G2, fun k hk => hs k (h1 k hk), fun k hk => hs k (h2 k hk), h3, hx, h⟩
  | 0, [], _ :: _, _, _, _, h => h.elim
  | 0, _ :: _, [], _, _, _, h => h.elim
  | _ + 1, [], _ :: _, _, _, _, h => h.elim
  | _ + 1, _ :: _, [], _, _, _, h => h.elim
theorem ElsH.inb {w : World} : ∀ {i : Nat} {xs : List α} {css : List (List Value)} {G : Nat → Prop}, ElsH d i G w xs css → ElsH d i (fun k => G k ∧ k < w.heap.size) w xs css
  | 0, [], [], _, _ => trivial
  | _ + 1, [], [], _, _ => trivial
  | 0, _ :: _, _ :: _, _, ⟨h1, h2⟩ => ⟨h1, h2.inb⟩
  | i + 1, _ :: _, _ :: _, _, ⟨G1, G2, h1, h2, h3, hx, h⟩ =>
    ⟨fun k => G1 k ∧ k < w.heap.size, fun k => G2 k ∧ k < w.heap.size, fun k hk => ⟨h1 k hk.1, hk.2⟩, fun k hk => ⟨h2 k hk.1, hk.2⟩, fun k hk hk' => h3 k hk.1 hk'.1, d.M_inb hx, ElsH.inb h⟩
  | 0, [], _ :: _, _, h => h.elim
  | 0, _ :: _, [], _, h => h.elim
  | _ + 1, [], _ :: _, _, h => h.elim
  | _ + 1, _ :: _, [], _, h => h.elim
theorem ElsH.lens {w : World} : ∀ {i : Nat} {xs : List α} {css : List (List Value)} {G : Nat → Prop}, ElsH d i G w xs css → ∀ cs ∈ css, cs.length = d.sz ∧ ∀ u ∈ cs, u.oneCell' = true
  | 0, [], [], _, _, cs, hc => by simp at hc
  | _ + 1, [], [], _, _, cs, hc => by simp at hc
  | 0, _ :: _, c :: css, _, ⟨h1, h2⟩, cs, hc => by
    rcases List.mem_cons.1 hc with rfl | hc
    · exact h1
    · exact h2.lens cs hc
  | i + 1, _ :: _, c :: css, _, ⟨G1, G2, h1, h2, h3, hx, h⟩, cs, hc => by
    rcases List.mem_cons.1 hc with rfl | hc
    · exact ⟨d.K_len (d.M_K hx), d.K_one (d.M_K hx)⟩
    · exact h.lens cs hc
  | 0, [], _ :: _, _, h, _, _ => h.elim
  | 0, _ :: _, [], _, h, _, _ => h.elim
  | _ + 1, [], _ :: _, _, h, _, _ => h.elim
  | _ + 1, _ :: _, [], _, h, _, _ => h.elim
theorem ElsH.shut {w : World} {y : α} {c : List Value} : ∀ {i : Nat} {xs : List α} {css : List (List Value)} {G1 G2 G : Nat → Prop}, (∀ k, G1 k → G k) → (∀ k, G2 k → G k) → (∀ k, G1 k → ¬ G2 k) →
    i < xs.length → ElsH d i G1 w xs css → d.M G2 w y c → Els d G w (xs.set i y) (css.set i c)
  | i, [], css, _, _, _, _, _, _, hi, _, _ => by simp at hi
  | 0, x :: xs, cs :: css, G1, G2, G, h1, h2, h3, _, ⟨_, h⟩, hm => ⟨G2, G1, h2, h1, fun k hk hk' => h3 k hk' hk, hm, h⟩
  | i + 1, x :: xs, cs :: css, G1, G2, G, h1, h2, h3, hi, ⟨E1, E2, e1, e2, e3, hx, h⟩, hm => by
    refine ⟨E1, fun k => E2 k ∨ G2 k, fun k hk => h1 k (e1 k hk), fun k hk => hk.elim (fun h => h1 k (e2 k h)) (h2 k), ?_, hx, ElsH.shut (G1 := E2) (G2 := G2) (fun _ => .inl) (fun _ => .inr) (fun k hk hk' => h3 k (e2 k hk) hk') (by simpa using hi) h hm⟩
    rintro k hk (h' | h')
    · exact e3 k hk h'
    · exact h3 k (e1 k hk) h'
  | 0, _ :: _, [], _, _, _, _, _, _, _, h, _ => h.elim
  | _ + 1, _ :: _, [], _, _, _, _, _, _, _, h, _ => h.elim
end
section
variable {α : Type} {dk : Kd α} {e e' : TypeId} {F : Nat → Prop} {w0 w : World} {M : List SP} {v u : Value}
end
section
variable {α : Type} {dk : Kd α} {e e' : TypeId} {F : Nat → Prop} {w0 w : World} {M : List SP} {v u : Value}
end
section
variable {ρ : Option Nat} {Δ : List Deferred} variable {P : Program} {ops : Array Oper} {Q : Exit → Act → World → Prop} {a : Act} {w : World} {rest : List Oper} {N : Nat} {L : List (Nat × Value)}
variable {d ty : Nat} {pos : String} {af : Array Edge} {gd : Option (Nat × Bool)} {x y z : Operand}
variable {F : Nat → Prop} {w0 : World} {M : List SP}
end
section
variable {ρ : Option Nat} {Δ : List Deferred} variable {P : Program} {ops : Array Oper} {Q : Exit → Act → World → Prop} {a : Act} {w : World} {rest : List Oper} {N : Nat} {L : List (Nat × Value)}
variable {d ty : Nat} {pos : String} {af : Array Edge} {gd : Option (Nat × Bool)} {x y z : Operand}
variable {F : Nat → Prop} {w0 : World} {M : List SP}
/-- make([]T, n) -/
def mkS {α : Type} (N : Nat) (n : Int) (z : α) : Option (List α) := if 0 ≤ n ∧ n ≤ N then some (List.replicate n.toNat z) else none
theorem madeCells_rep (zc : List Value) (h0 : 0 < zc.length) (n : Nat) : (madeCells zc.toArray (n * zc.length)).toList = (List.replicate n zc).flatten := by
  have hl : ∀ cs ∈ List.replicate n zc, cs.length = zc.length := fun cs hc => by rw [(List.mem_replicate.1 hc).2]
  refine List.ext_getElem? fun j => ?_
  by_cases hj : j < n * zc.length
  · have hq : j / zc.length < n := Nat.div_lt_of_lt_mul (by rw [Nat.mul_comm]; exact hj)
    have hr : j % zc.length < zc.length := Nat.mod_lt _ h0
    have hf := flatten_get hl (j / zc.length) zc (by rw [List.getElem?_replicate]; simp [hq]) (j % zc.length) zc[j % zc.length] (List.getElem?_eq_getElem hr)
    rw [Nat.mul_comm, Nat.div_add_mod] at hf
    rw [hf]
    simp [madeCells, hj, hr]
  · have h1 : (List.replicate n zc).flatten.length = n * zc.length := by rw [flatten_len hl, List.length_replicate]
    rw [List.getElem?_eq_none (l := (madeCells zc.toArray (n * zc.length)).toList) (by simp [madeCells]; omega), List.getElem?_eq_none (by rw [h1]; omega)]
theorem r_makeSlice {α : Type} {dk : Kd α} {t e by_ bd : Nat} {n : Int} {z : α} {zc : List Value} {xs : List α} {kl : IntKind} (hst : ST Δ N a L) (hsh : SH F w0 w M) (hw : Wt ops L gd) (hd : Nat.blt d N = true)
    (ht : P.underlying t = some (.slice e)) (he : ElOf P e dk.sz by_) (hz : ZrOf P e zc) (hbd : bd * by_ ≤ 281474976710656) (hby : 0 < by_) (hx : ev L x = some (.int kl n)) (hy : ev L y = some (.int kl n))
    (hM : MF dk [] z zc) (hp : mkS bd n z = some xs)
    (k : ∀ v' a w', SH F w0 w' (Row dk e v' xs :: M) → ST Δ N a ((d, v') :: L) → wpL ρ P ops Q rest a w') :
    wpL ρ P ops Q ({ dst := some d, op := .makeSlice t x y, type := ty, pos := pos, after := af, guard := gd } :: rest) a w := by
  unfold mkS at hp
  split at hp
  case isFalse => cases hp
  rename_i hb
  injection hp with hp
  subst hp
  obtain ⟨inf, zz, hinf, hzz, hzs, hisz, hib⟩ := he
  obtain ⟨inf', zz', hinf', hzz', hzc⟩ := hz
  rw [hinf] at hinf'
  injection hinf' with hinf'
  subst hinf'
  rw [hzz] at hzz'
  injection hzz' with hzz'
  subst hzz'
  have hzl : zc.length = dk.sz := by rw [hzc] at hzs; simpa using hzs
  have hn : n.toNat ≤ bd := by omega
  have hbig : n.toNat * by_ ≤ 281474976710656 := Nat.le_trans (Nat.mul_le_mul_right _ hn) hbd
  have hsm : n.toNat ≤ 281474976710656 := Nat.le_trans (Nat.le_mul_of_pos_right _ hby) hbig
  have hbytes : (inf.bytes : Int) * n ≤ 281474976710656 := by
    rw [hib]
    have : ((n.toNat * by_ : Nat) : Int) ≤ (281474976710656 : Nat) := Int.ofNat_le.2 hbig
    rw [Int.natCast_mul, Int.toNat_of_nonneg hb.1, Int.mul_comm] at this
    omega
  have hr := run_make (P := P) w t e inf zz ht hinf hzz kl kl n n hb.1 (Int.le_refl _) hbytes (by omega)
  have hcells : (madeCells zz.cells (n.toNat * inf.size)) = ((List.replicate n.toNat zc).flatten).toArray := by
    rw [hisz, hzc, ← hzl]
    by_cases h0 : zc.length = 0
    · have : zc = [] := List.eq_nil_of_length_eq_zero h0
      subst this
      simp [madeCells]
    · rw [← madeCells_rep zc (by omega)]
  rw [hcells] at hr
  refine wl_val (v := .slice (some ⟨w.heap.size, 0, none⟩) n.toNat n.toNat) (w' := w.alloc (.cells ((List.replicate n.toNat zc).flatten).toArray e)) hst hw ?_ (k _ _ _ ?_ (hst.put hd _))
  · simp [execOp, hst.ev hx, hst.ev hy, hr]
  · exact SH.boxRowM (C := []) _ (hsh.alloc _ e) (ef_rep hM n.toNat) rfl (List.length_replicate).symm (by have : maxLen = 9223372036854775807 := rfl; omega)
end
section
variable {ρ : Option Nat} {Δ : List Deferred} variable {P : Program} {a : Act} {w : World} {N : Nat} {L : List (Nat × Value)}
theorem ret_ct {fn : Func} {R : Ending → World → Prop} {t0 : Nat} {v0 : Value} {g0 ty0 : Nat} {t1 : Nat} {v1 : Value} (hst : ST [] N a L) (h : fn.results = #[.cell t0 ty0, .tmp t1]) (h0 : look L t0 = some (.pointer (some ⟨g0, 0, none⟩))) (l0 : (loadVar ty0 ⟨g0, 0, none⟩).run P w = .ok v0 w) (h1 : look L t1 = some v1)
    (hR : R (.returned (.tuple #[v0, v1])) w) : bodyPost P fn R .ret a w := by
  refine bodyPost_ret (v := .tuple #[v0, v1]) ?_ hst.defers hR
  have e0 := hst.get _ _ h0
  have e1 := hst.get _ _ h1
  simp [results, h, e0, e1, asAddr, l0]
theorem ret_cc {fn : Func} {R : Ending → World → Prop} {t0 : Nat} {v0 : Value} {g0 ty0 : Nat} {t1 : Nat} {v1 : Value} {g1 ty1 : Nat} (hst : ST [] N a L) (h : fn.results = #[.cell t0 ty0, .cell t1 ty1]) (h0 : look L t0 = some (.pointer (some ⟨g0, 0, none⟩))) (l0 : (loadVar ty0 ⟨g0, 0, none⟩).run P w = .ok v0 w) (h1 : look L t1 = some (.pointer (some ⟨g1, 0, none⟩))) (l1 : (loadVar ty1 ⟨g1, 0, none⟩).run P w = .ok v1 w)
    (hR : R (.returned (.tuple #[v0, v1])) w) : bodyPost P fn R .ret a w := by
  refine bodyPost_ret (v := .tuple #[v0, v1]) ?_ hst.defers hR
  have e0 := hst.get _ _ h0
  have e1 := hst.get _ _ h1
  simp [results, h, e0, e1, asAddr, l0, l1]
theorem ret_ctt {fn : Func} {R : Ending → World → Prop} {t0 : Nat} {v0 : Value} {g0 ty0 : Nat} {t1 : Nat} {v1 : Value} {t2 : Nat} {v2 : Value} (hst : ST [] N a L) (h : fn.results = #[.cell t0 ty0, .tmp t1, .tmp t2]) (h0 : look L t0 = some (.pointer (some ⟨g0, 0, none⟩))) (l0 : (loadVar ty0 ⟨g0, 0, none⟩).run P w = .ok v0 w) (h1 : look L t1 = some v1) (h2 : look L t2 = some v2)
    (hR : R (.returned (.tuple #[v0, v1, v2])) w) : bodyPost P fn R .ret a w := by
  refine bodyPost_ret (v := .tuple #[v0, v1, v2]) ?_ hst.defers hR
  have e0 := hst.get _ _ h0
  have e1 := hst.get _ _ h1
  have e2 := hst.get _ _ h2
  simp [results, h, e0, e1, e2, asAddr, l0]
end
def isNilV (v : Value) : Bool := match v with
  | .slice none _ _ => true
  | _ => false
theorem RD.isNil {α : Type} {d : Kd α} {Z : Nat → Prop} {w : World} {v : Value} {xs : List α} (h : RD d Z w v xs) (hn : isNilV v = true) : xs = [] := by
  obtain ⟨A, c, rfl, h1, h2, h3⟩ := h
  cases A with
  | some a => cases hn
  | none =>
    cases xs with
    | nil => rfl
    | cons x r =>
      obtain ⟨ad, h, _⟩ := h3 0 x rfl
      cases h
section
variable {ρ : Option Nat} {Δ : List Deferred} variable {P : Program} {ops : Array Oper} {Q : Exit → Act → World → Prop} {a : Act} {w : World} {rest : List Oper} {N : Nat} {L : List (Nat × Value)}
variable {d ty : Nat} {pos : String} {af : Array Edge} {gd : Option (Nat × Bool)} {x y z : Operand}
variable {F : Nat → Prop} {w0 : World} {M : List SP}
theorem x_eqNil {t1 t2 e n : Nat} {v : Value} (hst : ST Δ N a L) (ht : P.underlying t1 = some (.slice e)) (hx : ev L x = some v) (hy : ev L y = some (.slice none 0 0)) (hl : ∃ A c, v = .slice A n c) :
    Tell P a w (.binOp .eql t1 x y t2) (.bool (isNilV v)) := fun o ho => by
  obtain ⟨A, c, rfl⟩ := hl
  have he : (Op.equal t1 (.slice A n c) (.slice none 0 0)).run P w = .ok A.isNone w := by
    have hq : ∀ d, (Op.equalIn (d + 1) t1 (.slice A n c) (.slice none 0 0)).run P w = .ok A.isNone w := fun d => by cases A <;> simp [Op.equalIn, run_underlying ht]
    exact hq 9999
  have e : (binOp .eql t1 (.slice A n c) (.slice none 0 0)).run P w = .ok (.bool A.isNone) w := by simp [binOp, he]
  have e2 : isNilV (.slice A n c) = A.isNone := by cases A <;> rfl
  have hgd : ∀ x y, eqGuard .eql t1 x y (.slice A n c) (.slice none 0 0) = pure () := fun _ _ => rfl
  rw [e2]
  simp [execOp, ho, hst.ev hx, hst.ev hy, hgd, e]
/-- A call is handed the first n pieces; the others lie elsewhere. -/
theorem SH.callD {L1 L2 : List SP} (h : SH F w0 w (L1 ++ L2)) :
    ∃ G : Nat → Prop, Sep G w L1 ∧ (∀ k, G k → k < w.heap.size ∧ (F k ∨ w0.heap.size ≤ k)) ∧ (∀ (i : Nat) {g : Nat} {cs : List Value} {t : TypeId}, L2[i]? = some (Box g cs t) → ¬ G g) ∧ (∀ (i : Nat) {Z : Nat → Prop} {wr : World}, L2[i]? = some (Frz Z wr) → ∀ k, Z k → ¬ G k) ∧ ∀ w' L', SH G w w' L' → SH F w0 w' (L' ++ L2) := by
  obtain ⟨G1, G2, h1, h2, h3, k1, k2⟩ := h.sep.split
  refine ⟨G1, k1, h1, ?_, ?_, ?_⟩
  · intro i g cs t hi hg
    exact h3 g hg (k2.pull i hi).head.1
  · intro i Z wr hi k hz hg
    exact h3 k hg ((k2.pull i hi).head.1 k hz).2
  intro w' L' hc
  refine ⟨h.kp.trans hc.kp fun i hi => (h1 i hi).2, ?_⟩
  refine Sep.join (G1 := Mine G1 w w') (G2 := G2) ?_ ?_ ?_ hc.sep ?_
  · rintro k ⟨hk, hg | hn⟩
    · exact ⟨hk, (h1 k hg).2⟩
    · exact ⟨hk, .inr (Nat.le_trans h.kp.size hn)⟩
  · intro k hk
    exact ⟨Nat.lt_of_lt_of_le (h2 k hk).1 hc.kp.size, (h2 k hk).2⟩
  · rintro k ⟨_, hg | hn⟩ hk
    · exact h3 k hg hk
    · have := (h2 k hk).1; omega
  · exact k2.stable fun k hk hlt => hc.kp.keep k hlt fun hg => h3 k hg hk
/-- A literal of slices that is only read, where it stands. -/
def RDs {α : Type} (d : Kd α) (w : World) : List Value → List (List α) → Prop
  | [], [] => True
  | v :: vs, x :: xs => RD d (fun _ => True) w v x ∧ RDs d w vs xs
  | _, _ => False
theorem RDs.nil {α : Type} {d : Kd α} {w : World} : RDs d w [] [] := trivial
theorem RDs.cons {α : Type} {d : Kd α} {Z : Nat → Prop} {wr w : World} {v : Value} {x : List α} {vs : List Value} {xs : List (List α)} (h : RD d Z wr v x) (hs : Same Z wr w) (k : RDs d w vs xs) : RDs d w (v :: vs) (x :: xs) :=
  ⟨(h.stable (w' := w) fun k hz hk => hs k hz hk).mono fun _ _ => trivial, k⟩
theorem RDs.get {α : Type} {d : Kd α} {w : World} : ∀ {vs : List Value} {xs : List (List α)}, RDs d w vs xs → ∀ (i : Nat) (x : List α), xs[i]? = some x → ∃ v, vs[i]? = some v ∧ RD d (fun _ => True) w v x
  | [], [], _, i, x, h => by simp at h
  | v :: vs, y :: ys, h, 0, x, hx => by simp at hx; subst hx; exact ⟨v, rfl, h.1⟩
  | v :: vs, y :: ys, h, i + 1, x, hx => by
    obtain ⟨u, h1, h2⟩ := RDs.get h.2 i x (by simpa using hx)
    exact ⟨u, by simpa using h1, h2⟩
  | [], _ :: _, h, _, _, _ => h.elim
  | _ :: _, [], h, _, _, _ => h.elim
theorem RDs.len {α : Type} {d : Kd α} {w : World} : ∀ {vs : List Value} {xs : List (List α)}, RDs d w vs xs → vs.length = xs.length
  | [], [], _ => rfl
  | v :: vs, y :: ys, h => by simp [RDs.len h.2]
  | [], _ :: _, h => h.elim
  | _ :: _, [], h => h.elim
theorem RD.lit {α : Type} {d : Kd α} {e t g n i : Nat} {vs : List Value} {xs : List (List α)} (hsh : SH F w0 w M) (hi : M[i]? = some (Box g vs t)) (h : RDs d w vs xs) (hn : n = xs.length) (hm : n ≤ maxLen) : RD (Kd.slice e d) (fun _ => True) w (.slice (some ⟨g, 0, none⟩) n n) xs := by
  subst hn
  refine ⟨_, _, rfl, Nat.le_refl _, hm, fun i x hx => ⟨⟨g, 0, none⟩, rfl, rfl, trivial, ?_⟩⟩
  obtain ⟨v, h1, h2⟩ := h.get i x hx
  refine ⟨[v], ⟨v, rfl, h2⟩, fun j u hu => ?_⟩
  obtain rfl : j = 0 := by
    rcases Nat.eq_zero_or_pos j with h | h
    · exact h
    · rw [List.getElem?_eq_none (by simp; omega)] at hu; cases hu
  simp at hu
  subst hu
  rw [box_cell (hsh.box _ hi)]
  simpa [Kd.slice] using h1
end
end Go.Proofs.YtbaemhkfmddakaaGreat.Sy
