import Derived.Test.YtmbhgfigffahbaaDoorSyPtr
set_option linter.unusedVariables false
set_option linter.unusedSectionVars false
set_option linter.unusedSimpArgs false
namespace Go.Proofs.YtmbhgfigffahbaaDoor.Sy
open Go
/-- What is left of B when the slice u is out. -/
def Wnd {β : Type} (dk : Kd β) (e' : TypeId) (u : Value) (B : List β → SP) : SP where
  H G w := ∃ E : Nat → Prop, (∀ k, E k → G k) ∧ (∀ k, E k → k < w.heap.size) ∧ ∀ w'' : World, (∀ k, E k → w''.heap[k]? = w.heap[k]?) → ∀ (E1 : Nat → Prop) (ys : List β), (∀ k, E1 k → ¬ E k) → Own dk e' E1 w'' u ys → (B ys).H (fun k => E1 k ∨ E k) w''
  stable := by
    rintro G w w' hs ⟨E, h1, h2, h3⟩
    have hk : ∀ k, E k → w'.heap[k]? = w.heap[k]? := fun k hk => hs k (h1 k hk) (h2 k hk)
    refine ⟨E, h1, fun k hE => ?_, fun w'' ha => h3 w'' fun k hE => (ha k hE).trans (hk k hE)⟩
    have := hk k hE
    rw [Array.getElem?_eq_getElem (h2 k hE)] at this
    exact (Array.getElem?_eq_some_iff.1 this).1
  mono := by
    rintro G G' w hs ⟨E, h1, h2, h3⟩
    exact ⟨E, fun k hk => hs k (h1 k hk), h2, h3⟩
  inb := by
    rintro G w ⟨E, h1, h2, h3⟩
    exact ⟨E, fun k hk => ⟨h1 k hk, h2 k hk⟩, h2, h3⟩
/-- At place off of the cells of an element stands a slice of its own. -/
def SubOk {α β : Type} (d : Kd α) (off : Nat) (e' : TypeId) (dk : Kd β) (get : α → List β) (put : α → List β → α) : Prop :=
  ∀ G w x cs, d.M G w x cs → ∃ (u : Value) (E1 E2 : Nat → Prop), (∀ k, E1 k → G k) ∧ (∀ k, E2 k → G k) ∧ (∀ k, E1 k → ¬ E2 k) ∧ cs[off]? = some u ∧ Own dk e' E1 w u (get x) ∧
    ∀ w'' : World, (∀ k, E2 k → k < w.heap.size → w''.heap[k]? = w.heap[k]?) → ∀ (E : Nat → Prop) (ys : List β), (∀ k, E k → ¬ E2 k) → Own dk e' E w'' u ys → d.M (fun k => E k ∨ E2 k) w'' (put x ys) cs
theorem sub_slice {β : Type} {e' : TypeId} {dk : Kd β} : SubOk (Kd.slice e' dk) 0 e' dk (fun x => x) (fun _ ys => ys) := fun G w x cs h => by
  obtain ⟨v, rfl, h⟩ := h
  exact ⟨v, G, fun _ => False, fun _ h => h, fun _ h => h.elim, fun _ _ h => h, rfl, h, fun w'' _ E ys _ ho => ⟨v, rfl, ho.mono fun k hk => .inl hk⟩⟩
theorem sub_iso {α β γ : Type} {d : Kd α} {f : γ → α} {off : Nat} {e' : TypeId} {dk : Kd β} {get : α → List β} {put : α → List β → α} {put' : γ → List β → γ} (h : SubOk d off e' dk get put) (hp : ∀ x ys, f (put' x ys) = put (f x) ys) :
    SubOk (Kd.iso d f) off e' dk (fun x => get (f x)) put' := fun G w x cs hc => by
  obtain ⟨u, E1, E2, h1, h2, h3, h4, h5, h6⟩ := h G w (f x) cs hc
  refine ⟨u, E1, E2, h1, h2, h3, h4, h5, fun w'' ha E ys hd ho => ?_⟩
  show d.M _ w'' (f (put' x ys)) cs
  rw [hp]
  exact h6 w'' ha E ys hd ho
theorem sub_snd {α γ β : Type} {a : Kd α} {b : Kd γ} {off n : Nat} {e' : TypeId} {dk : Kd β} {get : γ → List β} {put : γ → List β → γ} (hn : n = a.sz + off) (h : SubOk b off e' dk get put) :
    SubOk (Kd.pair a b) n e' dk (fun x => get x.2) (fun x ys => (x.1, put x.2 ys)) := fun G w x cs hc => by
  obtain ⟨c1, c2, rfl, G1, G2, g1, g2, g3, k1, k2⟩ := hc
  have hl := a.K_len (a.M_K k1)
  obtain ⟨u, E1, E2, h1, h2, h3, h4, h5, h6⟩ := h G2 w x.2 c2 k2
  have k1' := a.M_inb k1
  refine ⟨u, E1, fun k => E2 k ∨ (G1 k ∧ k < w.heap.size), fun k hk => g2 k (h1 k hk), fun k hk => hk.elim (fun hk => g2 k (h2 k hk)) (fun hk => g1 k hk.1), ?_, ?_, h5, fun w'' ha E ys hd ho' => ?_⟩
  · rintro k hk (h' | h')
    · exact h3 k hk h'
    · exact g3 k h'.1 (h1 k hk)
  · subst hn
    rw [List.getElem?_append_right (by omega), hl, show a.sz + off - a.sz = off by omega]; exact h4
  · refine ⟨c1, c2, rfl, fun k => G1 k ∧ k < w.heap.size, fun k => E k ∨ E2 k, fun k hk => .inr (.inr hk), fun k hk => hk.elim .inl (fun h => .inr (.inl h)), ?_, ?_, h6 w'' (fun k hk hl => ha k (.inl hk) hl) E ys (fun k hk h' => hd k hk (.inl h')) ho'⟩
    · rintro k hk (hk' | hk')
      · exact hd k hk' (.inr hk)
      · exact g3 k hk.1 (h2 k hk')
    · exact a.M_stable (fun k hk hl => ha k (.inr hk) hl) k1'
section
variable {α β : Type} {d : Kd α} {dk : Kd β} {e e' : TypeId} {off : Nat} {get : α → List β} {put : α → List β → α} {F : Nat → Prop} {w0 w : World} {M : List SP} {v u : Value}
theorem SH.takeSub {xs : List α} {x : α} {j : Int} (h : SH F w0 w M) (i : Nat) (hi : M[i]? = some (Row d e v xs)) (hx : idx xs j = some x) (hs : SubOk d off e' dk get put) (hc : w.cell? (elAddr v (j.toNat * d.sz + off)) = some u) :
    SH F w0 w (Wnd dk e' u (fun ys => Row d e v (xs.set j.toNat (put x ys))) :: Row dk e' u (get x) :: M.eraseIdx i) := by
  obtain ⟨h0, hlt, hxj⟩ := idx_some hx
  obtain ⟨G1, G2, h1, h2, h3, hA, hr⟩ := h.sep.pull i hi
  have hsz : ∀ k, G1 k → k < w.heap.size := fun k hk => (h1 k hk).1
  rcases hA with ⟨ad, rfl, rfl⟩ | ⟨css, hown, hblk, hels⟩
  · simp at hxj
  have hlen := fun cs hc => (hels.lens cs hc).1
  obtain ⟨cs, hcs, E1, E2, e1, e2, e3, hM, hH⟩ := hels.open hxj
  obtain ⟨u', D1, D2, d1, d2, d3, d4, d5, d6⟩ := hs _ _ _ _ hM
  have huu : u' = u := by
    rcases hown.2 with ⟨rfl, hn0⟩ | ⟨g, cap, cur, rfl, hb, hgg, hle, hcm, hcs', htk⟩
    · omega
    · have hf := flatten_get hlen j.toNat cs hcs off u' d4
      simp only [elAddr, base] at hc
      rw [Nat.zero_add] at hc
      rw [cell_of_row w g _ cur e (0, 0) hgg] at hc
      rw [← htk, List.getElem?_take] at hf
      split at hf
      · have h9 : cur.toList[j.toNat * d.sz + off]? = some u := by simpa using hc
        rw [hf] at h9
        exact Option.some.inj h9
      · cases hf
  subst huu
  refine ⟨h.kp, fun k => ((G1 k ∧ v.ownBlock = some k) ∨ E2 k) ∨ D2 k, fun k => D1 k ∨ G2 k, ?_, ?_, ?_, ?_, ?_⟩
  · rintro k ((hk | hk) | hk)
    · exact h1 k hk.1
    · exact h1 k (e2 k hk).1
    · exact h1 k (e1 k (d2 k hk)).1
  · rintro k (hk | hk)
    · exact h1 k (e1 k (d1 k hk)).1
    · exact h2 k hk
  · rintro k ((hk | hk) | hk) (hk' | hk')
    · exact (e1 k (d1 k hk')).2 hk.2
    · exact h3 k hk.1 hk'
    · exact e3 k (d1 k hk') hk
    · exact h3 k (e2 k hk).1 hk'
    · exact d3 k hk' hk
    · exact h3 k (e1 k (d2 k hk)).1 hk'
  · refine ⟨fun k => ((G1 k ∧ v.ownBlock = some k) ∨ E2 k) ∨ D2 k, fun k hk => hk, ?_, ?_⟩
    · rintro k ((hk | hk) | hk)
      · exact hsz k hk.1
      · exact hsz k (e2 k hk).1
      · exact hsz k (e1 k (d2 k hk)).1
    · intro w'' ha E ys hd ho
      refine .inr ⟨css, ?_, fun k hk => .inr (.inl (.inl ⟨hblk k hk, hk⟩)), ?_⟩
      · rw [List.length_set]
        refine ⟨hown.1, ?_⟩
        rcases hown.2 with hn | ⟨g, cap, cur, rfl, hb, hgg, rest⟩
        · exact .inl hn
        · exact .inr ⟨g, cap, cur, rfl, hb, (ha g (.inl (.inl ⟨hblk g rfl, rfl⟩))).trans hgg, rest⟩
      · have hH' := hH.stable (w' := w'') (fun k hk _ => ha k (.inl (.inr hk)))
        have hM' := d6 w'' (fun k hk _ => ha k (.inr hk)) E ys (fun k hk h' => hd k hk (.inr h')) ho
        have hcs2 : css.set j.toNat cs = css := by
          refine List.ext_getElem? fun q => ?_
          rw [List.getElem?_set]
          split
          · rename_i he; subst he
            rw [hcs, if_pos (by have := hels.length; omega)]
          · rfl
        rw [← hcs2]
        refine Els.mono ?_ (ElsH.shut (G1 := E2) (G2 := fun k => E k ∨ D2 k) (G := fun k => (E k ∨ D2 k) ∨ E2 k) (fun k hk => .inr hk) (fun k hk => .inl hk) ?_ (by omega) hH' hM')
        · rintro k ((hk | hk) | hk)
          · refine ⟨.inl hk, fun hv => hd k hk (.inl (.inl ⟨hblk k hv, hv⟩))⟩
          · exact ⟨.inr (.inr hk), (e1 k (d2 k hk)).2⟩
          · exact ⟨.inr (.inl (.inr hk)), (e2 k hk).2⟩
        · rintro k hk' (hk | hk)
          · exact hd k hk (.inl (.inr hk'))
          · exact e3 k (d2 k hk) hk'
  · exact ⟨D1, G2, fun _ => .inl, fun _ => .inr, fun k hk hk' => h3 k (e1 k (d1 k hk)).1 hk', d5, hr⟩
theorem SH.backSub {B : List β → SP} {ys : List β} (h : SH F w0 w (Wnd dk e' u B :: Row dk e' u ys :: M)) : SH F w0 w (B ys :: M) := by
  obtain ⟨hkp, G1, G2, h1, h2, h3, ⟨E, k1, k2, k3⟩, ⟨E1, E2, e1, e2, e3, hu, hr⟩⟩ := h
  refine ⟨hkp, fun k => E1 k ∨ E k, E2, ?_, fun k hk => h2 k (e2 k hk), ?_, k3 w (fun _ _ => rfl) E1 ys (fun k hk hk' => h3 k (k1 k hk') (e1 k hk)) hu, hr⟩
  · rintro k (hk | hk)
    · exact h2 k (e1 k hk)
    · exact h1 k (k1 k hk)
  · rintro k (hk | hk) hk'
    · exact e3 k hk hk'
    · exact h3 k (k1 k hk) (e2 k hk')
end
end Go.Proofs.YtmbhgfigffahbaaDoor.Sy
