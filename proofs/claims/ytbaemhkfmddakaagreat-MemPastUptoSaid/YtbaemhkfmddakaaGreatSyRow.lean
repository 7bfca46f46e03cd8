import Derived.Test.YtbaemhkfmddakaaGreatSyMem
import Derived.Deep.DeepAppendWide
set_option linter.unusedVariables false
set_option linter.unusedSectionVars false
set_option linter.unusedSimpArgs false
namespace Go.Proofs.YtbaemhkfmddakaaGreat.Sy
open Go
section
variable {α : Type} {dk : Kd α} {e : TypeId} {F : Nat → Prop} {w0 w w' : World} {M : List SP} {v : Value} {xs : List α}
theorem SH.row (h : SH F w0 w M) (i : Nat) (hi : M[i]? = some (Row dk e v xs)) : RD dk (Mine F w0 w) w v xs :=
  Own.rd (d := dk) (e := e) (h.sep.pull i hi).head
theorem Row.slen (h : SH F w0 w M) (i : Nat) (hi : M[i]? = some (Row dk e v xs)) : ∃ A c, v = .slice A xs.length c := (h.row i hi).slen
/-- What an owned row is when its block alone was written, or when it went to a new one. -/
theorem SH.rowNew {C : List SP} {G : Nat → Prop} {v' : Value} {xx : α} {css : List (List Value)} {cs : List Value} (G1 G5 : Nat → Prop) (h1 : ∀ k, G1 k → G k) (h5 : ∀ k, G5 k → G k) (h15 : ∀ k, G1 k → ¬ G5 k)
    (hown : w'.ownsRow 0 e dk.sz v' (xs ++ [xx]).length (css ++ [cs]).flatten) (hg : w.grownBy w' v.ownBlock) (hb : ∀ k, v.ownBlock = some k → G1 k) (hat : v'.ownBlock = v.ownBlock ∨ v'.ownBlock = some w.heap.size)
    (hin1 : ∀ k, G1 k → k < w.heap.size) (hin5 : ∀ k, G5 k → k < w.heap.size)
    (hels : Els dk (fun k => G1 k ∧ v.ownBlock ≠ some k) w xs css) (hx : dk.M G5 w xx cs) : SH G w w' [Row dk e v' (xs ++ [xx])] := by
  refine ⟨⟨hg.os, hg.tape, hg.output, hg.size, fun k hk hn => hg.block k hk (fun hh => hn (h1 k (hb k hh.symm)))⟩, Mine G w w', fun _ => False, fun k hk => hk, fun _ h => h.elim, fun _ _ h => h, ?_, trivial⟩
  refine .inr ⟨css ++ [cs], hown, ?_, ?_⟩
  · intro k hk
    refine ⟨own_block_of hown hk, ?_⟩
    rcases hat with h | h
    · exact .inl (h1 k (hb k (h ▸ hk)))
    · rw [h] at hk
      injection hk with hk
      exact .inr (Nat.le_of_eq hk)
  · have hne : ∀ k, k < w.heap.size → G1 k ∧ v.ownBlock ≠ some k ∨ G5 k → w'.heap[k]? = w.heap[k]? := by
      rintro k hk (h | h)
      · exact hg.block k hk (fun hh => h.2 hh.symm)
      · exact hg.block k hk (fun hh => h15 k (hb k hh.symm) h)
    have hnb : ∀ k, k < w.heap.size → G1 k ∧ v.ownBlock ≠ some k ∨ G5 k → v'.ownBlock ≠ some k := by
      intro k hk h hh
      rcases hat with h' | h'
      · rw [h'] at hh
        rcases h with h | h
        · exact h.2 hh
        · exact h15 k (hb k hh) h
      · rw [h'] at hh
        injection hh with hh
        omega
    refine Els.snoc (G1 := fun k => (G1 k ∧ v.ownBlock ≠ some k) ∧ k < w.heap.size) (G2 := fun k => G5 k ∧ k < w.heap.size) ?_ ?_ ?_ ?_ ?_
    · rintro k ⟨h, hk⟩
      exact ⟨⟨Nat.lt_of_lt_of_le hk hg.size, .inl (h1 k h.1)⟩, hnb k hk (.inl h)⟩
    · rintro k ⟨h, hk⟩
      exact ⟨⟨Nat.lt_of_lt_of_le hk hg.size, .inl (h5 k h)⟩, hnb k hk (.inr h)⟩
    · rintro k ⟨h, _⟩ ⟨h', _⟩
      exact h15 k h.1 h'
    · exact hels.inb.stable fun k hk hlt => hne k hlt (.inl hk.1)
    · exact dk.M_stable (fun k hk hlt => hne k hlt (.inr hk.1)) (dk.M_inb hx)
end
section
variable {ρ : Option Nat} {Δ : List Deferred} variable {P : Program} {ops : Array Oper} {Q : Exit → Act → World → Prop} {a : Act} {w : World} {rest : List Oper} {N : Nat} {L : List (Nat × Value)}
variable {d ty : Nat} {pos : String} {af : Array Edge} {gd : Option (Nat × Bool)} {x y z : Operand}
variable {F : Nat → Prop} {w0 : World} {M : List SP}
/-- Room for one more element of so many bytes. -/
def push {α : Type} (N : Nat) (xs : List α) (x : α) : Option (List α) := if xs.length < N then some (xs ++ [x]) else none
theorem push_some {α : Type} {N : Nat} {xs r : List α} {x : α} (h : push N xs x = some r) : xs.length < N ∧ r = xs ++ [x] := by
  unfold push at h
  split at h
  · injection h with h
    exact ⟨by assumption, h.symm⟩
  · cases h
/-- append to what is owned, at an empty slice too. -/
theorem Own.append {α : Type} {dk : Kd α} {G : Nat → Prop} {v : Value} {xs : List α} {t e by_ : Nat} (ty : Nat) (h : Own dk e G w v xs) (ht : P.underlying t = some (.slice e)) (he : ElOf P e dk.sz by_) (hsz : 0 < dk.sz)
    (a : Addr) (m c : Nat) (news : List Value) (hl : news.length = m * dk.sz) (hnews : ∀ j u, news[j]? = some u → w.cell? (a.add j) = some u) (h1 : ∀ u ∈ news, u.oneCell' = true)
    (h63 : xs.length + m ≤ maxLen) (hbytes : ((xs.length + m) + (xs.length + m) / 4 + 192) * by_ ≤ 281474976710656) (hm : 0 < m) :
    ∃ v0 css, w.ownsRow 0 e dk.sz v0 xs.length css.flatten ∧ (∀ k, v0.ownBlock = some k → G k) ∧ Els dk (fun k => G k ∧ v0.ownBlock ≠ some k) w xs css ∧
      ∃ v' w', (Builtin.append_ #[t, t] ty #[v, .slice (some a) m c]).run P w = .ok v' w' ∧ w'.ownsRow 0 e dk.sz v' (xs.length + m) (css.flatten ++ news) ∧ w.grownBy w' v0.ownBlock ∧ (v'.ownBlock = v0.ownBlock ∨ v'.ownBlock = some w.heap.size) := by
  obtain ⟨inf, zz, hinf, hz, hzs, hisz, hib⟩ := he
  rcases h with ⟨ad, rfl, rfl⟩ | ⟨css, hown, hblk, hels⟩
  · refine ⟨.slice none 0 0, [], World.ownsRow_nil _ _ _ _, fun k hk => by simp [Value.ownBlock] at hk, trivial, ?_⟩
    subst hib
    have h63' : m ≤ maxLen := by simpa using h63
    have hm1 : m ≤ 9223372036854775807 := by simp only [maxLen] at h63'; omega
    have hb' : m * inf.bytes ≤ 281474976710656 := Nat.le_trans (Nat.mul_le_mul_right _ (by simp; omega)) hbytes
    have hr := run_append_grow (P := P) (w := w) t ty e inf zz ht hinf hz ad 0 0 [] (by simp) (fun j v hj => by simp at hj) a m c news (by rw [hl, hisz]) hnews (by omega) (by omega)
      (by rw [Nat.zero_add, nextslicecap_zero hm]; omega)
    refine ⟨_, _, hr, ?_, ⟨rfl, rfl, rfl, by simp, fun k hk _ => heap_alloc_old w.drew _ k hk⟩, .inr rfl⟩
    have hge := grownCap_ge w (0 + m) 0 e
    have hcm : grownCap w (0 + m) 0 e ≤ maxLen := grownCap_le_maxLen w (0 + m) 0 e (by simpa using h63)
    refine ⟨by simpa using hl, .inr ⟨w.heap.size, _, _, rfl, Nat.zero_le _, heap_alloc_new w.drew _, by simpa using hge, hcm, ?_, ?_⟩⟩
    · simp only [Array.size_append, List.size_toArray, size_zeroCells, hzs, hl, ← Nat.add_mul]
      simp only [List.length_nil, Nat.zero_mul, Nat.zero_add, ← Nat.add_mul] at hge ⊢
      congr 1
      omega
    · simp only [Array.toList_append, List.append_assoc]
      have : (([] : List α).length + m) * dk.sz = news.length := by simp [hl]
      rw [this]
      simp
  · obtain ⟨v', w', hr, hown', hgr, _⟩ := run_append_own_wide (P := P) w 0 t ty e inf zz dk.sz by_ ht hinf hz hisz hib hzs hsz v xs.length css.flatten hown a m c news hl hnews h1 h63 hbytes (Nat.zero_le _)
    have hat : v'.ownBlock = v.ownBlock ∨ v'.ownBlock = some w.heap.size := by
      have hm1 : xs.length + m ≤ 9223372036854775807 := by simp only [maxLen] at h63; omega
      subst hib
      rw [← hisz] at hl hown
      rcases hown.2 with ⟨rfl, hn⟩ | ⟨g, cap, cur, rfl, hbg, hg, hnc, hcm, hcs, htake⟩
      · have hr2 := run_append_nil (P := P) w t ty e inf zz ht hinf hz a m c news hl hnews hm (by omega) (Nat.le_trans (Nat.mul_le_mul_right _ (by omega)) hbytes)
        rw [hr] at hr2
        injection hr2 with hv _
        subst hv
        exact .inr rfl
      · by_cases hroom : xs.length + m ≤ cap
        · have hfit : xs.length * inf.size + news.length ≤ cur.size := by rw [hl, hcs, ← Nat.add_mul]; exact Nat.mul_le_mul_right _ hroom
          have hr2 := run_append_room (P := P) w t ty e inf ht hinf g xs.length cap cur hg a m c news hl hnews h1 hroom hfit
          rw [hr] at hr2
          injection hr2 with hv _
          subst hv
          exact .inl rfl
        · have hr2 := run_append_grow (P := P) w t ty e inf zz ht hinf hz ⟨g, 0, none⟩ xs.length cap css.flatten hown.1 (hown.cells (g := g) rfl) a m c news hl hnews (by omega) (by omega) (growslice_fits_wide (by omega) hbytes)
          rw [hr] at hr2
          injection hr2 with hv _
          subst hv
          exact .inr rfl
    exact ⟨v, css, hown, hblk, hels, v', w', hr, hown', hgr, hat⟩
/-- append(s, x), s the call's own, x in a box of its own; what x hangs on (C) goes into the row. -/
theorem r_append1 {α : Type} {dk : Kd α} {t e e' by_ g bd : Nat} {v : Value} {xs ys : List α} {xx : α} {cs : List Value} {C : List SP} (hst : ST Δ N a L) (hsh : SH F w0 w (Row dk e v xs :: Box g cs e' :: C ++ M)) (hw : Wt ops L gd) (hd : Nat.blt d N = true)
    (ht : P.underlying t = some (.slice e)) (he : ElOf P e dk.sz by_) (hsz : 0 < dk.sz) (hbd : (bd + bd / 4 + 192) * by_ ≤ 281474976710656) (hby : 0 < by_) (hx : ev L x = some v) (hy : ev L y = some (.slice (some ⟨g, 0, none⟩) 1 1))
    (hM : ∀ G w, Sep G w C → dk.M G w xx cs) (hp : push bd xs xx = some ys)
    (k : ∀ v' a w', SH F w0 w' (Row dk e v' ys :: M) → ST Δ N a ((d, v') :: L) → wpL ρ P ops Q rest a w') :
    wpL ρ P ops Q ({ dst := some d, op := .call { callee := .builtin .append, args := #[x, y], argTypes := #[t, t] }, type := ty, pos := pos, after := af, guard := gd } :: rest) a w := by
  obtain ⟨hlt, rfl⟩ := push_some hp
  obtain ⟨G, hs, hG, hk⟩ := SH.call (L1 := Row dk e v xs :: Box g cs e' :: C) (L2 := M) hsh
  obtain ⟨G1, G2, h1, h2, h3, hA, ⟨G3, G4, h4, h5, h6, hbox, hC⟩⟩ := hs
  have hMx := hM _ _ hC
  have hlen := dk.K_len (dk.M_K hMx)
  have hbnd : ((xs.length + 1) + (xs.length + 1) / 4 + 192) * by_ ≤ 281474976710656 := Nat.le_trans (Nat.mul_le_mul_right _ (by omega)) hbd
  have hmx : xs.length + 1 ≤ maxLen := by
    have := Nat.le_mul_of_pos_right ((xs.length + 1) + (xs.length + 1) / 4 + 192) hby
    simp only [maxLen]
    omega
  obtain ⟨v, css, hown, hblk, hels, v', w', hr, hown', hgr, hat⟩ := Own.append (P := P) ty hA ht he hsz ⟨g, 0, none⟩ 1 1 cs (by rw [hlen, Nat.one_mul])
    (fun j u hu => by rw [Addr.add_lit, Nat.zero_add, box_cell hbox.2]; exact hu) (dk.K_one (dk.M_K hMx)) hmx hbnd (by decide)
  have hin : ∀ k, G1 k → k < w.heap.size := fun k hk => (hG k (h1 k hk)).1
  refine wl_val (v := v') (w' := w') hst hw ?_ (k v' _ w' ?_ (hst.put hd _))
  · simp only [execOp, resolve, invoke, builtin, Sem.run_bind, Sem.run_pure, Result.andThen_ok, List.map_toArray, List.map_cons, List.map_nil, hst.ev hx, hst.ev hy, hr]
  · refine hk w' _ (SH.rowNew (C := C) (v := v) (css := css) (cs := cs) G1 G4 h1 (fun k hk => h2 k (h5 k hk)) (fun k hk hk' => h3 k hk (h5 k hk')) ?_ hgr hblk hat hin (fun k hk => (hG k (h2 k (h5 k hk))).1) hels hMx)
    rw [List.length_append, List.length_singleton, List.flatten_append, List.flatten_cons, List.flatten_nil, List.append_nil]
    exact hown'
/-- The parts of a literal, in order. -/
def evp (L : List (Nat × Value)) : Nat → List (Nat × Operand) → Option (List Value)
  | _, [] => some []
  | i, p :: r => cond (Nat.beq p.1 i) (match ev L p.2, evp L (i + 1) r with
    | some v, some vs => some (v :: vs)
    | _, _ => none) none
def enum : Nat → List Value → List (Nat × Value)
  | _, [] => []
  | i, v :: r => (i, v) :: enum (i + 1) r
theorem evp_map (hst : ST Δ N a L) : ∀ {ps : List (Nat × Operand)} {i : Nat} {vs : List Value}, evp L i ps = some vs → (ps.map fun p => (p.1, a.eval p.2)) = enum i vs
  | [], i, vs, h => by simp only [evp, Option.some.injEq] at h; subst h; rfl
  | p :: r, i, vs, h => by
    simp only [evp] at h
    cases hb : Nat.beq p.1 i with
    | false => rw [hb, cond_false] at h; cases h
    | true =>
      rw [hb, cond_true] at h
      have hi := Nat.eq_of_beq_eq_true hb
      split at h
      · rename_i v vs' hv hvs
        injection h with h
        subst h
        simp [enum, hst.ev hv, evp_map hst hvs, hi]
      · cases h
theorem foldl_cells (off : Nat) : ∀ (cs pre post : List Value) (j : Nat), pre.length = off + j → cs.length ≤ post.length →
    (cs.zipIdx j).foldl (fun acc (p : Value × Nat) => acc.setIfInBounds (off + p.2) p.1) (pre ++ post).toArray = (pre ++ cs ++ post.drop cs.length).toArray
  | [], pre, post, j, _, _ => by simp
  | c :: r, pre, post, j, hp, hl => by
    obtain ⟨q, post', rfl⟩ : ∃ q post', post = q :: post' := by
      cases post with
      | nil => simp at hl
      | cons q post' => exact ⟨q, post', rfl⟩
    rw [List.zipIdx_cons, List.foldl_cons]
    have hset : (pre ++ q :: post').toArray.setIfInBounds (off + j) c = ((pre ++ [c]) ++ post').toArray := by
      rw [← hp]
      simp [List.set_append_right]
    rw [hset, foldl_cells off r (pre ++ [c]) post' (j + 1) (by simp; omega) (by simpa using hl)]
    simp
theorem fill_all (sz : Nat) : ∀ (vs : List Value) (i : Nat) (pre post : List Value), (∀ v ∈ vs, v.cells.size = sz) → pre.length = i * sz → post.length = vs.length * sz →
    Instr.fill (fun i => some (i * sz, sz)) (pre ++ post).toArray (enum i vs) = some (pre ++ vs.flatMap (·.cells.toList)).toArray
  | [], i, pre, post, _, _, hp => by
    have : post = [] := List.eq_nil_of_length_eq_zero (by simpa using hp)
    subst this
    simp [enum, Instr.fill]
  | v :: r, i, pre, post, hv, hpre, hp => by
    have hs := hv v (List.mem_cons_self ..)
    have hle : sz ≤ post.length := by rw [hp, List.length_cons, Nat.add_mul]; omega
    have hcond : ¬ (v.cells.size ≠ sz || i * sz + v.cells.size > (pre ++ post).toArray.size) = true := by
      simp [hs, hpre]
      omega
    simp only [enum, Instr.fill]
    rw [if_neg hcond]
    have hz : v.cells.zipIdx.foldl (fun cs (p : Value × Nat) => cs.setIfInBounds (i * sz + p.2) p.1) (pre ++ post).toArray = (pre ++ v.cells.toList ++ post.drop sz).toArray := by
      have := foldl_cells (i * sz) v.cells.toList pre post 0 (by simpa using hpre) (by simpa [hs] using hle)
      rw [← Array.foldl_toList, Array.toList_zipIdx]
      simpa [hs] using this
    have hz' : (v.cells.zipIdx.foldl (fun cs x => match x with | (c, j) => cs.setIfInBounds (i * sz + j) c) (pre ++ post).toArray) = (pre ++ v.cells.toList ++ post.drop sz).toArray := hz
    rw [hz']
    have := fill_all sz r (i + 1) (pre ++ v.cells.toList) (post.drop sz) (fun u hu => hv u (List.mem_cons_of_mem _ hu)) (by simp [hpre, hs, Nat.add_mul]) (by simp [hp, Nat.add_mul])
    rw [this]
    simp
/-- A literal of a slice: its cells in a new block. -/
theorem r_buildSlice {t e len sz by_ : Nat} {parts : Array (Nat × Operand)} {vs : List Value} {cs : List Value} (hst : ST Δ N a L) (hsh : SH F w0 w M) (hw : Wt ops L gd) (hd : Nat.blt d N = true)
    (ht : P.underlying t = some (.slice e)) (he : ElOf P e sz by_) (hp : evp L 0 parts.toList = some vs) (hl : vs.length = len) (hv : ∀ v ∈ vs, v.cells.size = sz) (hsm : Nat.ble (len * sz) 16777216 = true) (hcs : (vs.flatMap (·.cells.toList)) = cs)
    (k : ∀ g a w', g = w.heap.size → SH F w0 w' (Box g cs e :: M) → ST Δ N a ((d, .slice (some ⟨g, 0, none⟩) len len) :: L) → wpL ρ P ops Q rest a w') :
    wpL ρ P ops Q ({ dst := some d, op := .buildSlice t len parts, type := ty, pos := pos, after := af, guard := gd } :: rest) a w := by
  subst hcs
  obtain ⟨inf, zz, hinf, hz, hzs, hisz, hib⟩ := he
  have hsm' := Nat.le_of_ble_eq_true hsm
  refine wl_val (v := .slice (some ⟨w.heap.size, 0, none⟩) len len) (w' := w.alloc (.cells (vs.flatMap (·.cells.toList)).toArray e)) hst hw ?_ (k _ _ _ rfl (hsh.alloc _ e) (hst.put hd _))
  have hparts : (parts.map fun (p : Nat × Operand) => (p.1, a.eval p.2)).toList = enum 0 vs := by
    rw [Array.toList_map]; exact evp_map hst hp
  have hfill : ∀ init : Array Value, init.size = len * sz → Instr.fill (fun i => some (i * sz, sz)) init (enum 0 vs) = some (vs.flatMap (·.cells.toList)).toArray := fun init hi => by
    have := fill_all sz vs 0 [] init.toList hv (by simp) (by simpa [hl] using hi)
    simpa using this
  have hmap : (parts.map fun x => match x with | (i, x) => (i, a.eval x)) = (parts.map fun (p : Nat × Operand) => (p.1, a.eval p.2)) := rfl
  have hnot : ¬ (len * sz > 2 ^ 24) := by omega
  simp only [execOp, Instr.buildSlice, Sem.run_bind, run_underlying ht, Result.andThen_ok, sizeOf, typeInfo, run_program, hinf, Sem.run_pure, hisz, hnot, if_false, hmap, hparts]
  by_cases h0 : len * sz = 0
  · simp [h0, hfill (Array.map (fun x => (default : Value)) (Array.range 0)) (by simp [h0]), newRow]
  · simp [h0, zeroValue, typeInfo, hinf, hz, hfill _ (show (Array.map (fun x => zz.cells[x % zz.cells.size]!) (Array.range (len * sz))).size = len * sz by simp), newRow]
end
section
variable {ρ : Option Nat} {Δ : List Deferred} variable {P : Program} {Q : Exit → Act → World → Prop} {a : Act} {w : World} {N : Nat} {L : List (Nat × Value)}
theorem ret1 {fn : Func} {R : Ending → World → Prop} {t : Nat} {v : Value} (hst : ST [] N a L) (h : fn.results = #[.tmp t]) (hv : look L t = some v) (hR : R (.returned v) w) : bodyPost P fn R .ret a w := by
  refine bodyPost_ret (v := v) ?_ hst.defers hR
  rw [results_tmp h]
  have := hst.get t v hv
  simp [this]
theorem ret0 {fn : Func} {R : Ending → World → Prop} (hst : ST [] N a L) (h : fn.results = #[]) (hR : R (.returned (.tuple #[])) w) : bodyPost P fn R .ret a w :=
  bodyPost_ret (v := .tuple #[]) (results_none h _ _ _) hst.defers hR
theorem end0 {fn : Func} {R : Ending → World → Prop} (hst : ST [] N a L) (h : fn.results = #[]) (hR : R (.returned (.tuple #[])) w) : bodyPost P fn R .normal a w :=
  bodyPost_end (v := .tuple #[]) (results_none h _ _ _) hst.defers hR
theorem ret2 {fn : Func} {R : Ending → World → Prop} {t1 t2 : Nat} {v1 v2 : Value} (hst : ST [] N a L) (h : fn.results = #[.tmp t1, .tmp t2]) (h1 : look L t1 = some v1) (h2 : look L t2 = some v2) (hR : R (.returned (.tuple #[v1, v2])) w) : bodyPost P fn R .ret a w := by
  refine bodyPost_ret (v := .tuple #[v1, v2]) ?_ hst.defers hR
  rw [results_tmp2 h]
  have e1 := hst.get _ _ h1
  have e2 := hst.get _ _ h2
  simp [e1, e2]
theorem calls_enter {f : FuncId} {fn : Func} {c : Code} {l : List Value} {R : Ending → World → Prop} (hf : P.funcs[f]? = some fn) (hb : fn.body = some c) (hN : Nat.ble l.length fn.ntmps = true)
    (h : ∀ a, ST [] fn.ntmps a (args0 0 l) → wq c none P (bodyPost P fn R) a w) : Calls P f l.toArray w R :=
  calls_FW (ρ := none) (n := 0) (callsIn_of_wp hf hb trivial (h _ (ST.init fn.ntmps l (Nat.le_of_ble_eq_true hN))))
end
end Go.Proofs.YtbaemhkfmddakaaGreat.Sy
