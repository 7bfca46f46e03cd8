import Derived.Test.YtgmaldangihhnaaSyWnd
import Derived.Maps.Range
import Derived.Maps.RangeRun
import Derived.Maps.OwnSet
import Derived.StringKeys
set_option linter.unusedVariables false
set_option linter.unusedSectionVars false
set_option linter.unusedSimpArgs false
namespace Go.Proofs.Ytgmaldangihhnaa.Sy
open Go
abbrev KV := ByteArray × ByteArray
def sdrop (x : ByteArray) (l : List KV) : List KV := l.filter fun p => !decide (p.1 = x)
def sput (l : List KV) (x v : ByteArray) : Option (List KV) := if x.size ≤ maxLen ∧ l.length < maxLen then some ((x, v) :: sdrop x l) else none
def sdel (l : List KV) (x : ByteArray) : Option (List KV) := if x.size ≤ maxLen then some (sdrop x l) else none
def Once (l : List KV) : Prop := l.Pairwise fun (p q : KV) => p.1 ≠ q.1
def kL (x : ByteArray) : Lit := .string x.data.toList
theorem kL_inj {x y : ByteArray} (h : kL x = kL y) : x = y := by
  unfold kL at h
  injection h with h
  cases x; cases y
  simp only at h
  congr 1
  exact Array.ext' h
/-- How an element reads. -/
def RS (v : Value) : Option (DataW Unit × List MemPlace) := match v with
  | .agg A => match A.toList with
    | [.string s] => some (.lit (kL s), [])
    | _ => none
  | _ => none
theorem RS_mk (s : ByteArray) : RS (.agg #[.string s]) = some (.lit (kL s), []) := rfl
theorem RS_inv {v : Value} {y : DataW Unit × List MemPlace} (h : RS v = some y) : ∃ s, v = .agg #[.string s] ∧ y = (.lit (kL s), []) := by
  unfold RS at h
  split at h
  · rename_i A
    split at h
    · rename_i s hs
      injection h with h
      refine ⟨s, ?_, h.symm⟩
      congr 1
      exact Array.ext' hs
    · cases h
  · cases h
/-- What a map reads as, told as a list of pairs (each key once, in any turn). -/
structure SRep (D : DataW Unit) (l : List KV) : Prop where
  map : Maps.IsMap D
  once : l.Pairwise fun p q => p.1 ≠ q.1
  szs : ∀ p ∈ l, p.1.size ≤ maxLen
  has : ∀ x : ByteArray, Maps.has D (kL x) = l.any fun p => decide (p.1 = x)
  at_ : ∀ p ∈ l, ∀ zd, D.atKey (kL p.1) zd = .lit (kL p.2)
theorem mem_sdrop {x : ByteArray} {l : List KV} {p : KV} : p ∈ sdrop x l ↔ p ∈ l ∧ p.1 ≠ x := by simp [sdrop]
theorem any_sdrop {x y : ByteArray} {l : List KV} : (sdrop x l).any (fun p => decide (p.1 = y)) = (!decide (x = y) && l.any fun p => decide (p.1 = y)) := by
  rw [Bool.eq_iff_iff]
  simp only [List.any_eq_true, Bool.and_eq_true, decide_eq_true_eq, Bool.not_eq_true', decide_eq_false_iff_not, mem_sdrop]
  constructor
  · rintro ⟨p, ⟨h1, h2⟩, rfl⟩
    exact ⟨fun e => h2 e.symm, p, h1, rfl⟩
  · rintro ⟨h, p, h1, rfl⟩
    exact ⟨p, ⟨h1, fun e => h e.symm⟩, rfl⟩
theorem sdrop_len (x : ByteArray) (l : List KV) : (sdrop x l).length ≤ l.length := List.length_filter_le _ _
theorem sdrop_lt {p : KV} : ∀ {l : List KV}, p ∈ l → (sdrop p.1 l).length + 1 ≤ l.length
  | q :: l, h => by
    by_cases e : q.1 = p.1
    · have : sdrop p.1 (q :: l) = sdrop p.1 l := by simp [sdrop, e]
      have := sdrop_len p.1 l
      simp only [*, List.length_cons]; omega
    · have e1 : sdrop p.1 (q :: l) = q :: sdrop p.1 l := by simp [sdrop, e]
      rcases List.mem_cons.1 h with rfl | h
      · exact absurd rfl e
      · have := sdrop_lt h
        rw [e1]; simp only [List.length_cons]; omega
theorem sdrop_perm {p : KV} : ∀ {l : List KV}, (l.Pairwise fun p q => p.1 ≠ q.1) → p ∈ l → l.Perm (p :: sdrop p.1 l)
  | q :: l, hp, h => by
    obtain ⟨k1, k2⟩ := List.pairwise_cons.1 hp
    rcases List.mem_cons.1 h with rfl | h
    · have e1 : sdrop p.1 (p :: l) = l := by
        simp only [sdrop, List.filter_cons, decide_true, Bool.not_true, Bool.false_eq_true, if_false]
        exact List.filter_eq_self.2 fun x hx => by simpa using fun c => k1 x hx c.symm
      rw [e1]
    · have e : q.1 ≠ p.1 := k1 p h
      have e1 : sdrop p.1 (q :: l) = q :: sdrop p.1 l := by simp [sdrop, e]
      rw [e1]
      exact ((sdrop_perm k2 h).cons q).trans (List.Perm.swap _ _ _)
theorem SRep.nil : SRep (.map []) [] where
  map := Maps.isMap_empty
  once := List.Pairwise.nil
  szs p h := by cases h
  has _ := rfl
  at_ p h := by cases h
theorem SRep.put {D : DataW Unit} {l : List KV} (h : SRep D l) {x v : ByteArray} (hx : x.size ≤ maxLen) (hk : WideAt.IsKeyLit (kL x)) : SRep (D.put (kL x) (.lit (kL v))) ((x, v) :: sdrop x l) where
  map := h.map.put _ _
  once := List.pairwise_cons.2 ⟨fun p hp => fun e => (mem_sdrop.1 hp).2 e.symm, h.once.filter _⟩
  szs p hp := by
    rcases List.mem_cons.1 hp with rfl | hp
    · exact hx
    · exact h.szs p (mem_sdrop.1 hp).1
  has y := by
    rw [List.any_cons, any_sdrop]
    by_cases e : x = y
    · subst e
      rw [Maps.has_put_same h.map hk]; simp
    · rw [Maps.has_put_other (fun c => e (kL_inj c).symm), h.has y]; simp [e]
  at_ p hp zd := by
    rcases List.mem_cons.1 hp with rfl | hp
    · exact Maps.atKey_put_same h.map hk _ _
    · obtain ⟨h1, h2⟩ := mem_sdrop.1 hp
      rw [Maps.atKey_put_other (fun c => h2 (kL_inj c))]
      exact h.at_ p h1 zd
theorem SRep.del {D : DataW Unit} {l : List KV} (h : SRep D l) (x : ByteArray) : SRep (D.del (kL x)) (sdrop x l) where
  map := h.map.del _
  once := h.once.filter _
  szs p hp := h.szs p (mem_sdrop.1 hp).1
  has y := by
    rw [any_sdrop]
    by_cases e : x = y
    · subst e
      rw [Maps.has_del_same]; simp
    · rw [Maps.has_del_other (fun c => e (kL_inj c).symm), h.has y]; simp [e]
  at_ p hp zd := by
    obtain ⟨h1, h2⟩ := mem_sdrop.1 hp
    rw [Maps.atKey_del_other (fun c => h2 (kL_inj c))]
    exact h.at_ p h1 zd
def MapS (P : Program) (k : TypeId) (b : Nat) (l : List KV) : SP where
  H G w := G b ∧ ∃ D n, w.ownsMap P k RS b n D ∧ n ≤ l.length ∧ SRep D l
  stable := by
    rintro G w w' hs ⟨hb, D, n, ho, hm, hat⟩
    refine ⟨hb, D, n, ?_, hm, hat⟩
    obtain ⟨es, clock, hh, F, hsz, hD⟩ := ho
    exact ⟨es, clock, (hs b hb (Array.getElem?_eq_some_iff.1 hh).1).trans hh, F, hsz, hD⟩
  mono hs h := ⟨hs _ h.1, h.2⟩
  inb h := ⟨⟨h.1, h.2.choose_spec.choose_spec.1.lt⟩, h.2⟩
/-- A map reads as so many entries as it has: the bound is the list's length. -/
theorem own_len {P : Program} {k b n : Nat} {w : World} {D : DataW Unit} {l : List KV} (h : w.ownsMap P k RS b n D) (K : Maps.Keyed P k) (hk : P.underlying k = some .string) (hr : SRep D l) : w.ownsMap P k RS b l.length D := by
  obtain ⟨es, clock, hb, F, hs, hD⟩ := h
  refine ⟨es, clock, hb, F, ?_, hD⟩
  have e1 : es.size = ((es.toList.map (WideElems.rg P k RS)).foldr DataW.insert []).length := by rw [length_sorted]; simp
  obtain ⟨E, hE, hpw, hkey⟩ := (show w.ownsMap P k RS b n D from ⟨es, clock, hb, F, hs, hD⟩).entries K
  rw [hD] at hE
  injection hE with hE
  rw [e1, hE]
  -- each entry's key is a key of the list
  have hin : ∀ p ∈ E, ∃ q ∈ l, p.1 = kL q.1 := fun p hp => by
    have h1 : Maps.has D p.1 = true := by
      rw [hD, hE]
      exact List.any_eq_true.2 ⟨p, hp, WideAt.sameKey_self (hkey p hp)⟩
    have h2 : ∃ x : ByteArray, p.1 = kL x := by
      rw [← hE] at hp
      obtain ⟨x, hx, rfl⟩ := List.mem_map.1 (mem_sorted.1 hp)
      obtain ⟨y, hy⟩ := F.reads x hx
      rw [WideElems.rg_of hy]
      obtain ⟨z, _, hz, _⟩ := WideMaps.string_of_keyOf hk (WideElems.rd_key hy)
      exact ⟨z, hz⟩
    obtain ⟨x, hx⟩ := h2
    rw [hx, hr.has x] at h1
    obtain ⟨q, hq, e⟩ := List.any_eq_true.1 h1
    exact ⟨q, hq, by rw [hx]; congr 1; exact (of_decide_eq_true e).symm⟩
  -- as many as there are keys
  have : ∀ (E : List (Lit × DataW Unit)) (l : List KV), E.Pairwise (fun p q => p.1 ≠ q.1) → (∀ p ∈ E, ∃ q ∈ l, p.1 = kL q.1) → E.length ≤ l.length := by
    intro E
    induction E with
    | nil => intro l _ _; exact Nat.zero_le _
    | cons p E ih =>
      intro l h1 h2
      obtain ⟨k1, k2⟩ := List.pairwise_cons.1 h1
      obtain ⟨q, hq, e⟩ := h2 p (by simp)
      have := ih (sdrop q.1 l) k2 (fun p' hp' => by
        obtain ⟨q', hq', e'⟩ := h2 p' (by simp [hp'])
        refine ⟨q', mem_sdrop.2 ⟨hq', fun c => ?_⟩, e'⟩
        rw [c] at e'
        exact k1 p' hp' (e.trans e'.symm))
      have hpos := sdrop_lt hq
      simp only [List.length_cons]
      omega
  exact this E l hpw hin
/-- What 'entry' tells behind the step. -/
def EntryAt (P : Program) (w : World) (b r : Nat) (p : KV) : Prop := ∀ W : World, W.heap[b]? = w.heap[b]? → W.heap[r]? = w.heap[r]? → (Instr.entry (.pointer (some ⟨r, 0, none⟩))).run P W = .ok (.tuple #[.string p.1, .agg #[.string p.2]]) W
theorem entry_same {P : Program} {w W : World} {r b since c0 clock : Nat} {seen : Array Nat} {es : Array MapEntry} (hr : w.heap[r]? = some (.mapIter (some b) since seen c0)) (hb : w.heap[b]? = some (.map es clock)) (h1 : W.heap[b]? = w.heap[b]?) (h2 : W.heap[r]? = w.heap[r]?) {v : Value}
    (h : (Instr.entry (.pointer (some ⟨r, 0, none⟩))).run P w = .ok v w) : (Instr.entry (.pointer (some ⟨r, 0, none⟩))).run P W = .ok v W := by
  rw [hr] at h2
  rw [hb] at h1
  simp only [Instr.entry, getObj, Sem.run_bind, Sem.run, hr, hb, h1, h2, Result.andThen] at h ⊢
  generalize seen.back? = o at h ⊢
  cases o with
  | none => cases h
  | some stamp =>
    simp only [getObj, Sem.run_bind, Sem.run, hb, h1, Result.andThen] at h ⊢
    by_cases hc : (clock != c0) = true
    · simp only [hc, if_true] at h
      cases h
    · simp only [hc, Bool.false_eq_true, if_false] at h ⊢
      cases hf : es.find? (fun x => x.born == stamp) with
      | none => simp only [hf] at h; cases h
      | some e =>
        simp only [hf] at h ⊢
        have h' : Result.ok (.tuple #[e.key, e.val]) w = Result.ok v w := h
        injection h' with h'
        subst h'
        rfl
def RngS (P : Program) (k : TypeId) (b r : Nat) (l rem : List KV) (cur : Option KV) : SP where
  H G w := G b ∧ G r ∧ ∃ D left cnt n, w.ranges P k RS b r n D left cnt ∧ n ≤ l.length ∧ SRep D l ∧ (∀ x, left (kL x) = rem.any fun p => decide (p.1 = x)) ∧ Once rem ∧ (∀ p ∈ rem, p ∈ l) ∧ (∀ kl, left kl = true → ∃ x, kl = kL x) ∧ ∀ p, cur = some p → EntryAt P w b r p
  stable := by
    rintro G w w' hs ⟨hb, hr, D, left, cnt, n, h, h1, h2, h3, h4, h5, h6, h7⟩
    have e1 := hs b hb h.owns.lt
    have e2 := hs r hr h.lt
    refine ⟨hb, hr, D, left, cnt, n, ?_, h1, h2, h3, h4, h5, h6, fun p hp W a1 a2 => h7 p hp W (a1.trans e1) (a2.trans e2)⟩
    obtain ⟨es, clock, since, seen, c0, g1, g2, g3, g4, g5, g6⟩ := h
    exact ⟨es, clock, since, seen, c0, e1.trans g1, g2, g3, g4, e2.trans g5, g6⟩
  mono hs h := ⟨hs _ h.1, hs _ h.2.1, h.2.2⟩
  inb h := by
    obtain ⟨hb, hr, D, left, cnt, n, h⟩ := h
    exact ⟨⟨hb, h.1.owns.lt⟩, ⟨hr, h.1.lt⟩, D, left, cnt, n, h⟩
section
variable {ρ : Option Nat} {Δ : List Deferred} variable {P : Program} {ops : Array Oper} {Q : Exit → Act → World → Prop} {a : Act} {w : World} {rest : List Oper} {N : Nat} {L : List (Nat × Value)}
variable {d ty : Nat} {pos : String} {af : Array Edge} {gd : Option (Nat × Bool)} {x y z : Operand}
variable {F : Nat → Prop} {w0 : World} {M : List SP}
theorem r_makeMapS {t : Nat} (k : TypeId) (hst : ST Δ N a L) (hsh : SH F w0 w M) (hw : Wt ops L gd) (hd : Nat.blt d N = true)
    (K : ∀ g a w', g = w.heap.size → SH F w0 w' (MapS P k g [] :: M) → ST Δ N a ((d, .map (some g)) :: L) → wpL ρ P ops Q rest a w') :
    wpL ρ P ops Q ({ dst := some d, op := .makeMap t none, type := ty, pos := pos, after := af, guard := gd } :: rest) a w := by
  have hs : ∀ k, k < w.heap.size → (w.alloc (.map #[] 0)).heap[k]? = w.heap[k]? := fun k hk => alloc_old w _ k hk
  refine wl_val (v := .map (some w.heap.size)) (w' := w.alloc (.map #[] 0)) hst hw ?_ (K _ _ _ rfl ?_ (hst.put hd _))
  · have hrun : (Instr.makeMap t none).run P w = .ok (.map (some w.heap.size)) (w.alloc (.map #[] 0)) := rfl
    simp [execOp, hrun]
  · refine ⟨⟨hsh.kp.os, hsh.kp.tape, hsh.kp.output, by have := hsh.kp.size; simp; omega, fun k hk hn => by rw [hs k (by have := hsh.kp.size; omega)]; exact hsh.kp.keep k hk hn⟩, ?_⟩
    refine ⟨fun k => k = w.heap.size, Mine F w0 w, ?_, fun k hk => hk.alloc _, ?_, ⟨rfl, .map [], 0, World.ownsMap_made w P k RS, Nat.le_refl _, SRep.nil⟩, hsh.sep.stable fun k hk _ => hs k hk.1⟩
    · rintro k rfl
      exact ⟨by simp, .inr hsh.kp.size⟩
    · rintro k rfl hk
      exact absurd hk.1 (Nat.lt_irrefl _)
theorem r_mapUpdateS {t k e b i : Nat} {l l' : List KV} {n m : ByteArray} (hst : ST Δ N a L) (hsh : SH F w0 w M) (hw : Wt ops L gd) (ht : P.underlying t = some (.map k e)) (hk : P.underlying k = some .string)
    (hx : ev L x = some (.map (some b))) (hy : ev L y = some (.string n)) (hz : ev L z = some (.agg #[.string m])) (hi : M[i]? = some (MapS P k b l)) (hp : sput l n m = some l')
    (K : ∀ a w', SH F w0 w' (MapS P k b l' :: M.eraseIdx i) → ST Δ N a L → wpL ρ P ops Q rest a w') :
    wpL ρ P ops Q ({ dst := none, op := .mapUpdate t x y z, type := ty, pos := pos, after := af, guard := gd } :: rest) a w := by
  unfold sput at hp
  split at hp
  case isFalse => cases hp
  rename_i hb
  injection hp with hp
  subst hp
  obtain ⟨G, hs, hG, hkk⟩ := SH.call (L1 := [MapS P k b l]) (L2 := M.eraseIdx i) ⟨hsh.kp, hsh.sep.pull i hi⟩
  obtain ⟨hGb, D, c, hown, hcn, hr⟩ := hs.head
  have hkey := WideMaps.keyOf_string_mk (P := P) hk hb.1
  obtain ⟨w', hrun, hown', hgr⟩ := hown.update (Maps.string_keyed hk) ht (by omega) hkey (RS_mk m)
  have hlit : WideAt.IsKeyLit (kL n) := (Maps.string_keyed hk).key hkey
  have hr' := hr.put (v := m) hb.1 hlit
  refine wl_skip (w' := w') hst hw ?_ (K _ _ (hkk w' [MapS P k b ((n, m) :: sdrop n l)] ?_) (hst.putN _))
  · simp [execOp, hst.ev hx, hst.ev hy, hst.ev hz, hrun]
  · refine ⟨⟨hgr.os, hgr.tape, hgr.output, hgr.size, fun j hj hn => hgr.block j hj (fun e => hn (by injection e with e; rw [e]; exact hGb))⟩, Mine G w w', fun _ => False, fun _ h => h, fun _ h => h.elim, fun _ _ h => h, ⟨⟨Nat.lt_of_lt_of_le (hG b hGb).1 hgr.size, .inl hGb⟩, _, _, own_len hown' (Maps.string_keyed hk) hk hr', Nat.le_refl _, hr'⟩, trivial⟩
theorem r_deleteS {t k e b i : Nat} {l l' : List KV} {n : ByteArray} (hst : ST Δ N a L) (hsh : SH F w0 w M) (hw : Wt ops L gd) (ht : P.underlying t = some (.map k e)) (hk : P.underlying k = some .string)
    (hx : ev L x = some (.map (some b))) (hy : ev L y = some (.string n)) (hi : M[i]? = some (MapS P k b l)) (hp : sdel l n = some l')
    (K : ∀ a w', SH F w0 w' (MapS P k b l' :: M.eraseIdx i) → ST Δ N a L → wpL ρ P ops Q rest a w') :
    wpL ρ P ops Q ({ dst := none, op := .call { callee := .builtin .delete, args := #[x, y], argTypes := #[t, k] }, type := ty, pos := pos, after := af, guard := gd } :: rest) a w := by
  unfold sdel at hp
  split at hp
  case isFalse => cases hp
  rename_i hb
  injection hp with hp
  subst hp
  obtain ⟨G, hs, hG, hkk⟩ := SH.call (L1 := [MapS P k b l]) (L2 := M.eraseIdx i) ⟨hsh.kp, hsh.sep.pull i hi⟩
  obtain ⟨hGb, D, c, hown, hcn, hr⟩ := hs.head
  have hkey := WideMaps.keyOf_string_mk (P := P) hk hb
  obtain ⟨w', hrun, hown', htu⟩ := hown.drop (Maps.string_keyed hk) ht hkey ty
  have hgr := htu.grown
  have hr' := hr.del n
  refine wl_val (v := .tuple #[]) (w' := w') hst hw ?_ (K _ _ (hkk w' [MapS P k b (sdrop n l)] ?_) (hst.putN _))
  · simp [execOp, resolve, invoke, builtin, hst.ev hx, hst.ev hy, hrun]
  · refine ⟨⟨hgr.os, hgr.tape, hgr.output, hgr.size, fun j hj hn => hgr.block j hj (fun e => hn (by injection e with e; rw [e]; exact hGb))⟩, Mine G w w', fun _ => False, fun _ h => h, fun _ h => h.elim, fun _ _ h => h, ⟨⟨Nat.lt_of_lt_of_le (hG b hGb).1 hgr.size, .inl hGb⟩, _, _, own_len hown' (Maps.string_keyed hk) hk hr', Nat.le_refl _, hr'⟩, trivial⟩
/-- 'range m' -/
theorem r_rangeS {t k e b i : Nat} {l : List KV} (hst : ST Δ N a L) (hsh : SH F w0 w M) (hw : Wt ops L gd) (hd : Nat.blt d N = true) (ht : P.underlying t = some (.map k e)) (hk : P.underlying k = some .string)
    (hx : ev L x = some (.map (some b))) (hi : M[i]? = some (MapS P k b l))
    (K : ∀ g a w', SH F w0 w' (RngS P k b g l l none :: M.eraseIdx i) → ST Δ N a ((d, .pointer (some ⟨g, 0, none⟩)) :: L) → wpL ρ P ops Q rest a w') :
    wpL ρ P ops Q ({ dst := some d, op := .range t x, type := ty, pos := pos, after := af, guard := gd } :: rest) a w := by
  obtain ⟨G, hs, hG, hkk⟩ := SH.call (L1 := [MapS P k b l]) (L2 := M.eraseIdx i) ⟨hsh.kp, hsh.sep.pull i hi⟩
  obtain ⟨hGb, D, c, hown, hcn, hr⟩ := hs.head
  obtain ⟨w', hrun, hrg, hgr, hsz⟩ := hown.range (Maps.string_keyed hk) ht
  refine wl_val (v := .pointer (some ⟨w.heap.size, 0, none⟩)) (w' := w') hst hw ?_ (K w.heap.size _ _ (hkk w' [RngS P k b w.heap.size l l none] ?_) (hst.put hd _))
  · simp [execOp, hst.ev hx, hrun]
  · refine ⟨⟨hgr.os, hgr.tape, hgr.output, hgr.size, fun j hj hn => hgr.block j hj (by simp)⟩, Mine G w w', fun _ => False, fun _ h => h, fun _ h => h.elim, fun _ _ h => h, ⟨⟨Nat.lt_of_lt_of_le (hG b hGb).1 hgr.size, .inl hGb⟩, ⟨by omega, .inr (Nat.le_refl _)⟩, D, _, _, c, hrg, hcn, hr, hr.has, hr.once, fun p hp => hp, fun kl hkl => ?_, fun p hp => by cases hp⟩, trivial⟩
    obtain ⟨es, clock, since, seen, c0, g1, g2, g3, g4, g5, g6, g7, g8, g9, g10⟩ := hrg
    obtain ⟨x, hx, e⟩ := g9 kl hkl
    obtain ⟨y, hy⟩ := g2.reads x hx
    obtain ⟨z, _, hz, _⟩ := WideMaps.string_of_keyOf hk (WideElems.rd_key hy)
    exact ⟨z, by rw [← e, WideElems.rg_of hy, hz]; rfl⟩
/-- The step. -/
theorem r_nextS {k b g i : Nat} {l rem : List KV} {cur : Option KV} (hst : ST Δ N a L) (hsh : SH F w0 w M) (hw : Wt ops L gd) (hd : Nat.blt d N = true) (hk : P.underlying k = some .string)
    (hx : ev L x = some (.pointer (some ⟨g, 0, none⟩))) (hi : M[i]? = some (RngS P k b g l rem cur))
    (K0 : rem = [] → ∀ a w', SH F w0 w' (RngS P k b g l [] none :: M.eraseIdx i) → ST Δ N a ((d, .tuple #[.bool false]) :: L) → wpL ρ P ops Q rest a w')
    (K1 : ∀ p rem', rem.Perm (p :: rem') → p ∈ l → ∀ a w', SH F w0 w' (RngS P k b g l rem' (some p) :: M.eraseIdx i) → ST Δ N a ((d, .tuple #[.bool true, .string p.1, .agg #[.string p.2]]) :: L) → wpL ρ P ops Q rest a w') :
    wpL ρ P ops Q ({ dst := some d, op := .next x false, type := ty, pos := pos, after := af, guard := gd } :: rest) a w := by
  obtain ⟨G, hs, hG, hkk⟩ := SH.call (L1 := [RngS P k b g l rem cur]) (L2 := M.eraseIdx i) ⟨hsh.kp, hsh.sep.pull i hi⟩
  obtain ⟨hGb, hGr, D, left, cnt, c, hrg, hcn, hr, hleft, honce, hsub, hlits, hcur⟩ := hs.head
  have hKy := Maps.string_keyed (P := P) hk
  rcases hrg.next hKy ty with ⟨h0, hl, hrun⟩ | ⟨key, v, kl, yy, w', cnt', hkey, hlk, hv, hat, hrun, hrg', hlt, hgr, hsz, hen⟩
  · have hrem : rem = [] := by
      cases rem with
      | nil => rfl
      | cons p s => have := hleft p.1; rw [hl] at this; simp at this
    subst hrem
    refine wl_val (v := .tuple #[.bool false]) (w' := w) hst hw ?_ (K0 rfl _ _ (hkk w [RngS P k b g l [] none] ?_) (hst.put hd _))
    · simp [execOp, hst.ev hx, hrun]
    · refine ⟨⟨rfl, rfl, rfl, Nat.le_refl _, fun j hj hn => rfl⟩, Mine G w w, fun _ => False, fun _ h => h, fun _ h => h.elim, fun _ _ h => h, ⟨⟨(hG b hGb).1, .inl hGb⟩, ⟨(hG g hGr).1, .inl hGr⟩, D, left, cnt, c, hrg, hcn, hr, hleft, honce, hsub, hlits, fun p hp => by cases hp⟩, trivial⟩
  · obtain ⟨q, rfl, rfl, hqs⟩ := WideMaps.string_of_keyOf hk hkey
    have h1 := hleft q
    rw [show left (kL q) = true from hlk] at h1
    obtain ⟨p, hp, e⟩ := List.any_eq_true.1 h1.symm
    have e := of_decide_eq_true e
    subst e
    obtain ⟨u, rfl, hy⟩ := RS_inv hv
    have hu : u = p.2 := by
      have a1 := hat (.lit (kL u))
      have a2 := hr.at_ p (hsub p hp) (.lit (kL u))
      rw [show D.atKey (kL p.1) (.lit (kL u)) = yy.1 from a1, hy] at a2
      injection a2 with a2
      exact kL_inj a2
    subst hu
    refine wl_val (v := .tuple #[.bool true, .string p.1, .agg #[.string p.2]]) (w' := w') hst hw ?_ (K1 p (sdrop p.1 rem) (sdrop_perm honce hp) (hsub p hp) _ _ (hkk w' [RngS P k b g l (sdrop p.1 rem) (some p)] ?_) (hst.put hd _))
    · simp [execOp, hst.ev hx, hrun]
    · refine ⟨⟨hgr.os, hgr.tape, hgr.output, hgr.size, fun j hj hn => hgr.block j hj (fun e => hn (by injection e with e; rw [e]; exact hGr))⟩, Mine G w w', fun _ => False, fun _ h => h, fun _ h => h.elim, fun _ _ h => h, ⟨⟨Nat.lt_of_lt_of_le (hG b hGb).1 hgr.size, .inl hGb⟩, ⟨Nat.lt_of_lt_of_le (hG g hGr).1 hgr.size, .inl hGr⟩, D, _, cnt', c, hrg', hcn, hr, fun y => ?_, honce.filter _, fun q hq => hsub q (mem_sdrop.1 hq).1, fun kl hkl => hlits kl ?_, fun q hq => ?_⟩, trivial⟩
      · show (left (kL y) && !(kL y).sameKey (kL p.1)) = _
        rw [any_sdrop, hleft y]
        by_cases ey : p.1 = y
        · rw [← ey, WideAt.sameKey_self (show WideAt.IsKeyLit (kL _) from hKy.key hkey)]; simp
        · rw [Maps.sameKey_ne (fun c => ey (kL_inj c).symm)]; simp [ey]
      · simp only [Bool.and_eq_true] at hkl; exact hkl.1
      · injection hq with hq
        subst hq
        intro W a1 a2
        obtain ⟨es, clock, since, seen, c0, g1, g2, g3, g4, g5, g6⟩ := hrg'
        exact entry_same g5 g1 a1 a2 hen
theorem x_entryS {k b g i : Nat} {l rem : List KV} {p : KV} (hst : ST Δ N a L) (hsh : SH F w0 w M) (hx : ev L x = some (.pointer (some ⟨g, 0, none⟩))) (hi : M[i]? = some (RngS P k b g l rem (some p))) :
    Tell P a w (.entry x) (.tuple #[.string p.1, .agg #[.string p.2]]) := fun o ho => by
  obtain ⟨_, _, D, left, cnt, c, hrg, hcn, hr, hleft, honce, hsub, hlits, hcur⟩ := (hsh.sep.pull i hi).head
  have := hcur p rfl w rfl rfl
  simp [execOp, ho, hst.ev hx, this]
theorem r_deleteRS {t k e b g i : Nat} {l l' rem : List KV} {cur : Option KV} {n : ByteArray} (hst : ST Δ N a L) (hsh : SH F w0 w M) (hw : Wt ops L gd) (ht : P.underlying t = some (.map k e)) (hk : P.underlying k = some .string)
    (hx : ev L x = some (.map (some b))) (hy : ev L y = some (.string n)) (hi : M[i]? = some (RngS P k b g l rem cur)) (hp : sdel l n = some l')
    (K : ∀ a w', SH F w0 w' (RngS P k b g l' (sdrop n rem) none :: M.eraseIdx i) → ST Δ N a L → wpL ρ P ops Q rest a w') :
    wpL ρ P ops Q ({ dst := none, op := .call { callee := .builtin .delete, args := #[x, y], argTypes := #[t, k] }, type := ty, pos := pos, after := af, guard := gd } :: rest) a w := by
  unfold sdel at hp
  split at hp
  case isFalse => cases hp
  rename_i hb
  injection hp with hp
  subst hp
  obtain ⟨G, hs, hG, hkk⟩ := SH.call (L1 := [RngS P k b g l rem cur]) (L2 := M.eraseIdx i) ⟨hsh.kp, hsh.sep.pull i hi⟩
  obtain ⟨hGb, hGr, D, left, cnt, c, hrg, hcn, hr, hleft, honce, hsub, hlits, hcur⟩ := hs.head
  have hKy := Maps.string_keyed (P := P) hk
  have hkey := WideMaps.keyOf_string_mk (P := P) hk hb
  obtain ⟨w', cnt', hrun, hrg', hle, htu⟩ := hrg.drop hKy ht hkey ty
  have hgr := htu.grown
  have hr' := hr.del n
  have hown' := own_len hrg'.owns hKy hk hr'
  refine wl_val (v := .tuple #[]) (w' := w') hst hw ?_ (K _ _ (hkk w' [RngS P k b g (sdrop n l) (sdrop n rem) none] ?_) (hst.putN _))
  · simp [execOp, resolve, invoke, builtin, hst.ev hx, hst.ev hy, hrun]
  · refine ⟨⟨hgr.os, hgr.tape, hgr.output, hgr.size, fun j hj hn => hgr.block j hj (fun e => hn (by injection e with e; rw [e]; exact hGb))⟩, Mine G w w', fun _ => False, fun _ h => h, fun _ h => h.elim, fun _ _ h => h, ⟨⟨Nat.lt_of_lt_of_le (hG b hGb).1 hgr.size, .inl hGb⟩, ⟨Nat.lt_of_lt_of_le (hG g hGr).1 hgr.size, .inl hGr⟩, _, (fun x => left x && !x.sameKey (kL n)), cnt', (sdrop n l).length, ?_, Nat.le_refl _, hr', fun y => ?_, honce.filter _, fun q hq => mem_sdrop.2 ⟨hsub q (mem_sdrop.1 hq).1, (mem_sdrop.1 hq).2⟩, fun kl hkl => hlits kl ?_, fun q hq => by cases hq⟩, trivial⟩
    · obtain ⟨es, clock, since, seen, c0, g1, g2, g3, g4, g5, g6⟩ := hrg'
      obtain ⟨es2, clock2, q1, q2, q3, q4⟩ := hown'
      have : es2 = es := by rw [g1] at q1; injection q1 with q1; injection q1 with q1 _; exact q1.symm
      subst this
      exact ⟨_, clock, since, seen, c0, g1, g2, q3, g4, g5, g6⟩
    · show (left (kL y) && !(kL y).sameKey (kL n)) = _
      rw [any_sdrop, hleft y]
      by_cases ey : n = y
      · rw [← ey, WideAt.sameKey_self (show WideAt.IsKeyLit (kL _) from hKy.key hkey)]; simp
      · rw [Maps.sameKey_ne (fun c => ey (kL_inj c).symm)]; simp [ey]
    · simp only [Bool.and_eq_true] at hkl; exact hkl.1
/-- Behind the range the map stands alone again. -/
theorem SH.endRng {k b g i : Nat} {l rem : List KV} {cur : Option KV} (hsh : SH F w0 w M) (hi : M[i]? = some (RngS P k b g l rem cur)) : SH F w0 w (MapS P k b l :: M.eraseIdx i) := by
  obtain ⟨G, hs, hG, hkk⟩ := SH.call (L1 := [RngS P k b g l rem cur]) (L2 := M.eraseIdx i) ⟨hsh.kp, hsh.sep.pull i hi⟩
  obtain ⟨hGb, hGr, D, left, cnt, c, hrg, hcn, hr, hleft, honce, hsub, hlits, hcur⟩ := hs.head
  refine hkk w [MapS P k b l] ⟨⟨rfl, rfl, rfl, Nat.le_refl _, fun j hj hn => rfl⟩, Mine G w w, fun _ => False, fun _ h => h, fun _ h => h.elim, fun _ _ h => h, ⟨⟨(hG b hGb).1, .inl hGb⟩, D, c, hrg.owns, hcn, hr⟩, trivial⟩
end
open Classical in
/-- The value that all orders of l give. -/
noncomputable def anyOrd {α β : Type} (l : List α) (f : List α → Option β) : Option β := if h : ∃ r, ∀ σ : List α, l.Perm σ → f σ = some r then some h.choose else none
theorem anyOrd_some {α β : Type} {l : List α} {f : List α → Option β} {r : β} (h : anyOrd l f = some r) : ∀ σ : List α, l.Perm σ → f σ = some r := by
  unfold anyOrd at h
  split at h
  · rename_i hh
    injection h with h
    intro σ hσ
    rw [hh.choose_spec σ hσ, h]
  · cases h
theorem anyOrd_mk {α β : Type} {l : List α} {f : List α → Option β} {r : β} (h : ∀ σ : List α, l.Perm σ → f σ = some r) : anyOrd l f = some r := by
  have hh : ∃ r, ∀ σ : List α, l.Perm σ → f σ = some r := ⟨r, h⟩
  unfold anyOrd
  rw [dif_pos hh]
  have := hh.choose_spec l (.refl _)
  rw [h l (.refl _)] at this
  exact this.symm
/-- A step of a range over a map: whatever comes. -/
noncomputable def stepAll {β : Type} (rem : List KV) (e : Option β) (f : KV → List KV → Option β) : Option β := if rem.isEmpty = true then e else anyOrd rem fun σ => match σ with
  | p :: r => f p r
  | [] => e
theorem stepAll_nil {β : Type} {rem : List KV} {e : Option β} {f : KV → List KV → Option β} {r : Option β} (hr : rem = []) (h : stepAll rem e f = r) : e = r := by
  subst hr; simpa [stepAll] using h
theorem stepAll_cons {β : Type} {rem : List KV} {e : Option β} {f : KV → List KV → Option β} {r : β} (h : stepAll rem e f = some r) : ∀ p rem', rem.Perm (p :: rem') → f p rem' = some r := by
  intro p rem' hp
  have hne : rem.isEmpty = false := by
    cases rem with
    | nil => exact absurd hp.length_eq (by simp)
    | cons a b => rfl
  unfold stepAll at h
  rw [hne, if_neg (by decide)] at h
  exact anyOrd_some h (p :: rem') hp
theorem stepAll_mk {β : Type} {rem : List KV} {e : Option β} {f : KV → List KV → Option β} {r : β} (h0 : rem = [] → e = some r) (h1 : ∀ p rem', rem.Perm (p :: rem') → f p rem' = some r) : stepAll rem e f = some r := by
  unfold stepAll
  cases rem with
  | nil => exact h0 rfl
  | cons a b =>
    rw [if_neg (by simp)]
    refine anyOrd_mk fun σ hσ => ?_
    cases σ with
    | nil => exact absurd hσ.length_eq (by simp)
    | cons p s => exact h1 p s hσ
end Go.Proofs.Ytgmaldangihhnaa.Sy
