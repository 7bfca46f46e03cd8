import Derived.Test.YtfofolmagnaimaaDpD
set_option linter.unusedVariables false
set_option linter.unusedSectionVars false
set_option linter.unusedSimpArgs false
set_option maxRecDepth 100000
namespace Go.Proofs.Ytfofolmagnaimaa.Mo
open Go Go.Proofs.Ytfofolmagnaimaa.Sy
theorem dtouch_ev (B : List File) (hB : B.length ≤ 1048576) (t : Tomb) : Ev (fun k => drop_touched k B t) (touchB B t) := by
  refine ⟨B.length + 1, fun k hk => ?_⟩
  obtain ⟨r, h1, h2⟩ := indexf_l0 B (fun f => sLt f.Least t.End && !(sLt f.Limit t.Begin || sEq f.Limit t.Begin)) (by rw [maxLen_val]; omega) B [] k rfl (by omega)
  have h1' : slices_IndexFunc_File.l0 B (fun x => drop_touched_1 x t) k 0 = some r := h1
  unfold drop_touched slices_ContainsFunc_File slices_IndexFunc_File
  show ((slices_IndexFunc_File.l0 B (fun x0 => drop_touched_1 x0 t) k 0).bind fun r1 => some (decide (0 ≤ r1))).bind _ = _
  rw [h1']
  simp only [Option.bind_some, Option.some.injEq]
  unfold touchB
  by_cases h : 0 ≤ r
  · rw [h2.1 h]; exact decide_eq_true h
  · have : (B.any fun f => sLt f.Least t.End && !(sLt f.Limit t.Begin || sEq f.Limit t.Begin)) = false := by
      cases hb : B.any fun f => sLt f.Least t.End && !(sLt f.Limit t.Begin || sEq f.Limit t.Begin) with
      | false => rfl
      | true => exact absurd (h2.2 hb) h
    rw [this]
    exact decide_eq_false h
theorem db_ev (B : List File) (hB : B.length ≤ 1048576) (key : ByteArray) : Ev (fun k => drop_Bears k B key) (bearsAny B key) :=
  ⟨B.length + 1, fun k hk => drop_bears B key (by rw [maxLen_val]; omega) k (by omega)⟩
section
variable (l : List Entry) (hl : l.length ≤ 1048576) (t : List Tomb) (ht : t.length ≤ 1048576) (a2 : drop_Rule) (hS : a2.Snaps.length ≤ 1048576) (hB : a2.Below.length ≤ 1048576)
include hl ht hS hB
theorem d_l1 (V : List Tomb) (hV : V.length ≤ 1048576) (R : List Entry × List Tomb) : ∀ (s p acc : List Tomb) (J : Nat → List Tomb → Option (List Entry × List Tomb)), V = p ++ s → acc.length ≤ p.length → Ev (fun k => J k (acc ++ s.filter (deadB a2.Snaps a2.Below))) R → Ev (fun k => drop_Entries.l1 a2 (uqI a2.Snaps) V (J k) k acc p.length) R
  | [], p, acc, J, hp, ha, hJ => by
    have e1 : decide ((p.length : Int) < (V.length : Int)) = false := by rw [hp]; exact lt_end p
    refine Ev.succ ?_
    simp only [drop_Entries.l1, e1, Bool.false_eq_true, if_false]
    simpa using hJ.shift
  | x :: s, p, acc, J, hp, ha, hJ => by
    have e1 : decide ((p.length : Int) < (V.length : Int)) = true := by rw [hp]; exact lt_at p s x
    have e2 : idx V (p.length : Int) = some x := by rw [hp]; exact idx_at p x s
    have hpl : p.length + 1 ≤ V.length := by rw [hp]; simp
    have hw := step_at p s x (by rw [← hp, maxLen_val]; omega)
    have yes : deadB a2.Snaps a2.Below x = true → Ev (fun k => (push 5629499534059 acc x).bind fun l3482 => drop_Entries.l1 a2 (uqI a2.Snaps) V (J (k + 1)) k l3482 (w64 ((p.length : Int) + 1))) R := fun h => by
      simp only [push_ok (show acc.length < 5629499534059 by omega), Option.bind_some, hw]
      refine d_l1 V hV R s (p ++ [x]) (acc ++ [x]) (fun k => J (k + 1)) (by simp [hp]) (by simp; omega) ?_
      have := hJ.shift
      simpa [h] using this
    have no : deadB a2.Snaps a2.Below x = false → Ev (fun k => drop_Entries.l1 a2 (uqI a2.Snaps) V (J (k + 1)) k acc (w64 ((p.length : Int) + 1))) R := fun h => by
      rw [hw]
      refine d_l1 V hV R s (p ++ [x]) acc (fun k => J (k + 1)) (by simp [hp]) (by simp; omega) ?_
      have := hJ.shift
      simpa [h] using this
    refine Ev.succ ?_
    simp only [drop_Entries.l1, e1, e2, if_true, Option.bind_some, Jn]
    refine Ev.bind (stripe_ev a2.Snaps (by omega) x.Seq) ?_
    have hle := strN_le a2.Snaps x.Seq
    by_cases h0 : strN a2.Snaps x.Seq = 0 ∧ 0 < (uqI a2.Snaps).length
    · have c : (((strN a2.Snaps x.Seq : Int) == 0) && decide (0 < ((uqI a2.Snaps).length : Int))) = true := by
        rw [h0.1]; simp; omega
      simp only [c, if_true]
      refine Ev.bind (dtouch_ev a2.Below hB x) ?_
      have hne : ¬ strN a2.Snaps x.Seq = (uqI a2.Snaps).length := by omega
      cases h3 : touchB a2.Below x with
      | true => simp only [Bool.not_true, Bool.false_eq_true, if_false]; exact yes (by unfold deadB; rw [h3]; simp)
      | false => simp only [Bool.not_false, if_true]; exact no (by unfold deadB; rw [h3, decide_eq_false hne]; simp [h0.1])
    · have c : (((strN a2.Snaps x.Seq : Int) == 0) && decide (0 < ((uqI a2.Snaps).length : Int))) = false := by
        rw [Bool.eq_false_iff]
        intro h
        rw [Bool.and_eq_true, beq_iff_eq, decide_eq_true_eq] at h
        exact h0 ⟨by omega, by omega⟩
      simp only [c, Bool.false_eq_true, if_false]
      refine yes ?_
      unfold deadB
      by_cases h1 : strN a2.Snaps x.Seq = 0
      · have : strN a2.Snaps x.Seq = (uqI a2.Snaps).length := by
          have : ¬ 0 < (uqI a2.Snaps).length := fun h => h0 ⟨h1, h⟩
          omega
        rw [decide_eq_true this]; rfl
      · rw [decide_eq_true h1, Bool.or_true]; rfl
theorem d_l2 (V : List Tomb) (hV : V.length ≤ 1048576) (hok : ∀ t ∈ V, okTm t = true) (m : List Entry) (hm : m.length ≤ 1048576) (hs : Srt ltE m) (hq : ∀ e ∈ m, 0 ≤ e.Seq) (R : List Entry × List Tomb) : ∀ (s p acc : List Entry) (J : Nat → List Entry → Option (List Entry × List Tomb)), m = p ++ s → acc.length ≤ p.length → Ev (fun k => J k (acc ++ keepG a2.Snaps a2.Below V p s)) R → Ev (fun k => drop_Entries.l2 a2 (uqI a2.Snaps) (bucket a2.Snaps V) m (J k) k acc p.length) R
  | [], p, acc, J, hp, ha, hJ => by
    have e1 : decide ((p.length : Int) < (m.length : Int)) = false := by rw [hp]; exact lt_end p
    refine Ev.succ ?_
    simp only [drop_Entries.l2, e1, Bool.false_eq_true, if_false]
    simpa [keepG] using hJ.shift
  | e :: s, p, acc, J, hp, ha, hJ => by
    have e1 : decide ((p.length : Int) < (m.length : Int)) = true := by rw [hp]; exact lt_at p s e
    have e2 : idx m (p.length : Int) = some e := by rw [hp]; exact idx_at p e s
    have hpl : p.length + 1 ≤ m.length := by rw [hp]; simp
    have hw := step_at p s e (by rw [← hp, maxLen_val]; omega)
    have he : 0 ≤ e.Seq := hq e (by rw [hp]; simp)
    have yes : keepB a2.Snaps a2.Below V p e = true → Ev (fun k => (push 4691249611691 acc e).bind fun l4049 => drop_Entries.l2 a2 (uqI a2.Snaps) (bucket a2.Snaps V) m (J (k + 1)) k l4049 (w64 ((p.length : Int) + 1))) R := fun h => by
      simp only [push_ok (show acc.length < 4691249611691 by omega), Option.bind_some, hw]
      refine d_l2 V hV hok m hm hs hq R s (p ++ [e]) (acc ++ [e]) (fun k => J (k + 1)) (by simp [hp]) (by simp; omega) ?_
      have := hJ.shift
      simpa [keepG, h] using this
    have no : keepB a2.Snaps a2.Below V p e = false → Ev (fun k => drop_Entries.l2 a2 (uqI a2.Snaps) (bucket a2.Snaps V) m (J (k + 1)) k acc (w64 ((p.length : Int) + 1))) R := fun h => by
      rw [hw]
      refine d_l2 V hV hok m hm hs hq R s (p ++ [e]) acc (fun k => J (k + 1)) (by simp [hp]) (by simp; omega) ?_
      have := hJ.shift
      simpa [keepG, h] using this
    refine Ev.succ ?_
    simp only [drop_Entries.l2, e1, e2, if_true, Option.bind_some, Jn]
    refine Ev.bind (stripe_ev a2.Snaps (by omega) e.Seq) ?_
    by_cases h1 : strN a2.Snaps e.Seq = (uqI a2.Snaps).length
    · have c : ((strN a2.Snaps e.Seq : Int) == ((uqI a2.Snaps).length : Int)) = true := by rw [nat_beq]; exact decide_eq_true h1
      simp only [c, if_true]
      exact yes (by simp [keepB, h1])
    · have c : ((strN a2.Snaps e.Seq : Int) == ((uqI a2.Snaps).length : Int)) = false := by rw [nat_beq]; exact decide_eq_false h1
      simp only [c, Bool.false_eq_true, if_false]
      have h0 : (((strN a2.Snaps e.Seq : Nat) : Int) == 0) = decide (strN a2.Snaps e.Seq = 0) := nat_beq _ 0
      have kb : keepB a2.Snaps a2.Below V p e = !outB a2.Snaps a2.Below V p e := by simp [keepB, h1]
      -- behind the question of the one ahead
      have rest : p.any (sameB a2.Snaps e) = false → Ev (fun k => if (((strN a2.Snaps e.Seq : Int) == 0) && (e.Kind == 0)) = true then ((drop_Bears k a2.Below e.Key).bind fun r4081 => if (!r4081) = true then (drop_Entries.l2 a2 (uqI a2.Snaps) (bucket a2.Snaps V) m (J (k + 1)) k acc (w64 ((p.length : Int) + 1))) else ((idx (bucket a2.Snaps V) (strN a2.Snaps e.Seq : Int)).bind fun x4071 => (tomb_Cover k x4071 e.Key 72057594037927935).bind fun r4076 => if (r4076.2 && (decide (e.Seq < r4076.1))) = true then (drop_Entries.l2 a2 (uqI a2.Snaps) (bucket a2.Snaps V) m (J (k + 1)) k acc (w64 ((p.length : Int) + 1))) else ((push 4691249611691 acc e).bind fun l4049 => drop_Entries.l2 a2 (uqI a2.Snaps) (bucket a2.Snaps V) m (J (k + 1)) k l4049 (w64 ((p.length : Int) + 1))))) else (if false = true then (drop_Entries.l2 a2 (uqI a2.Snaps) (bucket a2.Snaps V) m (J (k + 1)) k acc (w64 ((p.length : Int) + 1))) else ((idx (bucket a2.Snaps V) (strN a2.Snaps e.Seq : Int)).bind fun x4071 => (tomb_Cover k x4071 e.Key 72057594037927935).bind fun r4076 => if (r4076.2 && (decide (e.Seq < r4076.1))) = true then (drop_Entries.l2 a2 (uqI a2.Snaps) (bucket a2.Snaps V) m (J (k + 1)) k acc (w64 ((p.length : Int) + 1))) else ((push 4691249611691 acc e).bind fun l4049 => drop_Entries.l2 a2 (uqI a2.Snaps) (bucket a2.Snaps V) m (J (k + 1)) k l4049 (w64 ((p.length : Int) + 1)))))) R := by
        intro hany
        obtain ⟨r, r1, r2⟩ := cover_ev a2.Snaps V hok hV e he
        have cov : ((e.Kind == 0) && decide (strN a2.Snaps e.Seq = 0) && !bearsAny a2.Below e.Key) = false → Ev (fun k => (idx (bucket a2.Snaps V) (strN a2.Snaps e.Seq : Int)).bind fun x4071 => (tomb_Cover k x4071 e.Key 72057594037927935).bind fun r4076 => if (r4076.2 && (decide (e.Seq < r4076.1))) = true then (drop_Entries.l2 a2 (uqI a2.Snaps) (bucket a2.Snaps V) m (J (k + 1)) k acc (w64 ((p.length : Int) + 1))) else ((push 4691249611691 acc e).bind fun l4049 => drop_Entries.l2 a2 (uqI a2.Snaps) (bucket a2.Snaps V) m (J (k + 1)) k l4049 (w64 ((p.length : Int) + 1)))) R := by
          intro hd
          refine Ev.bind0 (bucket_idx a2.Snaps V e.Seq) ?_
          refine Ev.bind r1 ?_
          rw [r2]
          cases h : V.any (hitB a2.Snaps e) with
          | true => simp only [if_true]; exact no (by rw [kb]; unfold outB; rw [h, Bool.or_true]; rfl)
          | false => simp only [Bool.false_eq_true, if_false]; exact yes (by rw [kb]; unfold outB; rw [hd, hany, h]; rfl)
        rw [h0]
        by_cases hk : (decide (strN a2.Snaps e.Seq = 0) && (e.Kind == 0)) = true
        · simp only [hk, if_true]
          refine Ev.bind (db_ev a2.Below hB e.Key) ?_
          rw [Bool.and_comm] at hk
          cases h : bearsAny a2.Below e.Key with
          | true => simp only [Bool.not_true, Bool.false_eq_true, if_false]; exact cov (by rw [h]; simp)
          | false => simp only [Bool.not_false, if_true]; exact no (by rw [kb]; unfold outB; rw [hk, h]; rfl)
        · simp only [hk, if_false, Bool.false_eq_true]
          rw [Bool.and_comm] at hk
          exact cov (by rw [Bool.eq_false_iff.2 hk]; rfl)
      rcases nil_or_snoc p with hpn | ⟨q, x, hpx⟩
      · have z : decide ((0 : Int) < ((p.length : Nat) : Int)) = false := by rw [hpn]; decide
        simp only [z, Bool.false_eq_true, if_false]
        exact rest (by rw [hpn]; rfl)
      · have z : decide ((0 : Int) < ((p.length : Nat) : Int)) = true := by rw [hpx]; exact pos_snoc q x
        have hbk : w64 ((p.length : Int) - 1) = (q.length : Int) := by rw [hpx]; exact back_at q s x e (by rw [← hpx, ← hp, maxLen_val]; omega)
        have e3 : idx m (q.length : Int) = some x := by rw [hp, hpx, List.append_assoc]; exact idx_at q x _
        have hah : p.any (sameB a2.Snaps e) = sameB a2.Snaps e x := by
          rw [hpx]
          refine ahead a2.Snaps ?_
          rw [hp, hpx] at hs
          have : Srt ltE ((q ++ [x] ++ [e]) ++ s) := by simpa using hs
          exact (Srt.app.1 this).1
        simp only [z, if_true, hbk, e3, Option.bind_some]
        by_cases hkey : sEq x.Key e.Key = true
        · simp only [hkey, if_true]
          refine Ev.bind (stripe_ev a2.Snaps (by omega) x.Seq) ?_
          rw [nat_beq]
          by_cases hst : strN a2.Snaps x.Seq = strN a2.Snaps e.Seq
          · simp only [hst, decide_true, if_true]
            exact no (by
              rw [kb]; unfold outB
              rw [hah]; simp [sameB, hkey, hst])
          · simp only [hst, decide_false, Bool.false_eq_true, if_false]
            exact rest (by rw [hah]; simp [sameB, hst])
        · simp only [hkey, if_false, Bool.false_eq_true]
          exact rest (by rw [hah]; simp [sameB, hkey])
theorem d_l0 (m : List Entry) (hm : Ev (fun k => ikey_Sorted k l) m) (hml : m.length = l.length) (hs : Srt ltE m) (hq : ∀ e ∈ m, 0 ≤ e.Seq) : ∀ (s p : List Tomb), t = p ++ s → Ev (fun k => drop_Entries.l0 l t a2 (uqI a2.Snaps) k (bucket a2.Snaps (p.filter okTm)) (p.filter okTm) p.length) (keepG a2.Snaps a2.Below (t.filter okTm) [] m, (t.filter okTm).filter (deadB a2.Snaps a2.Below))
  | [], p, hp => by
    have e1 : decide ((p.length : Int) < (t.length : Int)) = false := by rw [hp]; exact lt_end p
    have hpt : p = t := by rw [hp]; simp
    have hV : (t.filter okTm).length ≤ 1048576 := Nat.le_trans (List.length_filter_le _ _) ht
    refine Ev.succ ?_
    simp only [drop_Entries.l0, e1, Bool.false_eq_true, if_false, Jn]
    refine Ev.bind hm ?_
    rw [hpt]
    refine d_l2 l hl t ht a2 hS hB (t.filter okTm) hV (fun x hx => (List.mem_filter.1 hx).2) m (by omega) hs hq _ m [] [] (fun k l_1239 => drop_Entries.l1 a2 (uqI a2.Snaps) (t.filter okTm) (fun l_1394 => some (l_1239, l_1394)) k [] 0) rfl (Nat.le_refl _) ?_
    refine d_l1 l hl t ht a2 hS hB (t.filter okTm) hV _ (t.filter okTm) [] [] (fun k l_1394 => some ([] ++ keepG a2.Snaps a2.Below (t.filter okTm) [] m, l_1394)) rfl (Nat.le_refl _) ?_
    simp only [List.nil_append]
    exact Ev.ret
  | x :: s, p, hp => by
    have e1 : decide ((p.length : Int) < (t.length : Int)) = true := by rw [hp]; exact lt_at p s x
    have e2 : idx t (p.length : Int) = some x := by rw [hp]; exact idx_at p x s
    have hpl : p.length + 1 ≤ t.length := by rw [hp]; simp
    have hfl : (p.filter okTm).length ≤ p.length := List.length_filter_le _ _
    have hw := step_at p s x (by rw [← hp, maxLen_val]; omega)
    have ih := d_l0 m hm hml hs hq s (p ++ [x]) (by simp [hp])
    refine Ev.succ ?_
    simp only [drop_Entries.l0, e1, e2, if_true, Option.bind_some, tvalid_eq, Jn, hw]
    by_cases h : okTm x = true
    · have hfx : (p ++ [x]).filter okTm = p.filter okTm ++ [x] := by simp [h]
      rw [hfx] at ih
      simp only [h, if_true, push_ok (show (p.filter okTm).length < 5629499534059 by omega), Option.bind_some]
      refine Ev.bind (stripe_ev a2.Snaps (by omega) x.Seq) ?_
      refine Ev.bind0 (bucket_idx a2.Snaps _ x.Seq) ?_
      have hbl : ((p.filter okTm).filter fun y => decide (strN a2.Snaps y.Seq = strN a2.Snaps x.Seq)).length ≤ (p.filter okTm).length := List.length_filter_le _ _
      refine Ev.bind0 (push_ok (by omega)) ?_
      refine Ev.bind0 (bucket_idx a2.Snaps _ x.Seq) ?_
      refine Ev.bind0 (bucket_put a2.Snaps _ x) ?_
      exact ih
    · have hfx : (p ++ [x]).filter okTm = p.filter okTm := by simp [h]
      rw [hfx] at ih
      simp only [h, if_false, Bool.false_eq_true]
      exact ih
theorem d_l3 (R : List Entry × List Tomb) : ∀ (s p : List Int) (J : Nat → List Int → Option (List Entry × List Tomb)), a2.Snaps = p ++ s → Ev (fun k => J k a2.Snaps) R → Ev (fun k => drop_Entries.l3 a2 (J k) k p.length p) R
  | [], p, J, hp, hJ => by
    have e1 : decide ((p.length : Int) < (a2.Snaps.length : Int)) = false := by rw [hp]; exact lt_end p
    refine Ev.succ ?_
    simp only [drop_Entries.l3, e1, Bool.false_eq_true, if_false]
    rw [List.append_nil] at hp
    rw [← hp]
    exact hJ.shift
  | x :: s, p, J, hp, hJ => by
    have e1 : decide ((p.length : Int) < (a2.Snaps.length : Int)) = true := by rw [hp]; exact lt_at p s x
    have e2 : idx a2.Snaps (p.length : Int) = some x := by rw [hp]; exact idx_at p x s
    have hpl : p.length + 1 ≤ a2.Snaps.length := by rw [hp]; simp
    refine Ev.succ ?_
    simp only [drop_Entries.l3, e1, e2, if_true, Option.bind_some, Jn, Bool.not_true, Bool.false_eq_true, if_false, push_ok (show p.length < 28147497670912 by omega), step_at p s x (by rw [← hp, maxLen_val]; omega)]
    exact d_l3 R s (p ++ [x]) (fun k => J (k + 1)) (by simp [hp]) hJ.shift
theorem dent_ev (m : List Entry) (hm : Ev (fun k => ikey_Sorted k l) m) (hml : m.length = l.length) (hs : Srt ltE m) (hq : ∀ e ∈ m, 0 ≤ e.Seq) :
    Ev (fun k => drop_Entries k l t a2) (keepG a2.Snaps a2.Below (t.filter okTm) [] m, (t.filter okTm).filter (deadB a2.Snaps a2.Below)) := by
  unfold drop_Entries
  simp only [Jn]
  refine d_l3 l hl t ht a2 hS hB _ a2.Snaps [] (fun k l_885 => (slices_Sort_uint64 k l_885).bind fun r1927 => (slices_Compact_uint64 k r1927).bind fun r1930 => (mkS 11728124029610 (w64 ((r1930.length : Int) + 1)) ([])).bind fun l1938 => drop_Entries.l0 l t a2 r1930 k l1938 ([]) 0) rfl ?_
  have hu := unlike_uint64 a2.Snaps (by omega)
  have hul : (uqI a2.Snaps).length ≤ a2.Snaps.length := uq_len _
  have h0 := d_l0 l hl t ht a2 hS hB m hm hml hs hq t [] rfl
  refine Ev.congr (fun k => (Option.bind_assoc _ _ _).symm) (Ev.bind (a := uqI a2.Snaps) hu ?_)
  have hw : w64 (((uqI a2.Snaps).length : Int) + 1) = (((uqI a2.Snaps).length + 1 : Nat) : Int) := by rw [w64_of (by omega) (by omega)]; omega
  rw [hw]
  have hmk : mkS 11728124029610 (((uqI a2.Snaps).length + 1 : Nat) : Int) ([] : List Tomb) = some (List.replicate ((uqI a2.Snaps).length + 1) []) := by
    unfold mkS
    rw [if_pos ⟨by omega, by omega⟩, Int.toNat_natCast]
  refine Ev.bind0 hmk ?_
  have h1 : bucket a2.Snaps (([] : List Tomb).filter okTm) = List.replicate ((uqI a2.Snaps).length + 1) [] := bucket_nil a2.Snaps
  rw [h1] at h0
  exact h0
end
end Go.Proofs.Ytfofolmagnaimaa.Mo
