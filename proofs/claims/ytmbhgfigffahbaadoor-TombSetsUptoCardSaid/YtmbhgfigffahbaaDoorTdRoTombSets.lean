/- Printed by row.py: the row of a law. -/
import Derived.Deep.DeepHandedRow
import Derived.Test.YtmbhgfigffahbaaDoorTie
import Derived.Test.YtmbhgfigffahbaaDoorCards
import Derived.LaidMore
import Derived.OpenShut
import Derived.MakeChecks
import Derived.LaidHandle
import Derived.SevenTiedAt
import Derived.Test.YtmbhgfigffahbaaDoorTdInTombSets
import Derived.Test.YtmbhgfigffahbaaDoorTdCa
import Derived.Test.YtmbhgfigffahbaaDoorTdPuTombSets
set_option linter.unusedVariables false
set_option maxRecDepth 100000
namespace Go.Proofs.YtmbhgfigffahbaaDoor.Mo.tombSets
open Go Go.Proofs.YtmbhgfigffahbaaDoor.Sy Go.ChangeShapes Go.WideShapes Go.RowKit
open Go.Proofs Go.Proofs.YtmbhgfigffahbaaDoor

theorem own : ownKnob Tryd.prog.godebug = none := by kernel_rfl
theorem laidOut : laidOutB Tryd.prog = true := by kernel_rfl
noncomputable abbrev LD : List (String × DataW Unit) := [("moraine/morainelaw09.mark", Rows.laid_moraine_morainelaw09_mark)]
theorem gName : Tryd.prog.globalNamed "moraine/morainelaw09.mark" = some 0 := by kernel_rfl
theorem tName : (Tryd.prog.globals[0]?).map (·.type) = some 28 := by kernel_rfl
theorem door_met (os : Os) (args : Array Value) : laidMetH Tryd.prog LD ((World.doorLaid Tryd.prog 400 os).forCall (fun _ _ => 0) ⟨#[], args, []⟩).memory :=
  laidMetH_of_parts3 (fuel := 8) (laidMet_of_run' 8 (by kernel_rfl) (by kernel_rfl)) (by kernel_rfl) (by kernel_rfl)
theorem of_laid {W : World} (h : laidMetH Tryd.prog LD W) : ∃ ty, W.heap[0]? = some (.cells ([.string (ByteArray.mk #[109, 97, 114, 107]), .string (ByteArray.mk #[110, 97, 114, 107]), .int .u64 77] : List Value).toArray ty (0, 0)) := by
  rw [MakeChecks.laidMetH_plain _ _ _ (by kernel_rfl)] at h
  obtain ⟨ps, ⟨g, t, cs, fu, p, q, hg, ht, hv, hd, _, rfl⟩, _, hps⟩ := h
  obtain rfl := Option.some.inj (gName.symm.trans hg)
  obtain rfl := Option.some.inj (tName.symm.trans ht)
  obtain ⟨xs, n, rfl, hx, hl, hn, hf⟩ := DataW.trod_struct Tryd.underlying28 hd
  have h0 := hf 0 _ rfl
  have h1 := hf 1 _ rfl
  have h2 := hf 2 _ rfl
  have hc : Tryd.prog.cellsOf 28 = 3 := by kernel_rfl
  rw [hc] at hl
  obtain ⟨l⟩ := cs
  match l, hl, xs, hn with
  | [c0, c1, c2], _, [x0, x1, x2], _ =>
    have k0 : Tryd.prog.cellsOf 9 = 1 := by kernel_rfl
    have e0 : DataW.trod (fun _ => ()) Tryd.prog W 0 (fun _ => true) false n 9 (([c0, c1, c2].drop 0).take (Tryd.prog.cellsOf 9)) = some x0 := h0
    rw [k0] at e0
    have k1 : Tryd.prog.cellsOf 9 = 1 := by kernel_rfl
    have e1 : DataW.trod (fun _ => ()) Tryd.prog W 0 (fun _ => true) false n 9 (([c0, c1, c2].drop 1).take (Tryd.prog.cellsOf 9)) = some x1 := h1
    rw [k1] at e1
    have k2 : Tryd.prog.cellsOf 26 = 1 := by kernel_rfl
    have e2 : DataW.trod (fun _ => ()) Tryd.prog W 0 (fun _ => true) false n 26 (([c0, c1, c2].drop 2).take (Tryd.prog.cellsOf 26)) = some x2 := h2
    rw [k2] at e2
    obtain ⟨s0, r0, q0, _⟩ := DataW.trod_string Tryd.underlying9 e0
    obtain rfl : c0 = _ := by simpa using r0
    obtain ⟨s1, r1, q1, _⟩ := DataW.trod_string Tryd.underlying9 e1
    obtain rfl : c1 = _ := by simpa using r1
    obtain ⟨s2, r2, q2, _⟩ := DataW.trod_int Tryd.underlying26 e2
    obtain rfl : c2 = _ := by simpa using r2
    subst q0 q1 q2
    have hx1 := congrArg Prod.fst hx
    simp only [Rows.laid_moraine_morainelaw09_mark, List.map_cons, List.map_nil, DataW.agg.injEq, List.cons.injEq, DataW.lit.injEq, Lit.string.injEq, Lit.int.injEq, and_true, true_and] at hx1
    obtain ⟨y0, y1, y2⟩ := hx1
    have z0 : s0 = (ByteArray.mk #[109, 97, 114, 107]) := by
      apply ByteArray.ext; apply Array.ext'
      exact y0.symm
    have z1 : s1 = (ByteArray.mk #[110, 97, 114, 107]) := by
      apply ByteArray.ext; apply Array.ext'
      exact y1.symm
    subst z0 z1
    subst y2
    obtain ⟨⟨c, ty, hw⟩, _⟩ := hps 0 0 (by simp [MemPlace.row])
    refine ⟨ty, ?_⟩
    have := hv
    simp only [World.var?, gName, Option.bind_some, hw, Option.some.injEq] at this
    rw [hw, this]
theorem contract (H : Type) (enc : TypeId × Value → H) (W : World) (base : Nat) (args : Array Value) (ds gs : List (DataW H)) (before : List MemPlace)
    (hval0 : ∀ (j : Nat) t v, Tryd.f6.params[j]? = some t → args[j]? = some v → Value.okWide Tryd.prog W .any base t v)
    (hW : DataW.Whole enc Tryd.prog Tryd.f6.params.toList Rows.tombSetsSpec.vars false W args.toList ds gs before)
    (hk : Rows.uptoSmall H (ds ++ gs) = true) (hL : laidMetH Tryd.prog LD W) :
    Calls Tryd.prog 6 args W fun e W' => ∃ v, e = .returned v ∧ Rows.tombSetsSpec.post enc Tryd.prog Tryd.f6 false true false false W args v W' := by
  have hval : ∀ (j : Nat) t v, Tryd.f6.params[j]? = some t → args[j]? = some v → Value.okWide Tryd.prog W .any base t v := hval0
  have hW' := hW
  obtain ⟨p, q, hA0, hV, rfl, hfz, hnd⟩ := hW
  have hA : DataW.TrodAll enc Tryd.prog W 0 (fun _ => true) true Tryd.f6.params.toList args.toList ds p := hA0
  rw [Tryd.params6] at hA hval
  obtain ⟨v0, vs0, d0, ds0, p0, q0, hargs, rfl, rfl, h0, r0⟩ := trodAll_cons hA
  obtain ⟨v1, vs1, d1, ds1, p1, q1, rfl, rfl, rfl, h1, r1⟩ := trodAll_cons r0
  obtain ⟨v2, vs2, d2, ds2, p2, q2, rfl, rfl, rfl, h2, r2⟩ := trodAll_cons r1
  obtain ⟨rfl, rfl, rfl⟩ := trodAll_nil r2
  obtain rfl : args = #[v0, v1, v2] := by cases args; simp_all
  obtain ⟨rfl, rfl⟩ := trodVars_none hV
  obtain ⟨ty0, hgl⟩ := of_laid hL
  obtain ⟨fu0, k0⟩ := h0
  obtain ⟨a0, ⟨u0_0, hc0, hr0_0⟩, hg0, hb0, hS0⟩ := in_22.go k0
  obtain ⟨ad0, len0, cap0, rfl⟩ := okWide_slice Tryd.underlying22 (hval 0 22 v0 rfl rfl)
  obtain rfl : (.slice ad0 len0 cap0 : Value) = u0_0 := cells_one hc0 (fun _ h => by cases h)
  obtain ⟨fu1, k1⟩ := h1
  obtain ⟨a1, ⟨u1_0, hc1, hr1_0⟩, hg1, hb1, hS1⟩ := in_22.go k1
  obtain ⟨ad1, len1, cap1, rfl⟩ := okWide_slice Tryd.underlying22 (hval 1 22 v1 rfl rfl)
  obtain rfl : (.slice ad1 len1 cap1 : Value) = u1_0 := cells_one hc1 (fun _ h => by cases h)
  obtain ⟨fu2, k2⟩ := h2
  obtain ⟨a2, hc2, hg2, hb2, hS2⟩ := in_42.go k2
  obtain ⟨cc2, hcc2, _⟩ := okWide_struct Tryd.underlying42 (hval 2 42 v2 rfl rfl)
  obtain rfl := arg_agg hc2 ⟨cc2, hcc2⟩
  have hkk : Rows.uptoBulkAll (([d0, d1, d2] : List (DataW H)) ++ []) ≤ 1048576 := by simpa [Rows.uptoSmall] using hk
  simp only [List.append_nil, Rows.uptoBulkAll] at hkk
  simp only [Bk] at hb0 hb1 hb2
  obtain ⟨k, hf⟩ := pure a0 a1 a2 hg0 hg1 hg2 (by omega)
  refine (l09_TombSets.calls k W _ _ W (Same.refl _ _) a0 hr0_0 _ _ W (Same.refl _ _) a1 hr1_0 a2 (fun _ => True) W ty0 (Same.refl _ _) trivial hgl true hf).mono fun e W' he => ?_
  obtain ⟨rfl, hsh⟩ := he
  exact ⟨_, rfl, law_post laidOut rfl hW' rfl Tryd.underlying4 (fun _ => rfl) (by kernel_rfl) hsh.below⟩
theorem reads (os : Os) {H : Type} (enc : TypeId × Value → H) : ∃ places, DataW.whole enc Tryd.prog ((World.doorLaid Tryd.prog 400 os).forCall (fun _ _ => 0) ⟨#[], #[.slice none 0 0, .slice none 0 0, .agg #[.string (ByteArray.mk #[]), .int .u64 0, .string (ByteArray.mk #[]), .string (ByteArray.mk #[]), .int .i64 0]], []⟩).memory Tryd.f6.params.toList Rows.tombSetsSpec.vars false (#[.slice none 0 0, .slice none 0 0, .agg #[.string (ByteArray.mk #[]), .int .u64 0, .string (ByteArray.mk #[]), .string (ByteArray.mk #[]), .int .i64 0]] : Array Value).toList 8 = some ([.nil, .nil, .agg [.lit (.string []), .lit (.int .u64 0), .lit (.string []), .lit (.string []), .lit (.int .i64 0)]], [], places) := ⟨[], by kernel_rfl⟩
theorem laid_met (os : Os) : laidMet Tryd.prog Rows.tombSetsUptoRow.laid ((World.doorLaid Tryd.prog 400 os).forCall (fun _ _ => 0) ⟨#[], #[.slice none 0 0, .slice none 0 0, .agg #[.string (ByteArray.mk #[]), .int .u64 0, .string (ByteArray.mk #[]), .string (ByteArray.mk #[]), .int .i64 0]], []⟩).memory := laidMet_of_run' 8 (by kernel_rfl) (by kernel_rfl)
set_option maxRecDepth 100000 in
theorem lifted (os : Os) (started : os.Started) (H : Type) (enc : TypeId × Value → H) (F : Stop.Interp) :
    ReturnsInHanded {} Tryd.checked os 6 .any ((Rows.OpenSpec.upto Rows.tombSetsSpec).preRow enc Tryd.prog Tryd.f6 Rows.tombSetsUptoRow.domain false Rows.tombSetsUptoRow.laid) (((Rows.OpenSpec.upto Rows.tombSetsSpec).at F).post enc Tryd.prog Tryd.f6 false true false false) := by
  obtain ⟨places, hx⟩ := reads os enc
  refine returnsInHanded_of_row (C := Tryd.checked) (s := Rows.OpenSpec.upto Rows.tombSetsSpec) own started (by kernel_rfl) Tryd.func6
    (witness_row_at (enc := enc) (C := Tryd.checked) false (World.doorLaid Tryd.prog 400 os) #[.slice none 0 0, .slice none 0 0, .agg #[.string (ByteArray.mk #[]), .int .u64 0, .string (ByteArray.mk #[]), .string (ByteArray.mk #[]), .int .i64 0]] rfl (by kernel_rfl) (by kernel_rfl) (by kernel_rfl)
      (OpenSpec.preRow_of_cond 8 hx (by kernel_rfl) (fun k hk => by cases hk; kernel_rfl) (by kernel_rfl) (laid_met os))) ?_
  intro W base args ds gs before hval hW _ hcond _ hL _ _
  exact contract H enc W base args ds gs before hval hW (hcond _ rfl) hL
theorem row : Rows.tombSetsUptoRow.holds Tryd.pinned (Rows.OpenSpec.upto Rows.tombSetsSpec) :=
  OpenClaim.holds_of_cond 6 Tryd.f6 rfl rfl rfl rfl rfl rfl rfl ⟨rfl, rfl, rfl, rfl, rfl⟩ rfl rfl rfl rfl rfl (by kernel_rfl) Tryd.func6 (by kernel_rfl)
    (of_decide_eq_true (by kernel_rfl)) (by unfold Func.isWrapper; first | (rw [if_pos (by decide +kernel)]; kernel_rfl) | (rw [if_neg (by decide +kernel)]; exact ⟨rfl, rfl⟩))
    (fun os started H enc _ F => by rw [OpenClaim.pre_eq_preRow]; exact lifted os started H enc F)
theorem over : Rows.TombSetsUptoCardSaid := by
  refine Claim7.holds_tied_plain_at .later [] [.data] true (true, "e89d87ef212ac1e92bf98892dd99c956dc9ebe29b9391eb27f00481418368fe6") false
    row (fun _ h => by cases h) (by kernel_rfl) (fun _ h => by cases h) tombSetsUpto_row_tie rfl ⟨rfl, rfl⟩ (by kernel_rfl) rfl
    (fun f fn hf hfn => ?_) (by kernel_rfl)
  obtain rfl : f = 6 := Option.some.inj ((show Tryd.prog.funcNamed "moraine/morainelaw09.TombSets" = some 6 by kernel_rfl).symm.trans hf) |>.symm
  obtain rfl : fn = Tryd.f6 := (Option.some.inj (Tryd.func6.symm.trans hfn)).symm
  refine ⟨by kernel_rfl, fun j t ht => ?_⟩
  rw [Tryd.params6] at ht
  have hm : t ∈ [22, 22, 42] := by simpa using Array.mem_of_getElem? ht
  have hall : ([22, 22, 42].all fun u => !Tryd.prog.wantsStandIn u) = true := by kernel_rfl
  exact (show Tryd.prog.wantsStandIn t = false by simpa using List.all_eq_true.1 hall t hm)
end Go.Proofs.YtmbhgfigffahbaaDoor.Mo.tombSets
