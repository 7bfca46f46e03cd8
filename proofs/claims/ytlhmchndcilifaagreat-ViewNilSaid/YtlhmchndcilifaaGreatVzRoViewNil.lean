/- Printed by row.py: the row of a law. -/
import Derived.Test.YtlhmchndcilifaaGreatVzInViewNil
import Derived.Test.YtlhmchndcilifaaGreatVzCa
import Derived.Test.YtlhmchndcilifaaGreatVzPuViewNil
set_option linter.unusedVariables false
set_option maxRecDepth 100000
namespace Go.Proofs.YtlhmchndcilifaaGreat.Mo.viewNil
open Go Go.Proofs.YtlhmchndcilifaaGreat.Sy Go.ChangeShapes Go.WideShapes Go.RowKit
open Go.Proofs Go.Proofs.YtlhmchndcilifaaGreat

theorem own : ownKnob Tryz.prog.godebug = none := by kernel_rfl
theorem laidOut : laidOutB Tryz.prog = true := by kernel_rfl
theorem contract (H : Type) (enc : TypeId × Value → H) (W : World) (base : Nat) (args : Array Value) (ds gs : List (DataW H)) (before : List MemPlace)
    (hval0 : ∀ (j : Nat) t v, Tryz.f5.params[j]? = some t → args[j]? = some v → Value.okWide Tryz.prog W .any base t v)
    (hW : DataW.Whole enc Tryz.prog Tryz.f5.params.toList Rows.viewNilSpec.vars false W args.toList ds gs before)
    (hsz0 : (DataW.weightsEach Tryz.prog (Tryz.f5.params.toList ++ Rows.viewNilSpec.plain.varTypes Tryz.prog) (ds ++ gs)).all (· ≤ reachBytes) = true) :
    Calls Tryz.prog 5 args W fun e W' => ∃ v, e = .returned v ∧ Rows.viewNilSpec.post enc Tryz.prog Tryz.f5 false true false false W args v W' := by
  have hsz : (DataW.weightsEach Tryz.prog (Tryz.f5.params.toList ++ Rows.viewNilSpec.plain.varTypes Tryz.prog) (ds ++ gs)).all (· ≤ reachBytes) = true := hsz0
  have hval : ∀ (j : Nat) t v, Tryz.f5.params[j]? = some t → args[j]? = some v → Value.okWide Tryz.prog W .any base t v := hval0
  have hW' := hW
  obtain ⟨p, q, hA0, hV, rfl, hfz, hnd⟩ := hW
  have hA : DataW.TrodAll enc Tryz.prog W 0 (fun _ => true) true Tryz.f5.params.toList args.toList ds p := hA0
  rw [Tryz.params5] at hA hval hsz
  obtain ⟨v0, vs0, d0, ds0, p0, q0, hargs, rfl, rfl, h0, r0⟩ := trodAll_cons hA
  obtain ⟨v1, vs1, d1, ds1, p1, q1, rfl, rfl, rfl, h1, r1⟩ := trodAll_cons r0
  obtain ⟨v2, vs2, d2, ds2, p2, q2, rfl, rfl, rfl, h2, r2⟩ := trodAll_cons r1
  obtain ⟨rfl, rfl, rfl⟩ := trodAll_nil r2
  obtain rfl : args = #[v0, v1, v2] := by cases args; simp_all
  obtain ⟨rfl, rfl⟩ := trodVars_none hV
  obtain ⟨fu0, k0⟩ := h0
  obtain ⟨a0, ⟨u0_0, hc0, hr0_0⟩, hg0, hb0, hS0⟩ := in_23.go k0
  obtain ⟨ad0, len0, cap0, rfl⟩ := okWide_slice Tryz.underlying23 (hval 0 23 v0 rfl rfl)
  obtain rfl : (.slice ad0 len0 cap0 : Value) = u0_0 := cells_one hc0 (fun _ h => by cases h)
  obtain ⟨fu1, k1⟩ := h1
  obtain ⟨a1, hc1, hg1, hb1, hS1⟩ := in_24.go k1
  have hv1 := (hval 1 24 v1 rfl rfl)
  obtain rfl := cells_one hc1 (fun cs hcs => not_agg_int Tryz.underlying24 (hcs ▸ hv1))
  obtain ⟨fu2, k2⟩ := h2
  obtain ⟨a2, hc2, hg2, hb2, hS2⟩ := in_9.go k2
  have hv2 := (hval 2 9 v2 rfl rfl)
  obtain rfl := cells_one hc2 (fun cs hcs => not_agg_string Tryz.underlying9 (hcs ▸ hv2))
  obtain ⟨k, hf⟩ := pure a0 a1 a2 hg0 (hS0 (weights_at hsz (j := 0) (t := 23) rfl rfl)) hg1 hg2 (hS2 (weights_at hsz (j := 2) (t := 9) rfl rfl))
  refine (l20_ViewNil.calls k W _ _ W (Same.refl _ _) a0 hr0_0 a1 a2 true hf).mono fun e W' he => ?_
  obtain ⟨rfl, hsh⟩ := he
  exact ⟨_, rfl, law_post laidOut rfl hW' rfl Tryz.underlying4 (fun _ => rfl) (by kernel_rfl) hsh.below⟩
set_option maxRecDepth 100000 in
theorem lifted (os : Os) (started : os.Started) (H : Type) (enc : TypeId × Value → H) :
    ReturnsInHanded {} Tryz.checked os 5 .any (Rows.viewNilSpec.pre6 enc Tryz.prog Tryz.f5 Rows.viewNilRow.domain false) (Rows.viewNilSpec.post enc Tryz.prog Tryz.f5 false true false false) := by
  refine returnsInHanded_of_change_sized (C := Tryz.checked) own started (by kernel_rfl) Tryz.func5
    (ChangeSpec.witness6 (enc := enc) (C := Tryz.checked) false ⟨#[], #[.slice none 0 0, .int .u64 0, .string (ByteArray.mk #[])], []⟩ 8 (by kernel_rfl) (by kernel_rfl) (by kernel_rfl) (by kernel_rfl)) ?_
  intro W base args ds gs before hval hW _ hsz _
  exact contract H enc W base args ds gs before hval hW hsz
theorem over : Rows.viewNilRow.holds Tryz.pinned (OpenSpec.ofChange Rows.viewNilSpec) :=
  OpenClaim.holds_of_wide 5 Tryz.f5 rfl rfl rfl rfl rfl rfl rfl ⟨rfl, rfl, rfl, rfl, rfl⟩ rfl rfl rfl rfl rfl (by kernel_rfl) Tryz.func5 (by kernel_rfl)
    (of_decide_eq_true (by kernel_rfl)) (by unfold Func.isWrapper; first | (rw [if_pos (by decide +kernel)]; kernel_rfl) | (rw [if_neg (by decide +kernel)]; exact ⟨rfl, rfl⟩))
    (fun os started H enc _ => lifted os started H enc)
end Go.Proofs.YtlhmchndcilifaaGreat.Mo.viewNil
