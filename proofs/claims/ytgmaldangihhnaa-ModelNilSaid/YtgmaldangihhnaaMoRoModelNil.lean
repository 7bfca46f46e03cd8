/- Printed by row.py: the row of a law. -/
import Derived.Test.YtgmaldangihhnaaMoInModelNil
import Derived.Test.YtgmaldangihhnaaMoCa
import Derived.Test.YtgmaldangihhnaaMoPuModelNil
set_option linter.unusedVariables false
set_option maxRecDepth 100000
namespace Go.Proofs.Ytgmaldangihhnaa.Mo.modelNil
open Go Go.Proofs.Ytgmaldangihhnaa.Sy Go.ChangeShapes Go.WideShapes Go.RowKit
open Go.Proofs Go.Proofs.Ytgmaldangihhnaa

theorem own : ownKnob Try.prog.godebug = none := by kernel_rfl
theorem laidOut : laidOutB Try.prog = true := by kernel_rfl
theorem contract (H : Type) (enc : TypeId × Value → H) (W : World) (base : Nat) (args : Array Value) (ds gs : List (DataW H)) (before : List MemPlace)
    (hval0 : ∀ (j : Nat) t v, Try.f7.params[j]? = some t → args[j]? = some v → Value.okWide Try.prog W .any base t v)
    (hW : DataW.Whole enc Try.prog Try.f7.params.toList Rows.modelNilSpec.vars false W args.toList ds gs before)
    (hsz0 : (DataW.weightsEach Try.prog (Try.f7.params.toList ++ Rows.modelNilSpec.plain.varTypes Try.prog) (ds ++ gs)).all (· ≤ reachBytes) = true) :
    Calls Try.prog 7 args W fun e W' => ∃ v, e = .returned v ∧ Rows.modelNilSpec.post enc Try.prog Try.f7 false true false false W args v W' := by
  have hsz : (DataW.weightsEach Try.prog (Try.f7.params.toList ++ Rows.modelNilSpec.plain.varTypes Try.prog) (ds ++ gs)).all (· ≤ reachBytes) = true := hsz0
  have hval : ∀ (j : Nat) t v, Try.f7.params[j]? = some t → args[j]? = some v → Value.okWide Try.prog W .any base t v := hval0
  have hW' := hW
  obtain ⟨p, q, hA0, hV, rfl, hfz, hnd⟩ := hW
  have hA : DataW.TrodAll enc Try.prog W 0 (fun _ => true) true Try.f7.params.toList args.toList ds p := hA0
  rw [Try.params7] at hA hval hsz
  obtain ⟨v0, vs0, d0, ds0, p0, q0, hargs, rfl, rfl, h0, r0⟩ := trodAll_cons hA
  obtain ⟨v1, vs1, d1, ds1, p1, q1, rfl, rfl, rfl, h1, r1⟩ := trodAll_cons r0
  obtain ⟨v2, vs2, d2, ds2, p2, q2, rfl, rfl, rfl, h2, r2⟩ := trodAll_cons r1
  obtain ⟨rfl, rfl, rfl⟩ := trodAll_nil r2
  obtain rfl : args = #[v0, v1, v2] := by cases args; simp_all
  obtain ⟨rfl, rfl⟩ := trodVars_none hV
  obtain ⟨fu0, k0⟩ := h0
  obtain ⟨a0, hc0, hg0, hb0, hS0⟩ := in_3.go k0
  have hv0 := (hval 0 3 v0 rfl rfl)
  obtain rfl := cells_one hc0 (fun cs hcs => not_agg_int Try.underlying3 (hcs ▸ hv0))
  obtain ⟨fu1, k1⟩ := h1
  obtain ⟨a1, hc1, hg1, hb1, hS1⟩ := in_9.go k1
  have hv1 := (hval 1 9 v1 rfl rfl)
  obtain rfl := cells_one hc1 (fun cs hcs => not_agg_string Try.underlying9 (hcs ▸ hv1))
  obtain ⟨fu2, k2⟩ := h2
  obtain ⟨a2, ⟨u2_0, hc2, hr2_0⟩, hg2, hb2, hS2⟩ := in_23.go k2
  obtain ⟨ad2, len2, cap2, rfl⟩ := okWide_slice Try.underlying23 (hval 2 23 v2 rfl rfl)
  obtain rfl : (.slice ad2 len2 cap2 : Value) = u2_0 := cells_one hc2 (fun _ h => by cases h)
  obtain ⟨k, hf⟩ := pure a0 a1 a2 hg0 hg1 (hS1 (weights_at hsz (j := 1) (t := 9) rfl rfl)) hg2 (hS2 (weights_at hsz (j := 2) (t := 23) rfl rfl))
  refine (l26_ModelNil.calls k W a0 a1 _ _ W (Same.refl _ _) a2 hr2_0 true hf).mono fun e W' he => ?_
  obtain ⟨rfl, hsh⟩ := he
  exact ⟨_, rfl, law_post laidOut rfl hW' rfl Try.underlying4 (fun _ => rfl) (by kernel_rfl) hsh.below⟩
set_option maxRecDepth 100000 in
theorem lifted (os : Os) (started : os.Started) (H : Type) (enc : TypeId × Value → H) :
    ReturnsInHanded {} Try.checked os 7 .any (Rows.modelNilSpec.pre6 enc Try.prog Try.f7 Rows.modelNilRow.domain false) (Rows.modelNilSpec.post enc Try.prog Try.f7 false true false false) := by
  refine returnsInHanded_of_change_sized (C := Try.checked) own started (by kernel_rfl) Try.func7
    (ChangeSpec.witness6 (enc := enc) (C := Try.checked) false ⟨#[], #[.int .i64 0, .string (ByteArray.mk #[]), .slice none 0 0], []⟩ 8 (by kernel_rfl) (by kernel_rfl) (by kernel_rfl) (by kernel_rfl)) ?_
  intro W base args ds gs before hval hW _ hsz _
  exact contract H enc W base args ds gs before hval hW hsz
theorem over : Rows.modelNilRow.holds Try.pinned (OpenSpec.ofChange Rows.modelNilSpec) :=
  OpenClaim.holds_of_wide 7 Try.f7 rfl rfl rfl rfl rfl rfl rfl ⟨rfl, rfl, rfl, rfl, rfl⟩ rfl rfl rfl rfl rfl (by kernel_rfl) Try.func7 (by kernel_rfl)
    (of_decide_eq_true (by kernel_rfl)) (by unfold Func.isWrapper; first | (rw [if_pos (by decide +kernel)]; kernel_rfl) | (rw [if_neg (by decide +kernel)]; exact ⟨rfl, rfl⟩))
    (fun os started H enc _ => lifted os started H enc)
end Go.Proofs.Ytgmaldangihhnaa.Mo.modelNil
