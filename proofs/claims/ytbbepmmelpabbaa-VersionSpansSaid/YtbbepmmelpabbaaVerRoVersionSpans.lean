/- Printed by row.py: the row of a law. -/
import Derived.Test.YtbbepmmelpabbaaVerInVersionSpans
import Derived.Test.YtbbepmmelpabbaaVerCa
import Derived.Test.YtbbepmmelpabbaaVerPuVersionSpans
set_option linter.unusedVariables false
set_option maxRecDepth 100000
namespace Go.Proofs.Ytbbepmmelpabbaa.Mo.versionSpans
open Go Go.Proofs.Ytbbepmmelpabbaa.Sy Go.ChangeShapes Go.WideShapes Go.RowKit
open Go.Proofs Go.Proofs.Ytbbepmmelpabbaa

theorem own : ownKnob Try.prog.godebug = none := by kernel_rfl
theorem laidOut : laidOutB Try.prog = true := by kernel_rfl
theorem contract (H : Type) (enc : TypeId × Value → H) (W : World) (base : Nat) (args : Array Value) (ds gs : List (DataW H)) (before : List MemPlace)
    (hval0 : ∀ (j : Nat) t v, Try.f8.params[j]? = some t → args[j]? = some v → Value.okWide Try.prog W .any base t v)
    (hW : DataW.Whole enc Try.prog Try.f8.params.toList Rows.versionSpansSpec.vars false W args.toList ds gs before)
    (hsz0 : (DataW.weightsEach Try.prog (Try.f8.params.toList ++ Rows.versionSpansSpec.plain.varTypes Try.prog) (ds ++ gs)).all (· ≤ reachBytes) = true) :
    Calls Try.prog 8 args W fun e W' => ∃ v, e = .returned v ∧ Rows.versionSpansSpec.post enc Try.prog Try.f8 false true false false W args v W' := by
  have hsz : (DataW.weightsEach Try.prog (Try.f8.params.toList ++ Rows.versionSpansSpec.plain.varTypes Try.prog) (ds ++ gs)).all (· ≤ reachBytes) = true := hsz0
  have hval : ∀ (j : Nat) t v, Try.f8.params[j]? = some t → args[j]? = some v → Value.okWide Try.prog W .any base t v := hval0
  have hW' := hW
  obtain ⟨p, q, hA0, hV, rfl, hfz, hnd⟩ := hW
  have hA : DataW.TrodAll enc Try.prog W 0 (fun _ => true) true Try.f8.params.toList args.toList ds p := hA0
  rw [Try.params8] at hA hval hsz
  obtain ⟨v0, vs0, d0, ds0, p0, q0, hargs, rfl, rfl, h0, r0⟩ := trodAll_cons hA
  obtain ⟨v1, vs1, d1, ds1, p1, q1, rfl, rfl, rfl, h1, r1⟩ := trodAll_cons r0
  obtain ⟨v2, vs2, d2, ds2, p2, q2, rfl, rfl, rfl, h2, r2⟩ := trodAll_cons r1
  obtain ⟨rfl, rfl, rfl⟩ := trodAll_nil r2
  obtain rfl : args = #[v0, v1, v2] := by cases args; simp_all
  obtain ⟨rfl, rfl⟩ := trodVars_none hV
  obtain ⟨fu0, k0⟩ := h0
  obtain ⟨a0, ⟨u0_0, hc0, hr0_0⟩, hg0, hb0, hS0⟩ := in_39.go k0
  obtain ⟨ad0, len0, cap0, rfl⟩ := okWide_slice Try.underlying39 (hval 0 39 v0 rfl rfl)
  obtain rfl : (.slice ad0 len0 cap0 : Value) = u0_0 := cells_one hc0 (fun _ h => by cases h)
  obtain ⟨fu1, k1⟩ := h1
  obtain ⟨a1, ⟨u1_0, hc1, hr1_0⟩, hg1, hb1, hS1⟩ := in_23.go k1
  obtain ⟨ad1, len1, cap1, rfl⟩ := okWide_slice Try.underlying23 (hval 1 23 v1 rfl rfl)
  obtain rfl : (.slice ad1 len1 cap1 : Value) = u1_0 := cells_one hc1 (fun _ h => by cases h)
  obtain ⟨fu2, k2⟩ := h2
  obtain ⟨a2, ⟨u2_0, hc2, hr2_0⟩, hg2, hb2, hS2⟩ := in_23.go k2
  obtain ⟨ad2, len2, cap2, rfl⟩ := okWide_slice Try.underlying23 (hval 2 23 v2 rfl rfl)
  obtain rfl : (.slice ad2 len2 cap2 : Value) = u2_0 := cells_one hc2 (fun _ h => by cases h)
  obtain ⟨k, hf⟩ := pure a0 a1 a2 hg0 (hS0 (weights_at hsz (j := 0) (t := 39) rfl rfl)) hg1 (hS1 (weights_at hsz (j := 1) (t := 23) rfl rfl)) hg2 (hS2 (weights_at hsz (j := 2) (t := 23) rfl rfl))
  refine (l16_VersionSpans.calls k W _ _ W (Same.refl _ _) a0 hr0_0 _ _ W (Same.refl _ _) a1 hr1_0 _ _ W (Same.refl _ _) a2 hr2_0 true hf).mono fun e W' he => ?_
  obtain ⟨rfl, hsh⟩ := he
  exact ⟨_, rfl, law_post laidOut rfl hW' rfl Try.underlying4 (fun _ => rfl) (by kernel_rfl) hsh.below⟩
set_option maxRecDepth 100000 in
theorem lifted (os : Os) (started : os.Started) (H : Type) (enc : TypeId × Value → H) :
    ReturnsInHanded {} Try.checked os 8 .any (Rows.versionSpansSpec.pre6 enc Try.prog Try.f8 Rows.versionSpansRow.domain false) (Rows.versionSpansSpec.post enc Try.prog Try.f8 false true false false) := by
  refine returnsInHanded_of_change_sized (C := Try.checked) own started (by kernel_rfl) Try.func8
    (ChangeSpec.witness6 (enc := enc) (C := Try.checked) false ⟨#[], #[.slice none 0 0, .slice none 0 0, .slice none 0 0], []⟩ 8 (by kernel_rfl) (by kernel_rfl) (by kernel_rfl) (by kernel_rfl)) ?_
  intro W base args ds gs before hval hW _ hsz _
  exact contract H enc W base args ds gs before hval hW hsz
theorem over : Rows.versionSpansRow.holds Try.pinned (OpenSpec.ofChange Rows.versionSpansSpec) :=
  OpenClaim.holds_of_wide 8 Try.f8 rfl rfl rfl rfl rfl rfl rfl ⟨rfl, rfl, rfl, rfl, rfl⟩ rfl rfl rfl rfl rfl (by kernel_rfl) Try.func8 (by kernel_rfl)
    (of_decide_eq_true (by kernel_rfl)) (by unfold Func.isWrapper; first | (rw [if_pos (by decide +kernel)]; kernel_rfl) | (rw [if_neg (by decide +kernel)]; exact ⟨rfl, rfl⟩))
    (fun os started H enc _ => lifted os started H enc)
end Go.Proofs.Ytbbepmmelpabbaa.Mo.versionSpans
