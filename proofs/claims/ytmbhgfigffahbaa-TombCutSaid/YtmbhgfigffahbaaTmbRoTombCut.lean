/- Printed by row.py: the row of a law. -/
import Derived.Test.YtmbhgfigffahbaaTmbInTombCut
import Derived.Test.YtmbhgfigffahbaaTmbCa
import Derived.Test.YtmbhgfigffahbaaTmbPuTombCut
set_option linter.unusedVariables false
set_option maxRecDepth 100000
namespace Go.Proofs.Ytmbhgfigffahbaa.Mo.tombCut
open Go Go.Proofs.Ytmbhgfigffahbaa.Sy Go.ChangeShapes Go.WideShapes Go.RowKit
open Go.Proofs Go.Proofs.Ytmbhgfigffahbaa

theorem own : ownKnob Try.prog.godebug = none := by kernel_rfl
theorem laidOut : laidOutB Try.prog = true := by kernel_rfl
theorem contract (H : Type) (enc : TypeId × Value → H) (W : World) (base : Nat) (args : Array Value) (ds gs : List (DataW H)) (before : List MemPlace)
    (hval0 : ∀ (j : Nat) t v, Try.f3.params[j]? = some t → args[j]? = some v → Value.okWide Try.prog W .any base t v)
    (hW : DataW.Whole enc Try.prog Try.f3.params.toList Rows.tombCutSpec.vars false W args.toList ds gs before)
    (hsz0 : (DataW.weightsEach Try.prog (Try.f3.params.toList ++ Rows.tombCutSpec.plain.varTypes Try.prog) (ds ++ gs)).all (· ≤ reachBytes) = true) :
    Calls Try.prog 3 args W fun e W' => ∃ v, e = .returned v ∧ Rows.tombCutSpec.post enc Try.prog Try.f3 false true false false W args v W' := by
  have hsz : (DataW.weightsEach Try.prog (Try.f3.params.toList ++ Rows.tombCutSpec.plain.varTypes Try.prog) (ds ++ gs)).all (· ≤ reachBytes) = true := hsz0
  have hval : ∀ (j : Nat) t v, Try.f3.params[j]? = some t → args[j]? = some v → Value.okWide Try.prog W .any base t v := hval0
  have hW' := hW
  obtain ⟨p, q, hA0, hV, rfl, hfz, hnd⟩ := hW
  have hA : DataW.TrodAll enc Try.prog W 0 (fun _ => true) true Try.f3.params.toList args.toList ds p := hA0
  rw [Try.params3] at hA hval hsz
  obtain ⟨v0, vs0, d0, ds0, p0, q0, hargs, rfl, rfl, h0, r0⟩ := trodAll_cons hA
  obtain ⟨v1, vs1, d1, ds1, p1, q1, rfl, rfl, rfl, h1, r1⟩ := trodAll_cons r0
  obtain ⟨rfl, rfl, rfl⟩ := trodAll_nil r1
  obtain rfl : args = #[v0, v1] := by cases args; simp_all
  obtain ⟨rfl, rfl⟩ := trodVars_none hV
  obtain ⟨fu0, k0⟩ := h0
  obtain ⟨u0, a0, hc0, hr0, hg0, hm0, hb0, hd0⟩ := rd_of hB Try.underlying22 in_30 (by decide) k0
  obtain ⟨ad0, len0, cap0, rfl⟩ := okWide_slice Try.underlying22 (hval 0 22 v0 rfl rfl)
  obtain rfl : (.slice ad0 len0 cap0 : Value) = u0 := cells_one hc0 (fun _ h => by cases h)
  have hz0 : a0.length * 40 ≤ 140737488351232 := by
    rcases hd0 with ⟨_, rfl⟩ | ⟨es, ss, hx, hl⟩
    · decide
    · have z := sized_slice hsz (j := 0) (t := 22) (e := 30) (elems := es) (spare := ss) rfl (by rw [← hx]; rfl) Try.underlying22
      have hbytes : Try.prog.bytesOf 30 = 40 := by kernel_rfl
      rw [hbytes] at z
      have hre : reachBytes = 140737488351232 := by decide
      rw [hre] at z
      omega
  obtain ⟨fu1, k1⟩ := h1
  obtain ⟨a1, hc1, hg1, hb1⟩ := in_25.go k1
  obtain ⟨cc1, hcc1, _⟩ := okWide_struct Try.underlying25 (hval 1 25 v1 rfl rfl)
  obtain rfl := arg_agg hc1 ⟨cc1, hcc1⟩
  obtain ⟨k, hf⟩ := pure a0 a1 ⟨hg0, hm0⟩ hz0 hg1
  refine (l09_TombCut.calls k W _ _ W (Same.refl _ _) a0 hr0 a1 true hf).mono fun e W' he => ?_
  obtain ⟨rfl, hsh⟩ := he
  exact ⟨_, rfl, law_post laidOut rfl hW' rfl Try.underlying4 (fun _ => rfl) (by kernel_rfl) hsh.below⟩
set_option maxRecDepth 100000 in
theorem lifted (os : Os) (started : os.Started) (H : Type) (enc : TypeId × Value → H) :
    ReturnsInHanded {} Try.checked os 3 .any (Rows.tombCutSpec.pre6 enc Try.prog Try.f3 Rows.tombCutRow.domain false) (Rows.tombCutSpec.post enc Try.prog Try.f3 false true false false) := by
  refine returnsInHanded_of_change_sized (C := Try.checked) own started (by kernel_rfl) Try.func3
    (ChangeSpec.witness6 (enc := enc) (C := Try.checked) false ⟨#[], #[.slice none 0 0, .agg #[.string (ByteArray.mk #[]), .int .u64 0, .string (ByteArray.mk #[]), .string (ByteArray.mk #[]), .int .i64 0]], []⟩ 8 (by kernel_rfl) (by kernel_rfl) (by kernel_rfl) (by kernel_rfl)) ?_
  intro W base args ds gs before hval hW _ hsz _
  exact contract H enc W base args ds gs before hval hW hsz
theorem over : Rows.tombCutRow.holds Try.pinned (OpenSpec.ofChange Rows.tombCutSpec) :=
  OpenClaim.holds_of_wide 3 Try.f3 rfl rfl rfl rfl rfl rfl rfl ⟨rfl, rfl, rfl, rfl, rfl⟩ rfl rfl rfl rfl rfl (by kernel_rfl) Try.func3 (by kernel_rfl)
    (of_decide_eq_true (by kernel_rfl)) (by unfold Func.isWrapper; first | (rw [if_pos (by decide +kernel)]; kernel_rfl) | (rw [if_neg (by decide +kernel)]; exact ⟨rfl, rfl⟩))
    (fun os started H enc _ => lifted os started H enc)
end Go.Proofs.Ytmbhgfigffahbaa.Mo.tombCut
