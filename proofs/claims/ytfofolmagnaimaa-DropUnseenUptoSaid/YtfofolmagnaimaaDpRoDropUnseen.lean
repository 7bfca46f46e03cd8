/- Printed by row.py: the row of a law. -/
import Derived.Test.YtfofolmagnaimaaDpInDropUnseen
import Derived.Test.YtfofolmagnaimaaDpCa
import Derived.Test.YtfofolmagnaimaaDpPuDropUnseen
set_option linter.unusedVariables false
set_option maxRecDepth 100000
namespace Go.Proofs.Ytfofolmagnaimaa.Mo.dropUnseen
open Go Go.Proofs.Ytfofolmagnaimaa.Sy Go.ChangeShapes Go.WideShapes Go.RowKit
open Go.Proofs Go.Proofs.Ytfofolmagnaimaa

theorem own : ownKnob Try.prog.godebug = none := by kernel_rfl
theorem laidOut : laidOutB Try.prog = true := by kernel_rfl
theorem contract (H : Type) (enc : TypeId × Value → H) (W : World) (base : Nat) (args : Array Value) (ds gs : List (DataW H)) (before : List MemPlace)
    (hval0 : ∀ (j : Nat) t v, Try.f6.params[j]? = some t → args[j]? = some v → Value.okWide Try.prog W .any base t v)
    (hW : DataW.Whole enc Try.prog Try.f6.params.toList Rows.dropUnseenSpec.vars false W args.toList ds gs before)
    (hk : Rows.uptoSmall H (ds ++ gs) = true) :
    Calls Try.prog 6 args W fun e W' => ∃ v, e = .returned v ∧ Rows.dropUnseenSpec.post enc Try.prog Try.f6 false true false false W args v W' := by
  have hval : ∀ (j : Nat) t v, Try.f6.params[j]? = some t → args[j]? = some v → Value.okWide Try.prog W .any base t v := hval0
  have hW' := hW
  obtain ⟨p, q, hA0, hV, rfl, hfz, hnd⟩ := hW
  have hA : DataW.TrodAll enc Try.prog W 0 (fun _ => true) true Try.f6.params.toList args.toList ds p := hA0
  rw [Try.params6] at hA hval
  obtain ⟨v0, vs0, d0, ds0, p0, q0, hargs, rfl, rfl, h0, r0⟩ := trodAll_cons hA
  obtain ⟨v1, vs1, d1, ds1, p1, q1, rfl, rfl, rfl, h1, r1⟩ := trodAll_cons r0
  obtain ⟨v2, vs2, d2, ds2, p2, q2, rfl, rfl, rfl, h2, r2⟩ := trodAll_cons r1
  obtain ⟨rfl, rfl, rfl⟩ := trodAll_nil r2
  obtain rfl : args = #[v0, v1, v2] := by cases args; simp_all
  obtain ⟨rfl, rfl⟩ := trodVars_none hV
  obtain ⟨fu0, k0⟩ := h0
  obtain ⟨a0, ⟨_, _, hc0, ⟨u0_0, rfl, hr0_0⟩, ⟨u0_1, rfl, hr0_1⟩⟩, hg0, hb0, hS0⟩ := in_49.go k0
  obtain ⟨cc0, hcc0, _⟩ := okWide_struct Try.underlying49 (hval 0 49 v0 rfl rfl)
  obtain rfl := arg_agg hc0 ⟨cc0, hcc0⟩
  obtain ⟨fu1, k1⟩ := h1
  obtain ⟨a1, ⟨_, _, hc1, ⟨u1_0, rfl, hr1_0⟩, ⟨u1_1, rfl, hr1_1⟩⟩, hg1, hb1, hS1⟩ := in_25.go k1
  obtain ⟨cc1, hcc1, _⟩ := okWide_struct Try.underlying25 (hval 1 25 v1 rfl rfl)
  obtain rfl := arg_agg hc1 ⟨cc1, hcc1⟩
  obtain ⟨fu2, k2⟩ := h2
  obtain ⟨a2, ⟨_, _, hc2, ⟨u2_0, rfl, hr2_0⟩, ⟨u2_1, rfl, hr2_1⟩⟩, hg2, hb2, hS2⟩ := in_50.go k2
  obtain ⟨cc2, hcc2, _⟩ := okWide_struct Try.underlying50 (hval 2 50 v2 rfl rfl)
  obtain rfl := arg_agg hc2 ⟨cc2, hcc2⟩
  have hkk : Rows.uptoBulkAll (([d0, d1, d2] : List (DataW H)) ++ []) ≤ 1048576 := by simpa [Rows.uptoSmall] using hk
  simp only [List.append_nil, Rows.uptoBulkAll] at hkk
  simp only [Bk] at hb0 hb1 hb2
  obtain ⟨k, hf⟩ := pure a0 a1 a2 hg0 hg1 hg2 (by omega)
  refine (l21_DropUnseen.calls k W a0 _ _ W (Same.refl _ _) hr0_0 _ _ W (Same.refl _ _) hr0_1 a1 _ _ W (Same.refl _ _) hr1_0 _ _ W (Same.refl _ _) hr1_1 a2 _ _ W (Same.refl _ _) hr2_0 _ _ W (Same.refl _ _) hr2_1 true hf).mono fun e W' he => ?_
  obtain ⟨rfl, hsh⟩ := he
  exact ⟨_, rfl, law_post laidOut rfl hW' rfl Try.underlying4 (fun _ => rfl) (by kernel_rfl) hsh.below⟩
set_option maxRecDepth 100000 in
theorem lifted (os : Os) (started : os.Started) (H : Type) (enc : TypeId × Value → H) (F : Stop.Interp) :
    ReturnsInHanded {} Try.checked os 6 .any ((Rows.OpenSpec.upto Rows.dropUnseenSpec).pre6 enc Try.prog Try.f6 Rows.dropUnseenUptoRow.domain false) (((Rows.OpenSpec.upto Rows.dropUnseenSpec).at F).post enc Try.prog Try.f6 false true false false) := by
  refine returnsInHanded_of_cond (C := Try.checked) (s := Rows.OpenSpec.upto Rows.dropUnseenSpec) (k := Rows.uptoSmall) rfl own started (by kernel_rfl) Try.func6
    (OpenSpec.witness (enc := enc) (C := Try.checked) (s := Rows.OpenSpec.upto Rows.dropUnseenSpec) (k := Rows.uptoSmall) rfl false ⟨#[], #[.agg #[(.slice none 0 0), (.slice none 0 0)], .agg #[(.slice none 0 0), (.slice none 0 0)], .agg #[(.slice none 0 0), (.slice none 0 0)]], []⟩ 8 (by kernel_rfl) (by kernel_rfl) (by kernel_rfl)
      (x := ([.agg [.nil, .nil], .agg [.nil, .nil], .agg [.nil, .nil]], [], [])) (by kernel_rfl) rfl (by kernel_rfl)) ?_
  intro W base args ds gs before hval hW _ hk _
  exact contract H enc W base args ds gs before hval hW hk
theorem over : Rows.dropUnseenUptoRow.holds Try.pinned (Rows.OpenSpec.upto Rows.dropUnseenSpec) :=
  OpenClaim.holds_of_cond 6 Try.f6 rfl rfl rfl rfl rfl rfl rfl ⟨rfl, rfl, rfl, rfl, rfl⟩ rfl rfl rfl rfl rfl (by kernel_rfl) Try.func6 (by kernel_rfl)
    (of_decide_eq_true (by kernel_rfl)) (by unfold Func.isWrapper; first | (rw [if_pos (by decide +kernel)]; kernel_rfl) | (rw [if_neg (by decide +kernel)]; exact ⟨rfl, rfl⟩))
    (fun os started H enc _ F => lifted os started H enc F)
end Go.Proofs.Ytfofolmagnaimaa.Mo.dropUnseen
