/- Printed by gen.py: kinds of data; facts on types and functions of the translation. -/
import Derived.Test.YtmbhgfigffahbaaDoorTdTw
import Derived.Test.YtmbhgfigffahbaaDoorProg
set_option linter.unusedVariables false
set_option linter.unusedSimpArgs false
set_option maxRecDepth 100000
namespace Go.Proofs.YtmbhgfigffahbaaDoor.Mo
open Go Go.Proofs.YtmbhgfigffahbaaDoor.Sy
open Go.Proofs
def k_Tomb : Kd Tomb := Kd.flat 3 Tomb.enc (fun _ => rfl) (fun x u hu => by simp only [Tomb.enc, List.mem_cons, List.not_mem_nil, or_false] at hu; rcases hu with h | h | h <;> subst h <;> rfl)
theorem fo : Tryd.prog.follows .mixedOrders = true := by kernel_rfl
theorem ag_28 : AgOf Tryd.prog 28 3 := ⟨_, Tryd.underlying28, rfl, by kernel_rfl⟩
theorem el_28 : ElOf Tryd.prog 28 3 40 := el_of (z := .agg #[.string (ByteArray.mk #[]), .string (ByteArray.mk #[]), .int .u64 0]) (by kernel_rfl) rfl
theorem fa_28_0 : FaOf Tryd.prog 28 0 0 := fa_of (sz := 0) Tryd.underlying28 rfl rfl (by kernel_rfl)
theorem sc_9 : ScOf Tryd.prog 9 := sc_of Tryd.underlying9 rfl (by kernel_rfl)
theorem fa_28_1 : FaOf Tryd.prog 28 1 1 := fa_of (sz := 0) Tryd.underlying28 rfl rfl (by kernel_rfl)
theorem fa_28_2 : FaOf Tryd.prog 28 2 2 := fa_of (sz := 0) Tryd.underlying28 rfl rfl (by kernel_rfl)
theorem sc_26 : ScOf Tryd.prog 26 := sc_of Tryd.underlying26 rfl (by kernel_rfl)
theorem zr_28 : ZrOf Tryd.prog 28 [.string (ByteArray.mk #[]), .string (ByteArray.mk #[]), .int .u64 0] := zr_of (z := .agg #[.string (ByteArray.mk #[]), .string (ByteArray.mk #[]), .int .u64 0]) (by kernel_rfl) rfl
theorem fn_17 : FnOf Tryd.prog 17 := ⟨_, Tryd.func17, by kernel_rfl, rfl⟩
theorem fn_30 : FnOf Tryd.prog 30 := ⟨_, Tryd.func30, by kernel_rfl, rfl⟩
theorem fn_18 : FnOf Tryd.prog 18 := ⟨_, Tryd.func18, by kernel_rfl, rfl⟩
theorem fn_10 : FnOf Tryd.prog 10 := ⟨_, Tryd.func10, by kernel_rfl, rfl⟩
theorem fn_11 : FnOf Tryd.prog 11 := ⟨_, Tryd.func11, by kernel_rfl, rfl⟩
theorem fn_12 : FnOf Tryd.prog 12 := ⟨_, Tryd.func12, by kernel_rfl, rfl⟩
theorem fn_9 : FnOf Tryd.prog 9 := ⟨_, Tryd.func9, by kernel_rfl, rfl⟩
theorem fn_8 : FnOf Tryd.prog 8 := ⟨_, Tryd.func8, by kernel_rfl, rfl⟩
theorem fn_7 : FnOf Tryd.prog 7 := ⟨_, Tryd.func7, by kernel_rfl, rfl⟩
theorem fn_31 : FnOf Tryd.prog 31 := ⟨_, Tryd.func31, by kernel_rfl, rfl⟩
theorem fn_23 : FnOf Tryd.prog 23 := ⟨_, Tryd.func23, by kernel_rfl, rfl⟩
theorem fn_16 : FnOf Tryd.prog 16 := ⟨_, Tryd.func16, by kernel_rfl, rfl⟩
theorem fn_15 : FnOf Tryd.prog 15 := ⟨_, Tryd.func15, by kernel_rfl, rfl⟩
theorem fn_14 : FnOf Tryd.prog 14 := ⟨_, Tryd.func14, by kernel_rfl, rfl⟩
theorem fn_13 : FnOf Tryd.prog 13 := ⟨_, Tryd.func13, by kernel_rfl, rfl⟩
theorem eqn_28 (n : Nat) (x y : Tomb) (w : World) : (Op.equalIn (n + 5) 28 (.agg (Tomb.enc x).toArray) (.agg (Tomb.enc y).toArray)).run Tryd.prog w = .ok (Tomb.eqb x y) w := eqA_of Tryd.underlying28 (by kernel_rfl) (fun w => eqf_step rfl Tryd.underlying9 rfl rfl rfl (fun w => eqIn_str _ _ _ _ Tryd.underlying9 w) (eqf_step rfl Tryd.underlying9 rfl rfl rfl (fun w => eqIn_str _ _ _ _ Tryd.underlying9 w) (eqf_step rfl Tryd.underlying26 rfl rfl rfl (fun w => eqIn_int _ _ _ _ Tryd.underlying26 w) (eqf_nil)))) w
theorem eqof_28 : EqOf Tryd.prog 28 Tomb.enc Tomb.eqb := ⟨by kernel_rfl, fun x y w => eqn_28 9995 x y w⟩
end Go.Proofs.YtmbhgfigffahbaaDoor.Mo
