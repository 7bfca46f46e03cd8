/- Printed by gen.py: kinds of data; facts on types and functions of the translation. -/
import Derived.Test.YtfofolmagnaimaaDrpTw
import Derived.Test.YtfofolmagnaimaaProg
set_option linter.unusedVariables false
set_option linter.unusedSimpArgs false
set_option maxRecDepth 100000
namespace Go.Proofs.Ytfofolmagnaimaa.Mo
open Go Go.Proofs.Ytfofolmagnaimaa.Sy
open Go.Proofs
def k_File : Kd File := Kd.flat 6 File.enc (fun _ => rfl) (fun x u hu => by simp only [File.enc, List.mem_cons, List.not_mem_nil, or_false] at hu; rcases hu with h | h | h | h | h | h <;> subst h <;> rfl)
def k_R21_Rule : Kd R21_Rule := Kd.iso (Kd.pair (Kd.slice 26 (Kd.int .u64)) (Kd.slice 59 k_File)) (fun x => (x.Snaps, x.Below))
def k_drop_Rule : Kd drop_Rule := Kd.iso (Kd.pair (Kd.slice 26 (Kd.int .u64)) (Kd.slice 59 k_File)) (fun x => (x.Snaps, x.Below))
theorem zr_27 : ZrOf Try.prog 27 [(.slice none 0 0), (.slice none 0 0)] := zr_of (z := .agg #[(.slice none 0 0), (.slice none 0 0)]) (by kernel_rfl) rfl
theorem fo : Try.prog.follows .mixedOrders = true := by kernel_rfl
theorem fa_25_0 : FaOf Try.prog 25 0 0 := fa_of (sz := 0) Try.underlying25 rfl rfl (by kernel_rfl)
theorem sc_22 : ScOf Try.prog 22 := sc_of Try.underlying22 rfl (by kernel_rfl)
theorem fa_25_1 : FaOf Try.prog 25 1 1 := fa_of (sz := 0) Try.underlying25 rfl rfl (by kernel_rfl)
theorem sc_23 : ScOf Try.prog 23 := sc_of Try.underlying23 rfl (by kernel_rfl)
theorem el_26 : ElOf Try.prog 26 1 8 := el_of (z := .int .u64 0) (by kernel_rfl) rfl
theorem el_59 : ElOf Try.prog 59 6 64 := el_of (z := .agg #[.int .i64 0, .int .i64 0, .string (ByteArray.mk #[]), .string (ByteArray.mk #[]), .int .u64 0, .int .u64 0]) (by kernel_rfl) rfl
theorem ag_27 : AgOf Try.prog 27 2 := ⟨_, Try.underlying27, rfl, by kernel_rfl⟩
theorem sc_26 : ScOf Try.prog 26 := sc_of Try.underlying26 rfl (by kernel_rfl)
theorem fn_41 : FnOf Try.prog 41 := ⟨_, Try.func41, by kernel_rfl, rfl⟩
theorem fn_23 : FnOf Try.prog 23 := ⟨_, Try.func23, by kernel_rfl, rfl⟩
theorem fa_59_2 : FaOf Try.prog 59 2 2 := fa_of (sz := 0) Try.underlying59 rfl rfl (by kernel_rfl)
theorem sc_9 : ScOf Try.prog 9 := sc_of Try.underlying9 rfl (by kernel_rfl)
theorem fa_59_3 : FaOf Try.prog 59 3 3 := fa_of (sz := 0) Try.underlying59 rfl rfl (by kernel_rfl)
theorem ag_59 : AgOf Try.prog 59 6 := ⟨_, Try.underlying59, rfl, by kernel_rfl⟩
theorem fn_42 : FnOf Try.prog 42 := ⟨_, Try.func42, by kernel_rfl, rfl⟩
theorem fn_25 : FnOf Try.prog 25 := ⟨_, Try.func25, by kernel_rfl, rfl⟩
theorem fn_24 : FnOf Try.prog 24 := ⟨_, Try.func24, by kernel_rfl, rfl⟩
theorem fa_27_0 : FaOf Try.prog 27 0 0 := fa_of (sz := 0) Try.underlying27 rfl rfl (by kernel_rfl)
theorem fa_27_1 : FaOf Try.prog 27 1 1 := fa_of (sz := 0) Try.underlying27 rfl rfl (by kernel_rfl)
theorem ag_25 : AgOf Try.prog 25 2 := ⟨_, Try.underlying25, rfl, by kernel_rfl⟩
theorem fn_12 : FnOf Try.prog 12 := ⟨_, Try.func12, by kernel_rfl, rfl⟩
theorem fn_11 : FnOf Try.prog 11 := ⟨_, Try.func11, by kernel_rfl, rfl⟩
theorem fn_13 : FnOf Try.prog 13 := ⟨_, Try.func13, by kernel_rfl, rfl⟩
theorem fn_10 : FnOf Try.prog 10 := ⟨_, Try.func10, by kernel_rfl, rfl⟩
theorem fn_9 : FnOf Try.prog 9 := ⟨_, Try.func9, by kernel_rfl, rfl⟩
theorem fn_8 : FnOf Try.prog 8 := ⟨_, Try.func8, by kernel_rfl, rfl⟩
theorem eqn_59 (n : Nat) (x y : File) (w : World) : (Op.equalIn (n + 5) 59 (.agg (File.enc x).toArray) (.agg (File.enc y).toArray)).run Try.prog w = .ok (File.eqb x y) w := eqA_of Try.underlying59 (by kernel_rfl) (fun w => eqf_step rfl Try.underlying3 rfl rfl rfl (fun w => eqIn_int _ _ _ _ Try.underlying3 w) (eqf_step rfl Try.underlying3 rfl rfl rfl (fun w => eqIn_int _ _ _ _ Try.underlying3 w) (eqf_step rfl Try.underlying9 rfl rfl rfl (fun w => eqIn_str _ _ _ _ Try.underlying9 w) (eqf_step rfl Try.underlying9 rfl rfl rfl (fun w => eqIn_str _ _ _ _ Try.underlying9 w) (eqf_step rfl Try.underlying26 rfl rfl rfl (fun w => eqIn_int _ _ _ _ Try.underlying26 w) (eqf_step rfl Try.underlying26 rfl rfl rfl (fun w => eqIn_int _ _ _ _ Try.underlying26 w) (eqf_nil))))))) w
theorem eqof_59 : EqOf Try.prog 59 File.enc File.eqb := ⟨by kernel_rfl, fun x y w => eqn_59 9995 x y w⟩
end Go.Proofs.Ytfofolmagnaimaa.Mo
