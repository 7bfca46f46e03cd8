import Derived.Test.YtknedifgapgmbaaMgTw
import Derived.Test.YtknedifgapgmbaaProg
set_option linter.unusedVariables false
set_option linter.unusedSectionVars false
set_option linter.unusedSimpArgs false
set_option maxRecDepth 100000
namespace Go.Proofs.Ytknedifgapgmbaa.Mo
open Go Go.Proofs.Ytknedifgapgmbaa.Sy
open Go.Proofs
def k_Entry : Kd Entry := Kd.flat 4 Entry.enc (fun _ => rfl) (fun x u hu => by simp only [Entry.enc, List.mem_cons, List.not_mem_nil, or_false] at hu; rcases hu with h | h | h | h <;> subst h <;> rfl)
def k_R19_Item : Kd R19_Item := Kd.flat 5 R19_Item.enc (fun _ => rfl) (fun x u hu => by simp only [R19_Item.enc, List.mem_cons, List.not_mem_nil, or_false] at hu; rcases hu with h | h | h | h | h <;> subst h <;> rfl)
theorem el_32 : ElOf Try.prog 32 4 48 := el_of (z := .agg #[.string (ByteArray.mk #[]), .int .u64 0, .int .i64 0, .string (ByteArray.mk #[])]) (by kernel_rfl) rfl
theorem sc_24 : ScOf Try.prog 24 := sc_of Try.underlying24 rfl (by kernel_rfl)
theorem el_24 : ElOf Try.prog 24 1 24 := el_of (z := (.slice none 0 0)) (by kernel_rfl) rfl
theorem zr_32 : ZrOf Try.prog 32 [.string (ByteArray.mk #[]), .int .u64 0, .int .i64 0, .string (ByteArray.mk #[])] := zr_of (z := .agg #[.string (ByteArray.mk #[]), .int .u64 0, .int .i64 0, .string (ByteArray.mk #[])]) (by kernel_rfl) rfl
theorem fn_60 : FnOf Try.prog 60 := ⟨_, Try.func60, by kernel_rfl, rfl⟩
theorem fo : Try.prog.follows .mixedOrders = true := by kernel_rfl
theorem ag_32 : AgOf Try.prog 32 4 := ⟨_, Try.underlying32, rfl, by kernel_rfl⟩
theorem fn_76 : FnOf Try.prog 76 := ⟨_, Try.func76, by kernel_rfl, rfl⟩
theorem fn_75 : FnOf Try.prog 75 := ⟨_, Try.func75, by kernel_rfl, rfl⟩
theorem fn_74 : FnOf Try.prog 74 := ⟨_, Try.func74, by kernel_rfl, rfl⟩
theorem fn_73 : FnOf Try.prog 73 := ⟨_, Try.func73, by kernel_rfl, rfl⟩
theorem fn_70 : FnOf Try.prog 70 := ⟨_, Try.func70, by kernel_rfl, rfl⟩
theorem ext_72 : ExtOf Try.prog 72 Extern.BytealgCompare.compare := ⟨_, Try.func72, by kernel_rfl, by kernel_rfl, by kernel_rfl, by kernel_rfl⟩
theorem fn_66 : FnOf Try.prog 66 := ⟨_, Try.func66, by kernel_rfl, rfl⟩
theorem fn_67 : FnOf Try.prog 67 := ⟨_, Try.func67, by kernel_rfl, rfl⟩
theorem fn_68 : FnOf Try.prog 68 := ⟨_, Try.func68, by kernel_rfl, rfl⟩
theorem sc_3 : ScOf Try.prog 3 := sc_of Try.underlying3 rfl (by kernel_rfl)
theorem el_3 : ElOf Try.prog 3 1 8 := el_of (z := .int .i64 0) (by kernel_rfl) rfl
theorem fa_42_0 : FaOf Try.prog 42 0 0 := fa_of (sz := 0) Try.underlying42 rfl rfl (by kernel_rfl)
theorem sc_9 : ScOf Try.prog 9 := sc_of Try.underlying9 rfl (by kernel_rfl)
theorem fa_42_1 : FaOf Try.prog 42 1 1 := fa_of (sz := 0) Try.underlying42 rfl rfl (by kernel_rfl)
theorem sc_30 : ScOf Try.prog 30 := sc_of Try.underlying30 rfl (by kernel_rfl)
theorem fa_42_2 : FaOf Try.prog 42 2 2 := fa_of (sz := 0) Try.underlying42 rfl rfl (by kernel_rfl)
theorem fn_51 : FnOf Try.prog 51 := ⟨_, Try.func51, by kernel_rfl, rfl⟩
theorem fn_54 : FnOf Try.prog 54 := ⟨_, Try.func54, by kernel_rfl, rfl⟩
theorem fn_53 : FnOf Try.prog 53 := ⟨_, Try.func53, by kernel_rfl, rfl⟩
theorem fn_52 : FnOf Try.prog 52 := ⟨_, Try.func52, by kernel_rfl, rfl⟩
theorem fa_32_0 : FaOf Try.prog 32 0 0 := fa_of (sz := 0) Try.underlying32 rfl rfl (by kernel_rfl)
theorem fa_32_1 : FaOf Try.prog 32 1 1 := fa_of (sz := 0) Try.underlying32 rfl rfl (by kernel_rfl)
theorem fa_32_2 : FaOf Try.prog 32 2 2 := fa_of (sz := 0) Try.underlying32 rfl rfl (by kernel_rfl)
theorem fn_28 : FnOf Try.prog 28 := ⟨_, Try.func28, by kernel_rfl, rfl⟩
theorem fn_59 : FnOf Try.prog 59 := ⟨_, Try.func59, by kernel_rfl, rfl⟩
theorem fn_58 : FnOf Try.prog 58 := ⟨_, Try.func58, by kernel_rfl, rfl⟩
theorem fn_57 : FnOf Try.prog 57 := ⟨_, Try.func57, by kernel_rfl, rfl⟩
theorem fn_37 : FnOf Try.prog 37 := ⟨_, Try.func37, by kernel_rfl, rfl⟩
theorem fn_38 : FnOf Try.prog 38 := ⟨_, Try.func38, by kernel_rfl, rfl⟩
theorem zr_42 : ZrOf Try.prog 42 [.string (ByteArray.mk #[]), .int .u64 0, .int .i64 0] := zr_of (z := .agg #[.string (ByteArray.mk #[]), .int .u64 0, .int .i64 0]) (by kernel_rfl) rfl
theorem ag_42 : AgOf Try.prog 42 3 := ⟨_, Try.underlying42, rfl, by kernel_rfl⟩
theorem fn_39 : FnOf Try.prog 39 := ⟨_, Try.func39, by kernel_rfl, rfl⟩
theorem fn_40 : FnOf Try.prog 40 := ⟨_, Try.func40, by kernel_rfl, rfl⟩
theorem fn_34 : FnOf Try.prog 34 := ⟨_, Try.func34, by kernel_rfl, rfl⟩
theorem el_40 : ElOf Try.prog 40 5 56 := el_of (z := .agg #[.string (ByteArray.mk #[]), .int .u64 0, .int .i64 0, .string (ByteArray.mk #[]), .int .i64 0]) (by kernel_rfl) rfl
theorem fa_40_0 : FaOf Try.prog 40 0 0 := fa_of (sz := 3) Try.underlying40 rfl rfl (by kernel_rfl)
theorem ag_40 : AgOf Try.prog 40 5 := ⟨_, Try.underlying40, rfl, by kernel_rfl⟩
theorem fn_13 : FnOf Try.prog 13 := ⟨_, Try.func13, by kernel_rfl, rfl⟩
theorem fn_11 : FnOf Try.prog 11 := ⟨_, Try.func11, by kernel_rfl, rfl⟩
theorem fn_12 : FnOf Try.prog 12 := ⟨_, Try.func12, by kernel_rfl, rfl⟩
theorem fn_10 : FnOf Try.prog 10 := ⟨_, Try.func10, by kernel_rfl, rfl⟩
theorem fn_9 : FnOf Try.prog 9 := ⟨_, Try.func9, by kernel_rfl, rfl⟩
theorem eqn_32 (n : Nat) (x y : Entry) (w : World) : (Op.equalIn (n + 2) 32 (.agg (Entry.enc x).toArray) (.agg (Entry.enc y).toArray)).run Try.prog w = .ok (Entry.eqb x y) w := eqA_of Try.underlying32 (by kernel_rfl) (fun w => eqf_step rfl Try.underlying9 rfl rfl rfl (fun w => eqIn_str _ _ _ _ Try.underlying9 w) (eqf_step rfl Try.underlying30 rfl rfl rfl (fun w => eqIn_int _ _ _ _ Try.underlying30 w) (eqf_step rfl Try.underlying3 rfl rfl rfl (fun w => eqIn_int _ _ _ _ Try.underlying3 w) (eqf_step rfl Try.underlying9 rfl rfl rfl (fun w => eqIn_str _ _ _ _ Try.underlying9 w) (eqf_nil))))) w
theorem eqof_32 : EqOf Try.prog 32 Entry.enc Entry.eqb := ⟨by kernel_rfl, fun x y w => eqn_32 9998 x y w⟩
end Go.Proofs.Ytknedifgapgmbaa.Mo
