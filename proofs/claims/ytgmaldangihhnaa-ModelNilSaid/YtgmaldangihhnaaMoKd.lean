import Derived.Test.YtgmaldangihhnaaMoTw
import Derived.Test.YtgmaldangihhnaaProg
set_option linter.unusedVariables false
set_option linter.unusedSectionVars false
set_option linter.unusedSimpArgs false
set_option maxRecDepth 100000
namespace Go.Proofs.Ytgmaldangihhnaa.Mo
open Go Go.Proofs.Ytgmaldangihhnaa.Sy
open Go.Proofs
def k_model_Pair : Kd model_Pair := Kd.flat 2 model_Pair.enc (fun _ => rfl) (fun x u hu => by simp only [model_Pair.enc, List.mem_cons, List.not_mem_nil, or_false] at hu; rcases hu with h | h <;> subst h <;> rfl)
def k_Op : Kd Op := Kd.flat 3 Op.enc (fun _ => rfl) (fun x u hu => by simp only [Op.enc, List.mem_cons, List.not_mem_nil, or_false] at hu; rcases hu with h | h | h <;> subst h <;> rfl)
def k_model_state : Kd model_state := Kd.iso (Kd.pair (Kd.slice 37 k_model_Pair) (Kd.int .u64)) (fun x => (x.m, x.seq))
theorem ag_32 : AgOf Try.prog 32 3 := ⟨_, Try.underlying32, rfl, by kernel_rfl⟩
theorem el_32 : ElOf Try.prog 32 3 40 := el_of (z := .agg #[.int .i64 0, .string (ByteArray.mk #[]), .string (ByteArray.mk #[])]) (by kernel_rfl) rfl
theorem fa_32_1 : FaOf Try.prog 32 1 1 := fa_of (sz := 0) Try.underlying32 rfl rfl (by kernel_rfl)
theorem sc_9 : ScOf Try.prog 9 := sc_of Try.underlying9 rfl (by kernel_rfl)
theorem fa_32_0 : FaOf Try.prog 32 0 0 := fa_of (sz := 0) Try.underlying32 rfl rfl (by kernel_rfl)
theorem sc_3 : ScOf Try.prog 3 := sc_of Try.underlying3 rfl (by kernel_rfl)
theorem fa_32_2 : FaOf Try.prog 32 2 2 := fa_of (sz := 0) Try.underlying32 rfl rfl (by kernel_rfl)
theorem fn_80 : FnOf Try.prog 80 := ⟨_, Try.func80, by kernel_rfl, rfl⟩
theorem fn_131 : FnOf Try.prog 131 := ⟨_, Try.func131, by kernel_rfl, rfl⟩
theorem fn_122 : FnOf Try.prog 122 := ⟨_, Try.func122, by kernel_rfl, rfl⟩
theorem zr_32 : ZrOf Try.prog 32 [.int .i64 0, .string (ByteArray.mk #[]), .string (ByteArray.mk #[])] := zr_of (z := .agg #[.int .i64 0, .string (ByteArray.mk #[]), .string (ByteArray.mk #[])]) (by kernel_rfl) rfl
theorem fn_103 : FnOf Try.prog 103 := ⟨_, Try.func103, by kernel_rfl, rfl⟩
theorem fn_79 : FnOf Try.prog 79 := ⟨_, Try.func79, by kernel_rfl, rfl⟩
theorem fn_78 : FnOf Try.prog 78 := ⟨_, Try.func78, by kernel_rfl, rfl⟩
theorem fn_81 : FnOf Try.prog 81 := ⟨_, Try.func81, by kernel_rfl, rfl⟩
theorem fn_120 : FnOf Try.prog 120 := ⟨_, Try.func120, by kernel_rfl, rfl⟩
theorem fo : Try.prog.follows .mixedOrders = true := by kernel_rfl
theorem ag_37 : AgOf Try.prog 37 2 := ⟨_, Try.underlying37, rfl, by kernel_rfl⟩
theorem el_37 : ElOf Try.prog 37 2 32 := el_of (z := .agg #[.string (ByteArray.mk #[]), .string (ByteArray.mk #[])]) (by kernel_rfl) rfl
theorem fn_125 : FnOf Try.prog 125 := ⟨_, Try.func125, by kernel_rfl, rfl⟩
theorem fn_100 : FnOf Try.prog 100 := ⟨_, Try.func100, by kernel_rfl, rfl⟩
theorem sc_186 : ScOf Try.prog 186 := sc_of Try.underlying186 rfl (by kernel_rfl)
theorem zr_186 : ZrOf Try.prog 186 [.int .u64 0] := zr_of (z := .int .u64 0) (by kernel_rfl) rfl
theorem fn_127 : FnOf Try.prog 127 := ⟨_, Try.func127, by kernel_rfl, rfl⟩
theorem fn_126 : FnOf Try.prog 126 := ⟨_, Try.func126, by kernel_rfl, rfl⟩
theorem fn_133 : FnOf Try.prog 133 := ⟨_, Try.func133, by kernel_rfl, rfl⟩
theorem fn_129 : FnOf Try.prog 129 := ⟨_, Try.func129, by kernel_rfl, rfl⟩
theorem zr_3 : ZrOf Try.prog 3 [.int .i64 0] := zr_of (z := .int .i64 0) (by kernel_rfl) rfl
theorem fn_128 : FnOf Try.prog 128 := ⟨_, Try.func128, by kernel_rfl, rfl⟩
theorem fn_111 : FnOf Try.prog 111 := ⟨_, Try.func111, by kernel_rfl, rfl⟩
theorem fn_112 : FnOf Try.prog 112 := ⟨_, Try.func112, by kernel_rfl, rfl⟩
theorem fn_115 : FnOf Try.prog 115 := ⟨_, Try.func115, by kernel_rfl, rfl⟩
theorem fn_116 : FnOf Try.prog 116 := ⟨_, Try.func116, by kernel_rfl, rfl⟩
theorem fn_117 : FnOf Try.prog 117 := ⟨_, Try.func117, by kernel_rfl, rfl⟩
theorem fn_99 : FnOf Try.prog 99 := ⟨_, Try.func99, by kernel_rfl, rfl⟩
theorem fn_118 : FnOf Try.prog 118 := ⟨_, Try.func118, by kernel_rfl, rfl⟩
theorem fn_114 : FnOf Try.prog 114 := ⟨_, Try.func114, by kernel_rfl, rfl⟩
theorem fn_113 : FnOf Try.prog 113 := ⟨_, Try.func113, by kernel_rfl, rfl⟩
theorem fn_101 : FnOf Try.prog 101 := ⟨_, Try.func101, by kernel_rfl, rfl⟩
theorem fa_37_0 : FaOf Try.prog 37 0 0 := fa_of (sz := 0) Try.underlying37 rfl rfl (by kernel_rfl)
theorem fn_72 : FnOf Try.prog 72 := ⟨_, Try.func72, by kernel_rfl, rfl⟩
theorem fn_36 : FnOf Try.prog 36 := ⟨_, Try.func36, by kernel_rfl, rfl⟩
theorem zr_37 : ZrOf Try.prog 37 [.string (ByteArray.mk #[]), .string (ByteArray.mk #[])] := zr_of (z := .agg #[.string (ByteArray.mk #[]), .string (ByteArray.mk #[])]) (by kernel_rfl) rfl
theorem fa_37_1 : FaOf Try.prog 37 1 1 := fa_of (sz := 0) Try.underlying37 rfl rfl (by kernel_rfl)
theorem fn_37 : FnOf Try.prog 37 := ⟨_, Try.func37, by kernel_rfl, rfl⟩
theorem fn_50 : FnOf Try.prog 50 := ⟨_, Try.func50, by kernel_rfl, rfl⟩
theorem fn_68 : FnOf Try.prog 68 := ⟨_, Try.func68, by kernel_rfl, rfl⟩
theorem zr_140 : ZrOf Try.prog 140 [.string (ByteArray.mk #[])] := zr_of (z := .agg #[.string (ByteArray.mk #[])]) (by kernel_rfl) rfl
theorem ag_140 : AgOf Try.prog 140 1 := ⟨_, Try.underlying140, rfl, by kernel_rfl⟩
theorem fn_69 : FnOf Try.prog 69 := ⟨_, Try.func69, by kernel_rfl, rfl⟩
theorem fn_38 : FnOf Try.prog 38 := ⟨_, Try.func38, by kernel_rfl, rfl⟩
theorem fa_140_0 : FaOf Try.prog 140 0 0 := fa_of (sz := 0) Try.underlying140 rfl rfl (by kernel_rfl)
theorem fn_71 : FnOf Try.prog 71 := ⟨_, Try.func71, by kernel_rfl, rfl⟩
theorem fn_70 : FnOf Try.prog 70 := ⟨_, Try.func70, by kernel_rfl, rfl⟩
theorem fn_11 : FnOf Try.prog 11 := ⟨_, Try.func11, by kernel_rfl, rfl⟩
theorem fn_83 : FnOf Try.prog 83 := ⟨_, Try.func83, by kernel_rfl, rfl⟩
theorem fn_82 : FnOf Try.prog 82 := ⟨_, Try.func82, by kernel_rfl, rfl⟩
theorem el_115 : ElOf Try.prog 115 2 32 := el_of (z := .agg #[(.slice none 0 0), .int .u64 0]) (by kernel_rfl) rfl
theorem fn_21 : FnOf Try.prog 21 := ⟨_, Try.func21, by kernel_rfl, rfl⟩
theorem el_54 : ElOf Try.prog 54 1 8 := el_of (z := .pointer none) (by kernel_rfl) rfl
theorem sc_54 : ScOf Try.prog 54 := sc_of Try.underlying54 rfl (by kernel_rfl)
theorem fn_25 : FnOf Try.prog 25 := ⟨_, Try.func25, by kernel_rfl, rfl⟩
theorem fn_49 : FnOf Try.prog 49 := ⟨_, Try.func49, by kernel_rfl, rfl⟩
theorem fn_26 : FnOf Try.prog 26 := ⟨_, Try.func26, by kernel_rfl, rfl⟩
theorem fn_51 : FnOf Try.prog 51 := ⟨_, Try.func51, by kernel_rfl, rfl⟩
theorem fn_27 : FnOf Try.prog 27 := ⟨_, Try.func27, by kernel_rfl, rfl⟩
theorem fn_28 : FnOf Try.prog 28 := ⟨_, Try.func28, by kernel_rfl, rfl⟩
theorem fn_29 : FnOf Try.prog 29 := ⟨_, Try.func29, by kernel_rfl, rfl⟩
theorem fn_30 : FnOf Try.prog 30 := ⟨_, Try.func30, by kernel_rfl, rfl⟩
theorem fa_69_0 : FaOf Try.prog 69 0 0 := fa_of (sz := 0) Try.underlying69 rfl rfl (by kernel_rfl)
theorem sc_67 : ScOf Try.prog 67 := sc_of Try.underlying67 rfl (by kernel_rfl)
end Go.Proofs.Ytgmaldangihhnaa.Mo
