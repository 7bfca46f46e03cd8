import Derived.Test.YtgmaldangihhnaaMoTw
import Derived.Test.YtgmaldangihhnaaProg
set_option linter.unusedVariables false
set_option linter.unusedSectionVars false
set_option linter.unusedSimpArgs false
set_option maxRecDepth 100000
namespace Go.Proofs.Ytgmaldangihhnaa.Mo
open Go Go.Proofs.Ytgmaldangihhnaa.Sy
open Go.Proofs
def k_model_Pair : Kd model_Pair := Kd.flat 2 model_Pair.enc (fun _ => rfl) (fun x u hu => by simp only [model_Pair.enc, List.mem_cons, List.not_mem_nil, or_false] at hu; rcases hu with h | h <;> subst h <;> rfl)
def k_Op : Kd Op := Kd.flat 3 Op.enc (fun _ => rfl) (fun x u hu => by simp only [Op.enc, List.mem_cons, List.not_mem_nil, or_false] at hu; rcases hu with h | h | h <;> subst h <;> rfl)
def k_R26_Pair : Kd R26_Pair := Kd.flat 2 R26_Pair.enc (fun _ => rfl) (fun x u hu => by simp only [R26_Pair.enc, List.mem_cons, List.not_mem_nil, or_false] at hu; rcases hu with h | h <;> subst h <;> rfl)
def k_Ask : Kd Ask := Kd.flat 6 Ask.enc (fun _ => rfl) (fun x u hu => by simp only [Ask.enc, List.mem_cons, List.not_mem_nil, or_false] at hu; rcases hu with h | h | h | h | h | h <;> subst h <;> rfl)
def k_model_Spot : Kd model_Spot := Kd.flat 3 model_Spot.enc (fun _ => rfl) (fun x u hu => by simp only [model_Spot.enc, List.mem_cons, List.not_mem_nil, or_false] at hu; rcases hu with h | h | h <;> subst h <;> rfl)
def k_R26_Spot : Kd R26_Spot := Kd.flat 3 R26_Spot.enc (fun _ => rfl) (fun x u hu => by simp only [R26_Spot.enc, List.mem_cons, List.not_mem_nil, or_false] at hu; rcases hu with h | h | h <;> subst h <;> rfl)
def k_L26_Look : Kd L26_Look := Kd.iso (Kd.pair Kd.str (Kd.pair Kd.str (Kd.slice 50 k_Ask))) (fun x => (x.Least, x.Limit, x.Asks))
theorem ag_32 : AgOf Try.prog 32 3 := ⟨_, Try.underlying32, rfl, by kernel_rfl⟩
theorem el_32 : ElOf Try.prog 32 3 40 := el_of (z := .agg #[.int .i64 0, .string (ByteArray.mk #[]), .string (ByteArray.mk #[])]) (by kernel_rfl) rfl
theorem fa_32_1 : FaOf Try.prog 32 1 1 := fa_of (sz := 0) Try.underlying32 rfl rfl (by kernel_rfl)
theorem sc_9 : ScOf Try.prog 9 := sc_of Try.underlying9 rfl (by kernel_rfl)
theorem fa_32_0 : FaOf Try.prog 32 0 0 := fa_of (sz := 0) Try.underlying32 rfl rfl (by kernel_rfl)
theorem sc_3 : ScOf Try.prog 3 := sc_of Try.underlying3 rfl (by kernel_rfl)
theorem fa_32_2 : FaOf Try.prog 32 2 2 := fa_of (sz := 0) Try.underlying32 rfl rfl (by kernel_rfl)
theorem fn_80 : FnOf Try.prog 80 := ⟨_, Try.func80, by kernel_rfl, rfl⟩
theorem fn_131 : FnOf Try.prog 131 := ⟨_, Try.func131, by kernel_rfl, rfl⟩
theorem fn_122 : FnOf Try.prog 122 := ⟨_, Try.func122, by kernel_rfl, rfl⟩
theorem zr_32 : ZrOf Try.prog 32 [.int .i64 0, .string (ByteArray.mk #[]), .string (ByteArray.mk #[])] := zr_of (z := .agg #[.int .i64 0, .string (ByteArray.mk #[]), .string (ByteArray.mk #[])]) (by kernel_rfl) rfl
theorem fn_103 : FnOf Try.prog 103 := ⟨_, Try.func103, by kernel_rfl, rfl⟩
theorem fn_79 : FnOf Try.prog 79 := ⟨_, Try.func79, by kernel_rfl, rfl⟩
theorem fn_78 : FnOf Try.prog 78 := ⟨_, Try.func78, by kernel_rfl, rfl⟩
theorem fn_81 : FnOf Try.prog 81 := ⟨_, Try.func81, by kernel_rfl, rfl⟩
theorem fn_120 : FnOf Try.prog 120 := ⟨_, Try.func120, by kernel_rfl, rfl⟩
theorem fo : Try.prog.follows .mixedOrders = true := by kernel_rfl
theorem ag_37 : AgOf Try.prog 37 2 := ⟨_, Try.underlying37, rfl, by kernel_rfl⟩
theorem el_37 : ElOf Try.prog 37 2 32 := el_of (z := .agg #[.string (ByteArray.mk #[]), .string (ByteArray.mk #[])]) (by kernel_rfl) rfl
theorem fn_125 : FnOf Try.prog 125 := ⟨_, Try.func125, by kernel_rfl, rfl⟩
theorem fn_100 : FnOf Try.prog 100 := ⟨_, Try.func100, by kernel_rfl, rfl⟩
theorem sc_186 : ScOf Try.prog 186 := sc_of Try.underlying186 rfl (by kernel_rfl)
theorem zr_186 : ZrOf Try.prog 186 [.int .u64 0] := zr_of (z := .int .u64 0) (by kernel_rfl) rfl
theorem fn_127 : FnOf Try.prog 127 := ⟨_, Try.func127, by kernel_rfl, rfl⟩
theorem fn_126 : FnOf Try.prog 126 := ⟨_, Try.func126, by kernel_rfl, rfl⟩
theorem fn_133 : FnOf Try.prog 133 := ⟨_, Try.func133, by kernel_rfl, rfl⟩
theorem fn_129 : FnOf Try.prog 129 := ⟨_, Try.func129, by kernel_rfl, rfl⟩
theorem zr_3 : ZrOf Try.prog 3 [.int .i64 0] := zr_of (z := .int .i64 0) (by kernel_rfl) rfl
theorem fn_128 : FnOf Try.prog 128 := ⟨_, Try.func128, by kernel_rfl, rfl⟩
theorem fn_111 : FnOf Try.prog 111 := ⟨_, Try.func111, by kernel_rfl, rfl⟩
theorem fn_112 : FnOf Try.prog 112 := ⟨_, Try.func112, by kernel_rfl, rfl⟩
theorem fn_115 : FnOf Try.prog 115 := ⟨_, Try.func115, by kernel_rfl, rfl⟩
theorem fn_116 : FnOf Try.prog 116 := ⟨_, Try.func116, by kernel_rfl, rfl⟩
theorem fn_117 : FnOf Try.prog 117 := ⟨_, Try.func117, by kernel_rfl, rfl⟩
theorem fn_99 : FnOf Try.prog 99 := ⟨_, Try.func99, by kernel_rfl, rfl⟩
theorem fn_118 : FnOf Try.prog 118 := ⟨_, Try.func118, by kernel_rfl, rfl⟩
theorem fn_114 : FnOf Try.prog 114 := ⟨_, Try.func114, by kernel_rfl, rfl⟩
theorem fn_113 : FnOf Try.prog 113 := ⟨_, Try.func113, by kernel_rfl, rfl⟩
theorem fn_101 : FnOf Try.prog 101 := ⟨_, Try.func101, by kernel_rfl, rfl⟩
theorem fa_37_0 : FaOf Try.prog 37 0 0 := fa_of (sz := 0) Try.underlying37 rfl rfl (by kernel_rfl)
theorem fn_72 : FnOf Try.prog 72 := ⟨_, Try.func72, by kernel_rfl, rfl⟩
theorem fn_36 : FnOf Try.prog 36 := ⟨_, Try.func36, by kernel_rfl, rfl⟩
theorem zr_37 : ZrOf Try.prog 37 [.string (ByteArray.mk #[]), .string (ByteArray.mk #[])] := zr_of (z := .agg #[.string (ByteArray.mk #[]), .string (ByteArray.mk #[])]) (by kernel_rfl) rfl
theorem fa_37_1 : FaOf Try.prog 37 1 1 := fa_of (sz := 0) Try.underlying37 rfl rfl (by kernel_rfl)
theorem fn_37 : FnOf Try.prog 37 := ⟨_, Try.func37, by kernel_rfl, rfl⟩
theorem fn_50 : FnOf Try.prog 50 := ⟨_, Try.func50, by kernel_rfl, rfl⟩
theorem fn_68 : FnOf Try.prog 68 := ⟨_, Try.func68, by kernel_rfl, rfl⟩
theorem zr_140 : ZrOf Try.prog 140 [.string (ByteArray.mk #[])] := zr_of (z := .agg #[.string (ByteArray.mk #[])]) (by kernel_rfl) rfl
theorem ag_140 : AgOf Try.prog 140 1 := ⟨_, Try.underlying140, rfl, by kernel_rfl⟩
theorem fn_69 : FnOf Try.prog 69 := ⟨_, Try.func69, by kernel_rfl, rfl⟩
theorem fn_38 : FnOf Try.prog 38 := ⟨_, Try.func38, by kernel_rfl, rfl⟩
theorem fa_140_0 : FaOf Try.prog 140 0 0 := fa_of (sz := 0) Try.underlying140 rfl rfl (by kernel_rfl)
theorem fn_71 : FnOf Try.prog 71 := ⟨_, Try.func71, by kernel_rfl, rfl⟩
theorem fn_70 : FnOf Try.prog 70 := ⟨_, Try.func70, by kernel_rfl, rfl⟩
theorem el_108 : ElOf Try.prog 108 2 32 := el_of (z := .agg #[.string (ByteArray.mk #[]), .string (ByteArray.mk #[])]) (by kernel_rfl) rfl
theorem fa_108_0 : FaOf Try.prog 108 0 0 := fa_of (sz := 0) Try.underlying108 rfl rfl (by kernel_rfl)
theorem fa_108_1 : FaOf Try.prog 108 1 1 := fa_of (sz := 0) Try.underlying108 rfl rfl (by kernel_rfl)
theorem fn_73 : FnOf Try.prog 73 := ⟨_, Try.func73, by kernel_rfl, rfl⟩
theorem ag_108 : AgOf Try.prog 108 2 := ⟨_, Try.underlying108, rfl, by kernel_rfl⟩
theorem fn_39 : FnOf Try.prog 39 := ⟨_, Try.func39, by kernel_rfl, rfl⟩
theorem fn_13 : FnOf Try.prog 13 := ⟨_, Try.func13, by kernel_rfl, rfl⟩
theorem fn_15 : FnOf Try.prog 15 := ⟨_, Try.func15, by kernel_rfl, rfl⟩
theorem fn_12 : FnOf Try.prog 12 := ⟨_, Try.func12, by kernel_rfl, rfl⟩
theorem fn_11 : FnOf Try.prog 11 := ⟨_, Try.func11, by kernel_rfl, rfl⟩
theorem fn_42 : FnOf Try.prog 42 := ⟨_, Try.func42, by kernel_rfl, rfl⟩
theorem fn_76 : FnOf Try.prog 76 := ⟨_, Try.func76, by kernel_rfl, rfl⟩
theorem fn_75 : FnOf Try.prog 75 := ⟨_, Try.func75, by kernel_rfl, rfl⟩
theorem fa_50_2 : FaOf Try.prog 50 2 2 := fa_of (sz := 0) Try.underlying50 rfl rfl (by kernel_rfl)
theorem ag_50 : AgOf Try.prog 50 6 := ⟨_, Try.underlying50, rfl, by kernel_rfl⟩
theorem zr_50 : ZrOf Try.prog 50 [.int .i64 0, .int .i64 0, .string (ByteArray.mk #[]), .string (ByteArray.mk #[]), .slice SlV.nil.p SlV.nil.n SlV.nil.c, .bool false] := zr_of (z := .agg #[.int .i64 0, .int .i64 0, .string (ByteArray.mk #[]), .string (ByteArray.mk #[]), .slice SlV.nil.p SlV.nil.n SlV.nil.c, .bool false]) (by kernel_rfl) rfl
theorem fa_50_0 : FaOf Try.prog 50 0 0 := fa_of (sz := 0) Try.underlying50 rfl rfl (by kernel_rfl)
theorem fn_43 : FnOf Try.prog 43 := ⟨_, Try.func43, by kernel_rfl, rfl⟩
theorem el_47 : ElOf Try.prog 47 3 40 := el_of (z := .agg #[.int .i64 0, .string (ByteArray.mk #[]), .string (ByteArray.mk #[])]) (by kernel_rfl) rfl
theorem zr_47 : ZrOf Try.prog 47 [.int .i64 0, .string (ByteArray.mk #[]), .string (ByteArray.mk #[])] := zr_of (z := .agg #[.int .i64 0, .string (ByteArray.mk #[]), .string (ByteArray.mk #[])]) (by kernel_rfl) rfl
theorem ag_47 : AgOf Try.prog 47 3 := ⟨_, Try.underlying47, rfl, by kernel_rfl⟩
theorem el_50 : ElOf Try.prog 50 6 80 := el_of (z := .agg #[.int .i64 0, .int .i64 0, .string (ByteArray.mk #[]), .string (ByteArray.mk #[]), .slice SlV.nil.p SlV.nil.n SlV.nil.c, .bool false]) (by kernel_rfl) rfl
theorem fn_41 : FnOf Try.prog 41 := ⟨_, Try.func41, by kernel_rfl, rfl⟩
theorem el_48 : ElOf Try.prog 48 3 40 := el_of (z := .agg #[.int .i64 0, .string (ByteArray.mk #[]), .string (ByteArray.mk #[])]) (by kernel_rfl) rfl
theorem fa_41_0 : FaOf Try.prog 41 0 0 := fa_of (sz := 0) Try.underlying41 rfl rfl (by kernel_rfl)
theorem fa_41_1 : FaOf Try.prog 41 1 1 := fa_of (sz := 0) Try.underlying41 rfl rfl (by kernel_rfl)
theorem fa_41_2 : FaOf Try.prog 41 2 2 := fa_of (sz := 0) Try.underlying41 rfl rfl (by kernel_rfl)
theorem sc_39 : ScOf Try.prog 39 := sc_of Try.underlying39 rfl (by kernel_rfl)
theorem fn_19 : FnOf Try.prog 19 := ⟨_, Try.func19, by kernel_rfl, rfl⟩
theorem fa_47_0 : FaOf Try.prog 47 0 0 := fa_of (sz := 0) Try.underlying47 rfl rfl (by kernel_rfl)
theorem fa_48_0 : FaOf Try.prog 48 0 0 := fa_of (sz := 0) Try.underlying48 rfl rfl (by kernel_rfl)
theorem fa_47_1 : FaOf Try.prog 47 1 1 := fa_of (sz := 0) Try.underlying47 rfl rfl (by kernel_rfl)
theorem fa_48_1 : FaOf Try.prog 48 1 1 := fa_of (sz := 0) Try.underlying48 rfl rfl (by kernel_rfl)
theorem fa_47_2 : FaOf Try.prog 47 2 2 := fa_of (sz := 0) Try.underlying47 rfl rfl (by kernel_rfl)
theorem fa_48_2 : FaOf Try.prog 48 2 2 := fa_of (sz := 0) Try.underlying48 rfl rfl (by kernel_rfl)
theorem fn_20 : FnOf Try.prog 20 := ⟨_, Try.func20, by kernel_rfl, rfl⟩
theorem eqn_47 (n : Nat) (x y : model_Spot) (w : World) : (Op.equalIn (n + 2) 47 (.agg (model_Spot.enc x).toArray) (.agg (model_Spot.enc y).toArray)).run Try.prog w = .ok (model_Spot.eqb x y) w := eqA_of Try.underlying47 (by kernel_rfl) (fun w => eqf_step rfl Try.underlying3 rfl rfl rfl (fun w => eqIn_int _ _ _ _ Try.underlying3 w) (eqf_step rfl Try.underlying9 rfl rfl rfl (fun w => eqIn_str _ _ _ _ Try.underlying9 w) (eqf_step rfl Try.underlying9 rfl rfl rfl (fun w => eqIn_str _ _ _ _ Try.underlying9 w) (eqf_nil)))) w
theorem eqof_47 : EqOf Try.prog 47 model_Spot.enc model_Spot.eqb := ⟨by kernel_rfl, fun x y w => eqn_47 9998 x y w⟩
end Go.Proofs.Ytgmaldangihhnaa.Mo
