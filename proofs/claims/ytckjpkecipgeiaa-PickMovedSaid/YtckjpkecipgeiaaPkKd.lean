import Derived.Test.YtckjpkecipgeiaaPkTw
import Derived.Test.YtckjpkecipgeiaaProg
set_option linter.unusedVariables false
set_option linter.unusedSectionVars false
set_option linter.unusedSimpArgs false
set_option maxRecDepth 100000
namespace Go.Proofs.Ytckjpkecipgeiaa.Mo
open Go Go.Proofs.Ytckjpkecipgeiaa.Sy
open Go.Proofs
def k_File : Kd File := Kd.flat 6 File.enc (fun _ => rfl) (fun x u hu => by simp only [File.enc, List.mem_cons, List.not_mem_nil, or_false] at hu; rcases hu with h | h | h | h | h | h <;> subst h <;> rfl)
def k_Shape : Kd Shape := Kd.flat 3 Shape.enc (fun _ => rfl) (fun x u hu => by simp only [Shape.enc, List.mem_cons, List.not_mem_nil, or_false] at hu; rcases hu with h | h | h <;> subst h <;> rfl)
def k_Config : Kd Config := Kd.iso (Kd.pair (Kd.int .i64) (Kd.pair (Kd.int .i64) (Kd.pair (Kd.int .i64) (Kd.pair k_Shape (Kd.pair (Kd.int .i64) (Kd.pair (Kd.int .i64) (Kd.pair (Kd.int .i64) (Kd.pair (Kd.int .i64) (Kd.pair (Kd.int .i64) (Kd.pair (Kd.int .i64) (Kd.pair (Kd.int .i64) (Kd.pair (Kd.int .i64) (Kd.pair (Kd.int .i64) (Kd.slice 3 (Kd.int .i64))))))))))))))) (fun x => (x.Block, x.Mem, x.Frozen, x.Shape, x.Cut, x.Files0, x.Stop0, x.Base, x.Ratio, x.Levels, x.Chunk, x.Roll, x.Clients, x.Heights))
def k_Place : Kd Place := Kd.flat 2 Place.enc (fun _ => rfl) (fun x u hu => by simp only [Place.enc, List.mem_cons, List.not_mem_nil, or_false] at hu; rcases hu with h | h <;> subst h <;> rfl)
def k_Added : Kd Added := Kd.flat 7 Added.enc (fun _ => rfl) (fun x u hu => by simp only [Added.enc, List.mem_cons, List.not_mem_nil, or_false] at hu; rcases hu with h | h | h | h | h | h | h <;> subst h <;> rfl)
theorem el_31 : ElOf Try.prog 31 1 24 := el_of (z := (.slice none 0 0)) (by kernel_rfl) rfl
theorem el_43 : ElOf Try.prog 43 6 64 := el_of (z := .agg #[.int .i64 0, .int .i64 0, .string (ByteArray.mk #[]), .string (ByteArray.mk #[]), .int .u64 0, .int .u64 0]) (by kernel_rfl) rfl
theorem sc_31 : ScOf Try.prog 31 := sc_of Try.underlying31 rfl (by kernel_rfl)
theorem fa_43_0 : FaOf Try.prog 43 0 0 := fa_of (sz := 0) Try.underlying43 rfl rfl (by kernel_rfl)
theorem sc_3 : ScOf Try.prog 3 := sc_of Try.underlying3 rfl (by kernel_rfl)
theorem fa_43_1 : FaOf Try.prog 43 1 1 := fa_of (sz := 0) Try.underlying43 rfl rfl (by kernel_rfl)
theorem fa_43_2 : FaOf Try.prog 43 2 2 := fa_of (sz := 0) Try.underlying43 rfl rfl (by kernel_rfl)
theorem sc_9 : ScOf Try.prog 9 := sc_of Try.underlying9 rfl (by kernel_rfl)
theorem fa_43_3 : FaOf Try.prog 43 3 3 := fa_of (sz := 0) Try.underlying43 rfl rfl (by kernel_rfl)
theorem fa_43_4 : FaOf Try.prog 43 4 4 := fa_of (sz := 0) Try.underlying43 rfl rfl (by kernel_rfl)
theorem sc_41 : ScOf Try.prog 41 := sc_of Try.underlying41 rfl (by kernel_rfl)
theorem fa_43_5 : FaOf Try.prog 43 5 5 := fa_of (sz := 0) Try.underlying43 rfl rfl (by kernel_rfl)
theorem ag_43 : AgOf Try.prog 43 6 := ⟨_, Try.underlying43, rfl, by kernel_rfl⟩
theorem zr_43 : ZrOf Try.prog 43 [.int .i64 0, .int .i64 0, .string (ByteArray.mk #[]), .string (ByteArray.mk #[]), .int .u64 0, .int .u64 0] := zr_of (z := .agg #[.int .i64 0, .int .i64 0, .string (ByteArray.mk #[]), .string (ByteArray.mk #[]), .int .u64 0, .int .u64 0]) (by kernel_rfl) rfl
theorem fn_59 : FnOf Try.prog 59 := ⟨_, Try.func59, by kernel_rfl, rfl⟩
theorem fo : Try.prog.follows .mixedOrders = true := by kernel_rfl
theorem fa_28_7 : FaOf Try.prog 28 7 9 := fa_of (sz := 0) Try.underlying28 rfl rfl (by kernel_rfl)
theorem fa_28_8 : FaOf Try.prog 28 8 10 := fa_of (sz := 0) Try.underlying28 rfl rfl (by kernel_rfl)
theorem fa_28_9 : FaOf Try.prog 28 9 11 := fa_of (sz := 0) Try.underlying28 rfl rfl (by kernel_rfl)
theorem fa_28_5 : FaOf Try.prog 28 5 7 := fa_of (sz := 0) Try.underlying28 rfl rfl (by kernel_rfl)
theorem fa_28_4 : FaOf Try.prog 28 4 6 := fa_of (sz := 0) Try.underlying28 rfl rfl (by kernel_rfl)
theorem ag_28 : AgOf Try.prog 28 16 := ⟨_, Try.underlying28, rfl, by kernel_rfl⟩
theorem fn_50 : FnOf Try.prog 50 := ⟨_, Try.func50, by kernel_rfl, rfl⟩
theorem fn_39 : FnOf Try.prog 39 := ⟨_, Try.func39, by kernel_rfl, rfl⟩
theorem fn_47 : FnOf Try.prog 47 := ⟨_, Try.func47, by kernel_rfl, rfl⟩
theorem fn_22 : FnOf Try.prog 22 := ⟨_, Try.func22, by kernel_rfl, rfl⟩
theorem fn_38 : FnOf Try.prog 38 := ⟨_, Try.func38, by kernel_rfl, rfl⟩
theorem fn_37 : FnOf Try.prog 37 := ⟨_, Try.func37, by kernel_rfl, rfl⟩
theorem el_3 : ElOf Try.prog 3 1 8 := el_of (z := .int .i64 0) (by kernel_rfl) rfl
theorem zr_9 : ZrOf Try.prog 9 [.string (ByteArray.mk #[])] := zr_of (z := .string (ByteArray.mk #[])) (by kernel_rfl) rfl
theorem el_9 : ElOf Try.prog 9 1 16 := el_of (z := .string (ByteArray.mk #[])) (by kernel_rfl) rfl
theorem fn_51 : FnOf Try.prog 51 := ⟨_, Try.func51, by kernel_rfl, rfl⟩
theorem fn_41 : FnOf Try.prog 41 := ⟨_, Try.func41, by kernel_rfl, rfl⟩
theorem fn_67 : FnOf Try.prog 67 := ⟨_, Try.func67, by kernel_rfl, rfl⟩
theorem fn_14 : FnOf Try.prog 14 := ⟨_, Try.func14, by kernel_rfl, rfl⟩
theorem fn_52 : FnOf Try.prog 52 := ⟨_, Try.func52, by kernel_rfl, rfl⟩
theorem fn_53 : FnOf Try.prog 53 := ⟨_, Try.func53, by kernel_rfl, rfl⟩
theorem zr_33 : ZrOf Try.prog 33 [.int .i64 0, (.slice none 0 0), (.slice none 0 0), .bool false] := zr_of (z := .agg #[.int .i64 0, (.slice none 0 0), (.slice none 0 0), .bool false]) (by kernel_rfl) rfl
theorem ag_33 : AgOf Try.prog 33 4 := ⟨_, Try.underlying33, rfl, by kernel_rfl⟩
theorem fn_13 : FnOf Try.prog 13 := ⟨_, Try.func13, by kernel_rfl, rfl⟩
theorem fn_25 : FnOf Try.prog 25 := ⟨_, Try.func25, by kernel_rfl, rfl⟩
theorem fn_28 : FnOf Try.prog 28 := ⟨_, Try.func28, by kernel_rfl, rfl⟩
theorem fn_26 : FnOf Try.prog 26 := ⟨_, Try.func26, by kernel_rfl, rfl⟩
theorem fn_29 : FnOf Try.prog 29 := ⟨_, Try.func29, by kernel_rfl, rfl⟩
theorem fn_27 : FnOf Try.prog 27 := ⟨_, Try.func27, by kernel_rfl, rfl⟩
theorem fn_24 : FnOf Try.prog 24 := ⟨_, Try.func24, by kernel_rfl, rfl⟩
theorem fn_23 : FnOf Try.prog 23 := ⟨_, Try.func23, by kernel_rfl, rfl⟩
theorem zr_28 : ZrOf Try.prog 28 [.int .i64 0, .int .i64 0, .int .i64 0, .int .i64 0, .int .i64 0, .int .i64 0, .int .i64 0, .int .i64 0, .int .i64 0, .int .i64 0, .int .i64 0, .int .i64 0, .int .i64 0, .int .i64 0, .int .i64 0, (.slice none 0 0)] := zr_of (z := .agg #[.int .i64 0, .int .i64 0, .int .i64 0, .int .i64 0, .int .i64 0, .int .i64 0, .int .i64 0, .int .i64 0, .int .i64 0, .int .i64 0, .int .i64 0, .int .i64 0, .int .i64 0, .int .i64 0, .int .i64 0, (.slice none 0 0)]) (by kernel_rfl) rfl
theorem fa_33_0 : FaOf Try.prog 33 0 0 := fa_of (sz := 0) Try.underlying33 rfl rfl (by kernel_rfl)
theorem fa_33_1 : FaOf Try.prog 33 1 1 := fa_of (sz := 0) Try.underlying33 rfl rfl (by kernel_rfl)
theorem fa_33_2 : FaOf Try.prog 33 2 2 := fa_of (sz := 0) Try.underlying33 rfl rfl (by kernel_rfl)
theorem fa_33_3 : FaOf Try.prog 33 3 3 := fa_of (sz := 0) Try.underlying33 rfl rfl (by kernel_rfl)
theorem sc_4 : ScOf Try.prog 4 := sc_of Try.underlying4 rfl (by kernel_rfl)
theorem fn_8 : FnOf Try.prog 8 := ⟨_, Try.func8, by kernel_rfl, rfl⟩
theorem fn_36 : FnOf Try.prog 36 := ⟨_, Try.func36, by kernel_rfl, rfl⟩
theorem fn_10 : FnOf Try.prog 10 := ⟨_, Try.func10, by kernel_rfl, rfl⟩
theorem zr_54 : ZrOf Try.prog 54 [.int .i64 0, .int .i64 0, .int .u64 0, (.slice none 0 0), (.slice none 0 0)] := zr_of (z := .agg #[.int .i64 0, .int .i64 0, .int .u64 0, (.slice none 0 0), (.slice none 0 0)]) (by kernel_rfl) rfl
theorem ag_54 : AgOf Try.prog 54 5 := ⟨_, Try.underlying54, rfl, by kernel_rfl⟩
theorem el_64 : ElOf Try.prog 64 2 16 := el_of (z := .agg #[.int .i64 0, .int .i64 0]) (by kernel_rfl) rfl
theorem el_76 : ElOf Try.prog 76 7 72 := el_of (z := .agg #[.int .i64 0, .int .i64 0, .int .i64 0, .string (ByteArray.mk #[]), .string (ByteArray.mk #[]), .int .u64 0, .int .u64 0]) (by kernel_rfl) rfl
theorem fn_60 : FnOf Try.prog 60 := ⟨_, Try.func60, by kernel_rfl, rfl⟩
theorem zr_31 : ZrOf Try.prog 31 [(.slice none 0 0)] := zr_of (z := (.slice none 0 0)) (by kernel_rfl) rfl
theorem fa_64_1 : FaOf Try.prog 64 1 1 := fa_of (sz := 0) Try.underlying64 rfl rfl (by kernel_rfl)
theorem fn_73 : FnOf Try.prog 73 := ⟨_, Try.func73, by kernel_rfl, rfl⟩
theorem fn_74 : FnOf Try.prog 74 := ⟨_, Try.func74, by kernel_rfl, rfl⟩
theorem fn_63 : FnOf Try.prog 63 := ⟨_, Try.func63, by kernel_rfl, rfl⟩
theorem fn_64 : FnOf Try.prog 64 := ⟨_, Try.func64, by kernel_rfl, rfl⟩
theorem fn_99 : FnOf Try.prog 99 := ⟨_, Try.func99, by kernel_rfl, rfl⟩
theorem fn_93 : FnOf Try.prog 93 := ⟨_, Try.func93, by kernel_rfl, rfl⟩
theorem fn_80 : FnOf Try.prog 80 := ⟨_, Try.func80, by kernel_rfl, rfl⟩
theorem fn_79 : FnOf Try.prog 79 := ⟨_, Try.func79, by kernel_rfl, rfl⟩
theorem fn_72 : FnOf Try.prog 72 := ⟨_, Try.func72, by kernel_rfl, rfl⟩
theorem fn_62 : FnOf Try.prog 62 := ⟨_, Try.func62, by kernel_rfl, rfl⟩
theorem fn_61 : FnOf Try.prog 61 := ⟨_, Try.func61, by kernel_rfl, rfl⟩
theorem fa_54_3 : FaOf Try.prog 54 3 3 := fa_of (sz := 0) Try.underlying54 rfl rfl (by kernel_rfl)
theorem sc_51 : ScOf Try.prog 51 := sc_of Try.underlying51 rfl (by kernel_rfl)
theorem ag_64 : AgOf Try.prog 64 2 := ⟨_, Try.underlying64, rfl, by kernel_rfl⟩
theorem zr_64 : ZrOf Try.prog 64 [.int .i64 0, .int .i64 0] := zr_of (z := .agg #[.int .i64 0, .int .i64 0]) (by kernel_rfl) rfl
theorem fa_64_0 : FaOf Try.prog 64 0 0 := fa_of (sz := 0) Try.underlying64 rfl rfl (by kernel_rfl)
theorem fn_42 : FnOf Try.prog 42 := ⟨_, Try.func42, by kernel_rfl, rfl⟩
theorem fn_43 : FnOf Try.prog 43 := ⟨_, Try.func43, by kernel_rfl, rfl⟩
theorem fa_54_4 : FaOf Try.prog 54 4 4 := fa_of (sz := 0) Try.underlying54 rfl rfl (by kernel_rfl)
theorem sc_52 : ScOf Try.prog 52 := sc_of Try.underlying52 rfl (by kernel_rfl)
theorem ag_76 : AgOf Try.prog 76 7 := ⟨_, Try.underlying76, rfl, by kernel_rfl⟩
theorem zr_76 : ZrOf Try.prog 76 [.int .i64 0, .int .i64 0, .int .i64 0, .string (ByteArray.mk #[]), .string (ByteArray.mk #[]), .int .u64 0, .int .u64 0] := zr_of (z := .agg #[.int .i64 0, .int .i64 0, .int .i64 0, .string (ByteArray.mk #[]), .string (ByteArray.mk #[]), .int .u64 0, .int .u64 0]) (by kernel_rfl) rfl
theorem fa_76_0 : FaOf Try.prog 76 0 0 := fa_of (sz := 0) Try.underlying76 rfl rfl (by kernel_rfl)
theorem fa_76_1 : FaOf Try.prog 76 1 1 := fa_of (sz := 5) Try.underlying76 rfl rfl (by kernel_rfl)
theorem fn_44 : FnOf Try.prog 44 := ⟨_, Try.func44, by kernel_rfl, rfl⟩
theorem fn_40 : FnOf Try.prog 40 := ⟨_, Try.func40, by kernel_rfl, rfl⟩
theorem fn_91 : FnOf Try.prog 91 := ⟨_, Try.func91, by kernel_rfl, rfl⟩
theorem fn_87 : FnOf Try.prog 87 := ⟨_, Try.func87, by kernel_rfl, rfl⟩
theorem fn_94 : FnOf Try.prog 94 := ⟨_, Try.func94, by kernel_rfl, rfl⟩
theorem fn_76 : FnOf Try.prog 76 := ⟨_, Try.func76, by kernel_rfl, rfl⟩
theorem sc_120 : ScOf Try.prog 120 := sc_of Try.underlying120 rfl (by kernel_rfl)
theorem zr_120 : ZrOf Try.prog 120 [.int .u64 0] := zr_of (z := .int .u64 0) (by kernel_rfl) rfl
theorem fn_96 : FnOf Try.prog 96 := ⟨_, Try.func96, by kernel_rfl, rfl⟩
theorem fn_95 : FnOf Try.prog 95 := ⟨_, Try.func95, by kernel_rfl, rfl⟩
theorem fn_100 : FnOf Try.prog 100 := ⟨_, Try.func100, by kernel_rfl, rfl⟩
theorem fn_98 : FnOf Try.prog 98 := ⟨_, Try.func98, by kernel_rfl, rfl⟩
theorem zr_3 : ZrOf Try.prog 3 [.int .i64 0] := zr_of (z := .int .i64 0) (by kernel_rfl) rfl
theorem fn_97 : FnOf Try.prog 97 := ⟨_, Try.func97, by kernel_rfl, rfl⟩
theorem fn_81 : FnOf Try.prog 81 := ⟨_, Try.func81, by kernel_rfl, rfl⟩
theorem fn_82 : FnOf Try.prog 82 := ⟨_, Try.func82, by kernel_rfl, rfl⟩
theorem fn_83 : FnOf Try.prog 83 := ⟨_, Try.func83, by kernel_rfl, rfl⟩
theorem fn_85 : FnOf Try.prog 85 := ⟨_, Try.func85, by kernel_rfl, rfl⟩
theorem fn_86 : FnOf Try.prog 86 := ⟨_, Try.func86, by kernel_rfl, rfl⟩
theorem fn_88 : FnOf Try.prog 88 := ⟨_, Try.func88, by kernel_rfl, rfl⟩
theorem fn_75 : FnOf Try.prog 75 := ⟨_, Try.func75, by kernel_rfl, rfl⟩
theorem fn_89 : FnOf Try.prog 89 := ⟨_, Try.func89, by kernel_rfl, rfl⟩
theorem fn_84 : FnOf Try.prog 84 := ⟨_, Try.func84, by kernel_rfl, rfl⟩
theorem fn_65 : FnOf Try.prog 65 := ⟨_, Try.func65, by kernel_rfl, rfl⟩
theorem fn_45 : FnOf Try.prog 45 := ⟨_, Try.func45, by kernel_rfl, rfl⟩
theorem zr_51 : ZrOf Try.prog 51 [(.slice none 0 0)] := zr_of (z := (.slice none 0 0)) (by kernel_rfl) rfl
theorem fn_46 : FnOf Try.prog 46 := ⟨_, Try.func46, by kernel_rfl, rfl⟩
theorem fn_66 : FnOf Try.prog 66 := ⟨_, Try.func66, by kernel_rfl, rfl⟩
theorem fn_48 : FnOf Try.prog 48 := ⟨_, Try.func48, by kernel_rfl, rfl⟩
theorem fn_49 : FnOf Try.prog 49 := ⟨_, Try.func49, by kernel_rfl, rfl⟩
theorem fv_54_3 : FvOf Try.prog 54 3 3 none := fv_sc (n := 1) Try.underlying54 rfl rfl Try.underlying51 rfl (by kernel_rfl)
theorem fn_17 : FnOf Try.prog 17 := ⟨_, Try.func17, by kernel_rfl, rfl⟩
theorem fn_19 : FnOf Try.prog 19 := ⟨_, Try.func19, by kernel_rfl, rfl⟩
theorem fn_21 : FnOf Try.prog 21 := ⟨_, Try.func21, by kernel_rfl, rfl⟩
theorem fn_20 : FnOf Try.prog 20 := ⟨_, Try.func20, by kernel_rfl, rfl⟩
theorem fn_18 : FnOf Try.prog 18 := ⟨_, Try.func18, by kernel_rfl, rfl⟩
theorem eqn_43 (n : Nat) (x y : File) (w : World) : (Op.equalIn (n + 2) 43 (.agg (File.enc x).toArray) (.agg (File.enc y).toArray)).run Try.prog w = .ok (File.eqb x y) w := eqA_of Try.underlying43 (by kernel_rfl) (fun w => eqf_step rfl Try.underlying3 rfl rfl rfl (fun w => eqIn_int _ _ _ _ Try.underlying3 w) (eqf_step rfl Try.underlying3 rfl rfl rfl (fun w => eqIn_int _ _ _ _ Try.underlying3 w) (eqf_step rfl Try.underlying9 rfl rfl rfl (fun w => eqIn_str _ _ _ _ Try.underlying9 w) (eqf_step rfl Try.underlying9 rfl rfl rfl (fun w => eqIn_str _ _ _ _ Try.underlying9 w) (eqf_step rfl Try.underlying41 rfl rfl rfl (fun w => eqIn_int _ _ _ _ Try.underlying41 w) (eqf_step rfl Try.underlying41 rfl rfl rfl (fun w => eqIn_int _ _ _ _ Try.underlying41 w) (eqf_nil))))))) w
theorem eqof_43 : EqOf Try.prog 43 File.enc File.eqb := ⟨by kernel_rfl, fun x y w => eqn_43 9998 x y w⟩
end Go.Proofs.Ytckjpkecipgeiaa.Mo
