/- Printed by gen.py: kinds of data; facts on types and functions of the translation. -/
import Derived.Test.YtbbepmmelpabbaaVerTw
import Derived.Test.YtbbepmmelpabbaaProg
set_option linter.unusedVariables false
set_option linter.unusedSectionVars false
set_option linter.unusedSimpArgs false
set_option maxRecDepth 100000
namespace Go.Proofs.Ytbbepmmelpabbaa.Mo
open Go Go.Proofs.Ytbbepmmelpabbaa.Sy
open Go.Proofs
def k_File : Kd File := Kd.flat 6 File.enc (fun _ => rfl) (fun x u hu => by simp only [File.enc, List.mem_cons, List.not_mem_nil, or_false] at hu; rcases hu with h | h | h | h | h | h <;> subst h <;> rfl)
def k_Place : Kd Place := Kd.flat 2 Place.enc (fun _ => rfl) (fun x u hu => by simp only [Place.enc, List.mem_cons, List.not_mem_nil, or_false] at hu; rcases hu with h | h <;> subst h <;> rfl)
def k_Added : Kd Added := Kd.flat 7 Added.enc (fun _ => rfl) (fun x u hu => by simp only [Added.enc, List.mem_cons, List.not_mem_nil, or_false] at hu; rcases hu with h | h | h | h | h | h | h <;> subst h <;> rfl)
def k_Edit : Kd Edit := Kd.iso (Kd.pair (Kd.int .i64) (Kd.pair (Kd.int .i64) (Kd.pair (Kd.int .u64) (Kd.pair (Kd.slice 41 k_Place) (Kd.slice 45 k_Added))))) (fun x => (x.Log, x.Next, x.Seq, x.Gone, x.Come))
def k_L16_Ask : Kd L16_Ask := Kd.flat 4 L16_Ask.enc (fun _ => rfl) (fun x u hu => by simp only [L16_Ask.enc, List.mem_cons, List.not_mem_nil, or_false] at hu; rcases hu with h | h | h | h <;> subst h <;> rfl)
theorem el_39 : ElOf Try.prog 39 1 24 := el_of (z := (.slice none 0 0)) (by kernel_rfl) rfl
theorem el_43 : ElOf Try.prog 43 6 64 := el_of (z := .agg #[.int .i64 0, .int .i64 0, .string (ByteArray.mk #[]), .string (ByteArray.mk #[]), .int .u64 0, .int .u64 0]) (by kernel_rfl) rfl
theorem sc_39 : ScOf Try.prog 39 := sc_of Try.underlying39 rfl (by kernel_rfl)
theorem fa_43_0 : FaOf Try.prog 43 0 0 := fa_of (sz := 0) Try.underlying43 rfl rfl (by kernel_rfl)
theorem sc_3 : ScOf Try.prog 3 := sc_of Try.underlying3 rfl (by kernel_rfl)
theorem fa_43_1 : FaOf Try.prog 43 1 1 := fa_of (sz := 0) Try.underlying43 rfl rfl (by kernel_rfl)
theorem fa_43_2 : FaOf Try.prog 43 2 2 := fa_of (sz := 0) Try.underlying43 rfl rfl (by kernel_rfl)
theorem sc_9 : ScOf Try.prog 9 := sc_of Try.underlying9 rfl (by kernel_rfl)
theorem fa_43_3 : FaOf Try.prog 43 3 3 := fa_of (sz := 0) Try.underlying43 rfl rfl (by kernel_rfl)
theorem fa_43_4 : FaOf Try.prog 43 4 4 := fa_of (sz := 0) Try.underlying43 rfl rfl (by kernel_rfl)
theorem sc_24 : ScOf Try.prog 24 := sc_of Try.underlying24 rfl (by kernel_rfl)
theorem fa_43_5 : FaOf Try.prog 43 5 5 := fa_of (sz := 0) Try.underlying43 rfl rfl (by kernel_rfl)
theorem ag_43 : AgOf Try.prog 43 6 := ⟨_, Try.underlying43, rfl, by kernel_rfl⟩
theorem zr_43 : ZrOf Try.prog 43 [.int .i64 0, .int .i64 0, .string (ByteArray.mk #[]), .string (ByteArray.mk #[]), .int .u64 0, .int .u64 0] := zr_of (z := .agg #[.int .i64 0, .int .i64 0, .string (ByteArray.mk #[]), .string (ByteArray.mk #[]), .int .u64 0, .int .u64 0]) (by kernel_rfl) rfl
theorem fn_37 : FnOf Try.prog 37 := ⟨_, Try.func37, by kernel_rfl, rfl⟩
theorem fo : Try.prog.follows .mixedOrders = true := by kernel_rfl
theorem el_3 : ElOf Try.prog 3 1 8 := el_of (z := .int .i64 0) (by kernel_rfl) rfl
theorem fn_58 : FnOf Try.prog 58 := ⟨_, Try.func58, by kernel_rfl, rfl⟩
theorem fn_38 : FnOf Try.prog 38 := ⟨_, Try.func38, by kernel_rfl, rfl⟩
theorem fn_39 : FnOf Try.prog 39 := ⟨_, Try.func39, by kernel_rfl, rfl⟩
theorem fn_59 : FnOf Try.prog 59 := ⟨_, Try.func59, by kernel_rfl, rfl⟩
theorem zr_39 : ZrOf Try.prog 39 [(.slice none 0 0)] := zr_of (z := (.slice none 0 0)) (by kernel_rfl) rfl
theorem fa_41_1 : FaOf Try.prog 41 1 1 := fa_of (sz := 0) Try.underlying41 rfl rfl (by kernel_rfl)
theorem fn_68 : FnOf Try.prog 68 := ⟨_, Try.func68, by kernel_rfl, rfl⟩
theorem fn_69 : FnOf Try.prog 69 := ⟨_, Try.func69, by kernel_rfl, rfl⟩
theorem fn_62 : FnOf Try.prog 62 := ⟨_, Try.func62, by kernel_rfl, rfl⟩
theorem fn_63 : FnOf Try.prog 63 := ⟨_, Try.func63, by kernel_rfl, rfl⟩
theorem fn_90 : FnOf Try.prog 90 := ⟨_, Try.func90, by kernel_rfl, rfl⟩
theorem fn_88 : FnOf Try.prog 88 := ⟨_, Try.func88, by kernel_rfl, rfl⟩
theorem fn_82 : FnOf Try.prog 82 := ⟨_, Try.func82, by kernel_rfl, rfl⟩
theorem fn_81 : FnOf Try.prog 81 := ⟨_, Try.func81, by kernel_rfl, rfl⟩
theorem fn_67 : FnOf Try.prog 67 := ⟨_, Try.func67, by kernel_rfl, rfl⟩
theorem fn_61 : FnOf Try.prog 61 := ⟨_, Try.func61, by kernel_rfl, rfl⟩
theorem fn_60 : FnOf Try.prog 60 := ⟨_, Try.func60, by kernel_rfl, rfl⟩
theorem fn_12 : FnOf Try.prog 12 := ⟨_, Try.func12, by kernel_rfl, rfl⟩
theorem fa_28_3 : FaOf Try.prog 28 3 3 := fa_of (sz := 0) Try.underlying28 rfl rfl (by kernel_rfl)
theorem sc_25 : ScOf Try.prog 25 := sc_of Try.underlying25 rfl (by kernel_rfl)
theorem ag_41 : AgOf Try.prog 41 2 := ⟨_, Try.underlying41, rfl, by kernel_rfl⟩
theorem zr_41 : ZrOf Try.prog 41 [.int .i64 0, .int .i64 0] := zr_of (z := .agg #[.int .i64 0, .int .i64 0]) (by kernel_rfl) rfl
theorem fa_41_0 : FaOf Try.prog 41 0 0 := fa_of (sz := 0) Try.underlying41 rfl rfl (by kernel_rfl)
theorem fn_42 : FnOf Try.prog 42 := ⟨_, Try.func42, by kernel_rfl, rfl⟩
theorem fn_43 : FnOf Try.prog 43 := ⟨_, Try.func43, by kernel_rfl, rfl⟩
theorem fn_41 : FnOf Try.prog 41 := ⟨_, Try.func41, by kernel_rfl, rfl⟩
theorem el_41 : ElOf Try.prog 41 2 16 := el_of (z := .agg #[.int .i64 0, .int .i64 0]) (by kernel_rfl) rfl
theorem fa_28_4 : FaOf Try.prog 28 4 4 := fa_of (sz := 0) Try.underlying28 rfl rfl (by kernel_rfl)
theorem sc_26 : ScOf Try.prog 26 := sc_of Try.underlying26 rfl (by kernel_rfl)
theorem ag_45 : AgOf Try.prog 45 7 := ⟨_, Try.underlying45, rfl, by kernel_rfl⟩
theorem zr_45 : ZrOf Try.prog 45 [.int .i64 0, .int .i64 0, .int .i64 0, .string (ByteArray.mk #[]), .string (ByteArray.mk #[]), .int .u64 0, .int .u64 0] := zr_of (z := .agg #[.int .i64 0, .int .i64 0, .int .i64 0, .string (ByteArray.mk #[]), .string (ByteArray.mk #[]), .int .u64 0, .int .u64 0]) (by kernel_rfl) rfl
theorem fa_45_0 : FaOf Try.prog 45 0 0 := fa_of (sz := 0) Try.underlying45 rfl rfl (by kernel_rfl)
theorem fa_45_1 : FaOf Try.prog 45 1 1 := fa_of (sz := 5) Try.underlying45 rfl rfl (by kernel_rfl)
theorem el_45 : ElOf Try.prog 45 7 72 := el_of (z := .agg #[.int .i64 0, .int .i64 0, .int .i64 0, .string (ByteArray.mk #[]), .string (ByteArray.mk #[]), .int .u64 0, .int .u64 0]) (by kernel_rfl) rfl
theorem fn_44 : FnOf Try.prog 44 := ⟨_, Try.func44, by kernel_rfl, rfl⟩
theorem fn_40 : FnOf Try.prog 40 := ⟨_, Try.func40, by kernel_rfl, rfl⟩
theorem fn_13 : FnOf Try.prog 13 := ⟨_, Try.func13, by kernel_rfl, rfl⟩
theorem fn_45 : FnOf Try.prog 45 := ⟨_, Try.func45, by kernel_rfl, rfl⟩
theorem fn_10 : FnOf Try.prog 10 := ⟨_, Try.func10, by kernel_rfl, rfl⟩
theorem fa_28_0 : FaOf Try.prog 28 0 0 := fa_of (sz := 0) Try.underlying28 rfl rfl (by kernel_rfl)
theorem fa_28_1 : FaOf Try.prog 28 1 1 := fa_of (sz := 0) Try.underlying28 rfl rfl (by kernel_rfl)
theorem fa_28_2 : FaOf Try.prog 28 2 2 := fa_of (sz := 0) Try.underlying28 rfl rfl (by kernel_rfl)
theorem zr_28 : ZrOf Try.prog 28 [.int .i64 0, .int .i64 0, .int .u64 0, (.slice none 0 0), (.slice none 0 0)] := zr_of (z := .agg #[.int .i64 0, .int .i64 0, .int .u64 0, (.slice none 0 0), (.slice none 0 0)]) (by kernel_rfl) rfl
theorem ag_28 : AgOf Try.prog 28 5 := ⟨_, Try.underlying28, rfl, by kernel_rfl⟩
theorem fn_16 : FnOf Try.prog 16 := ⟨_, Try.func16, by kernel_rfl, rfl⟩
theorem fn_17 : FnOf Try.prog 17 := ⟨_, Try.func17, by kernel_rfl, rfl⟩
theorem fn_15 : FnOf Try.prog 15 := ⟨_, Try.func15, by kernel_rfl, rfl⟩
theorem fn_14 : FnOf Try.prog 14 := ⟨_, Try.func14, by kernel_rfl, rfl⟩
theorem fn_11 : FnOf Try.prog 11 := ⟨_, Try.func11, by kernel_rfl, rfl⟩
theorem fn_47 : FnOf Try.prog 47 := ⟨_, Try.func47, by kernel_rfl, rfl⟩
theorem fn_46 : FnOf Try.prog 46 := ⟨_, Try.func46, by kernel_rfl, rfl⟩
theorem zr_25 : ZrOf Try.prog 25 [(.slice none 0 0)] := zr_of (z := (.slice none 0 0)) (by kernel_rfl) rfl
theorem fn_48 : FnOf Try.prog 48 := ⟨_, Try.func48, by kernel_rfl, rfl⟩
theorem fn_64 : FnOf Try.prog 64 := ⟨_, Try.func64, by kernel_rfl, rfl⟩
theorem fn_49 : FnOf Try.prog 49 := ⟨_, Try.func49, by kernel_rfl, rfl⟩
theorem fn_50 : FnOf Try.prog 50 := ⟨_, Try.func50, by kernel_rfl, rfl⟩
theorem fn_52 : FnOf Try.prog 52 := ⟨_, Try.func52, by kernel_rfl, rfl⟩
theorem fn_51 : FnOf Try.prog 51 := ⟨_, Try.func51, by kernel_rfl, rfl⟩
theorem fn_80 : FnOf Try.prog 80 := ⟨_, Try.func80, by kernel_rfl, rfl⟩
theorem fn_76 : FnOf Try.prog 76 := ⟨_, Try.func76, by kernel_rfl, rfl⟩
theorem fn_83 : FnOf Try.prog 83 := ⟨_, Try.func83, by kernel_rfl, rfl⟩
theorem fn_66 : FnOf Try.prog 66 := ⟨_, Try.func66, by kernel_rfl, rfl⟩
theorem sc_107 : ScOf Try.prog 107 := sc_of Try.underlying107 rfl (by kernel_rfl)
theorem zr_107 : ZrOf Try.prog 107 [.int .u64 0] := zr_of (z := .int .u64 0) (by kernel_rfl) rfl
theorem fn_85 : FnOf Try.prog 85 := ⟨_, Try.func85, by kernel_rfl, rfl⟩
theorem fn_84 : FnOf Try.prog 84 := ⟨_, Try.func84, by kernel_rfl, rfl⟩
theorem fn_89 : FnOf Try.prog 89 := ⟨_, Try.func89, by kernel_rfl, rfl⟩
theorem fn_87 : FnOf Try.prog 87 := ⟨_, Try.func87, by kernel_rfl, rfl⟩
theorem zr_3 : ZrOf Try.prog 3 [.int .i64 0] := zr_of (z := .int .i64 0) (by kernel_rfl) rfl
theorem fn_86 : FnOf Try.prog 86 := ⟨_, Try.func86, by kernel_rfl, rfl⟩
theorem fn_70 : FnOf Try.prog 70 := ⟨_, Try.func70, by kernel_rfl, rfl⟩
theorem fn_71 : FnOf Try.prog 71 := ⟨_, Try.func71, by kernel_rfl, rfl⟩
theorem fn_72 : FnOf Try.prog 72 := ⟨_, Try.func72, by kernel_rfl, rfl⟩
theorem fn_74 : FnOf Try.prog 74 := ⟨_, Try.func74, by kernel_rfl, rfl⟩
theorem fn_75 : FnOf Try.prog 75 := ⟨_, Try.func75, by kernel_rfl, rfl⟩
theorem fn_77 : FnOf Try.prog 77 := ⟨_, Try.func77, by kernel_rfl, rfl⟩
theorem fn_65 : FnOf Try.prog 65 := ⟨_, Try.func65, by kernel_rfl, rfl⟩
theorem fn_78 : FnOf Try.prog 78 := ⟨_, Try.func78, by kernel_rfl, rfl⟩
theorem fn_73 : FnOf Try.prog 73 := ⟨_, Try.func73, by kernel_rfl, rfl⟩
theorem fn_54 : FnOf Try.prog 54 := ⟨_, Try.func54, by kernel_rfl, rfl⟩
theorem fn_27 : FnOf Try.prog 27 := ⟨_, Try.func27, by kernel_rfl, rfl⟩
theorem fn_31 : FnOf Try.prog 31 := ⟨_, Try.func31, by kernel_rfl, rfl⟩
theorem fn_18 : FnOf Try.prog 18 := ⟨_, Try.func18, by kernel_rfl, rfl⟩
theorem fn_19 : FnOf Try.prog 19 := ⟨_, Try.func19, by kernel_rfl, rfl⟩
theorem fn_53 : FnOf Try.prog 53 := ⟨_, Try.func53, by kernel_rfl, rfl⟩
theorem fa_48_0 : FaOf Try.prog 48 0 0 := fa_of (sz := 0) Try.underlying48 rfl rfl (by kernel_rfl)
theorem fa_48_1 : FaOf Try.prog 48 1 1 := fa_of (sz := 0) Try.underlying48 rfl rfl (by kernel_rfl)
theorem fa_48_2 : FaOf Try.prog 48 2 2 := fa_of (sz := 0) Try.underlying48 rfl rfl (by kernel_rfl)
theorem fa_48_3 : FaOf Try.prog 48 3 3 := fa_of (sz := 0) Try.underlying48 rfl rfl (by kernel_rfl)
theorem fn_22 : FnOf Try.prog 22 := ⟨_, Try.func22, by kernel_rfl, rfl⟩
theorem fn_23 : FnOf Try.prog 23 := ⟨_, Try.func23, by kernel_rfl, rfl⟩
theorem fn_21 : FnOf Try.prog 21 := ⟨_, Try.func21, by kernel_rfl, rfl⟩
theorem fn_20 : FnOf Try.prog 20 := ⟨_, Try.func20, by kernel_rfl, rfl⟩
theorem fn_24 : FnOf Try.prog 24 := ⟨_, Try.func24, by kernel_rfl, rfl⟩
theorem fn_30 : FnOf Try.prog 30 := ⟨_, Try.func30, by kernel_rfl, rfl⟩
theorem fn_29 : FnOf Try.prog 29 := ⟨_, Try.func29, by kernel_rfl, rfl⟩
theorem fn_32 : FnOf Try.prog 32 := ⟨_, Try.func32, by kernel_rfl, rfl⟩
theorem fn_33 : FnOf Try.prog 33 := ⟨_, Try.func33, by kernel_rfl, rfl⟩
theorem fn_28 : FnOf Try.prog 28 := ⟨_, Try.func28, by kernel_rfl, rfl⟩
theorem fn_26 : FnOf Try.prog 26 := ⟨_, Try.func26, by kernel_rfl, rfl⟩
theorem fn_25 : FnOf Try.prog 25 := ⟨_, Try.func25, by kernel_rfl, rfl⟩
theorem fn_57 : FnOf Try.prog 57 := ⟨_, Try.func57, by kernel_rfl, rfl⟩
theorem fn_55 : FnOf Try.prog 55 := ⟨_, Try.func55, by kernel_rfl, rfl⟩
theorem fn_56 : FnOf Try.prog 56 := ⟨_, Try.func56, by kernel_rfl, rfl⟩
theorem fn_36 : FnOf Try.prog 36 := ⟨_, Try.func36, by kernel_rfl, rfl⟩
theorem fn_35 : FnOf Try.prog 35 := ⟨_, Try.func35, by kernel_rfl, rfl⟩
theorem fn_34 : FnOf Try.prog 34 := ⟨_, Try.func34, by kernel_rfl, rfl⟩
theorem eqn_43 (n : Nat) (x y : File) (w : World) : (Op.equalIn (n + 2) 43 (.agg (File.enc x).toArray) (.agg (File.enc y).toArray)).run Try.prog w = .ok (File.eqb x y) w := eqA_of Try.underlying43 (by kernel_rfl) (fun w => eqf_step rfl Try.underlying3 rfl rfl rfl (fun w => eqIn_int _ _ _ _ Try.underlying3 w) (eqf_step rfl Try.underlying3 rfl rfl rfl (fun w => eqIn_int _ _ _ _ Try.underlying3 w) (eqf_step rfl Try.underlying9 rfl rfl rfl (fun w => eqIn_str _ _ _ _ Try.underlying9 w) (eqf_step rfl Try.underlying9 rfl rfl rfl (fun w => eqIn_str _ _ _ _ Try.underlying9 w) (eqf_step rfl Try.underlying24 rfl rfl rfl (fun w => eqIn_int _ _ _ _ Try.underlying24 w) (eqf_step rfl Try.underlying24 rfl rfl rfl (fun w => eqIn_int _ _ _ _ Try.underlying24 w) (eqf_nil))))))) w
theorem eqof_43 : EqOf Try.prog 43 File.enc File.eqb := ⟨by kernel_rfl, fun x y w => eqn_43 9998 x y w⟩
theorem eqn_41 (n : Nat) (x y : Place) (w : World) : (Op.equalIn (n + 2) 41 (.agg (Place.enc x).toArray) (.agg (Place.enc y).toArray)).run Try.prog w = .ok (Place.eqb x y) w := eqA_of Try.underlying41 (by kernel_rfl) (fun w => eqf_step rfl Try.underlying3 rfl rfl rfl (fun w => eqIn_int _ _ _ _ Try.underlying3 w) (eqf_step rfl Try.underlying3 rfl rfl rfl (fun w => eqIn_int _ _ _ _ Try.underlying3 w) (eqf_nil))) w
theorem eqof_41 : EqOf Try.prog 41 Place.enc Place.eqb := ⟨by kernel_rfl, fun x y w => eqn_41 9998 x y w⟩
theorem eqn_45 (n : Nat) (x y : Added) (w : World) : (Op.equalIn (n + 3) 45 (.agg (Added.enc x).toArray) (.agg (Added.enc y).toArray)).run Try.prog w = .ok (Added.eqb x y) w := eqA_of Try.underlying45 (by kernel_rfl) (fun w => eqf_step rfl Try.underlying3 rfl rfl rfl (fun w => eqIn_int _ _ _ _ Try.underlying3 w) (eqf_stepA (m := 6) (us := File.enc x.File) (vs := File.enc y.File) rfl Try.underlying43 rfl (by kernel_rfl) rfl rfl (fun w => eqn_43 _ x.File y.File w) (eqf_nil))) w
theorem eqof_45 : EqOf Try.prog 45 Added.enc Added.eqb := ⟨by kernel_rfl, fun x y w => eqn_45 9997 x y w⟩
end Go.Proofs.Ytbbepmmelpabbaa.Mo
