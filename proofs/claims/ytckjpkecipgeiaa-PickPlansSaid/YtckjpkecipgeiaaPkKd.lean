/- Printed by gen.py: kinds of data; facts on types and functions of the translation. -/
import Derived.Test.YtckjpkecipgeiaaPkTw
import Derived.Test.YtckjpkecipgeiaaProg
set_option linter.unusedVariables false
set_option linter.unusedSimpArgs false
set_option maxRecDepth 100000
namespace Go.Proofs.Ytckjpkecipgeiaa.Mo
open Go Go.Proofs.Ytckjpkecipgeiaa.Sy
open Go.Proofs
def k_File : Kd File := Kd.flat 6 File.enc (fun _ => rfl) (fun x u hu => by simp only [File.enc, List.mem_cons, List.not_mem_nil, or_false] at hu; rcases hu with h | h | h | h | h | h <;> subst h <;> rfl)
def k_Shape : Kd Shape := Kd.flat 3 Shape.enc (fun _ => rfl) (fun x u hu => by simp only [Shape.enc, List.mem_cons, List.not_mem_nil, or_false] at hu; rcases hu with h | h | h <;> subst h <;> rfl)
def k_Config : Kd Config := Kd.iso (Kd.pair (Kd.int .i64) (Kd.pair (Kd.int .i64) (Kd.pair (Kd.int .i64) (Kd.pair k_Shape (Kd.pair (Kd.int .i64) (Kd.pair (Kd.int .i64) (Kd.pair (Kd.int .i64) (Kd.pair (Kd.int .i64) (Kd.pair (Kd.int .i64) (Kd.pair (Kd.int .i64) (Kd.pair (Kd.int .i64) (Kd.pair (Kd.int .i64) (Kd.pair (Kd.int .i64) (Kd.slice 3 (Kd.int .i64))))))))))))))) (fun x => (x.Block, x.Mem, x.Frozen, x.Shape, x.Cut, x.Files0, x.Stop0, x.Base, x.Ratio, x.Levels, x.Chunk, x.Roll, x.Clients, x.Heights))
def k_pick_Plan : Kd pick_Plan := Kd.iso (Kd.pair (Kd.int .i64) (Kd.pair (Kd.slice 43 k_File) (Kd.pair (Kd.slice 43 k_File) Kd.bool))) (fun x => (x.Level, x.Upper, x.Lower, x.Trivial))
def k_R22_Plan : Kd R22_Plan := Kd.iso (Kd.pair (Kd.int .i64) (Kd.pair (Kd.slice 43 k_File) (Kd.pair (Kd.slice 43 k_File) Kd.bool))) (fun x => (x.Level, x.Upper, x.Lower, x.Trivial))
theorem el_31 : ElOf Try.prog 31 1 24 := el_of (z := (.slice none 0 0)) (by kernel_rfl) rfl
theorem el_43 : ElOf Try.prog 43 6 64 := el_of (z := .agg #[.int .i64 0, .int .i64 0, .string (ByteArray.mk #[]), .string (ByteArray.mk #[]), .int .u64 0, .int .u64 0]) (by kernel_rfl) rfl
theorem sc_31 : ScOf Try.prog 31 := sc_of Try.underlying31 rfl (by kernel_rfl)
theorem fa_43_0 : FaOf Try.prog 43 0 0 := fa_of (sz := 0) Try.underlying43 rfl rfl (by kernel_rfl)
theorem sc_3 : ScOf Try.prog 3 := sc_of Try.underlying3 rfl (by kernel_rfl)
theorem fa_43_1 : FaOf Try.prog 43 1 1 := fa_of (sz := 0) Try.underlying43 rfl rfl (by kernel_rfl)
theorem fa_43_2 : FaOf Try.prog 43 2 2 := fa_of (sz := 0) Try.underlying43 rfl rfl (by kernel_rfl)
theorem sc_9 : ScOf Try.prog 9 := sc_of Try.underlying9 rfl (by kernel_rfl)
theorem fa_43_3 : FaOf Try.prog 43 3 3 := fa_of (sz := 0) Try.underlying43 rfl rfl (by kernel_rfl)
theorem fa_43_4 : FaOf Try.prog 43 4 4 := fa_of (sz := 0) Try.underlying43 rfl rfl (by kernel_rfl)
theorem sc_41 : ScOf Try.prog 41 := sc_of Try.underlying41 rfl (by kernel_rfl)
theorem fa_43_5 : FaOf Try.prog 43 5 5 := fa_of (sz := 0) Try.underlying43 rfl rfl (by kernel_rfl)
theorem ag_43 : AgOf Try.prog 43 6 := ⟨_, Try.underlying43, rfl, by kernel_rfl⟩
theorem zr_43 : ZrOf Try.prog 43 [.int .i64 0, .int .i64 0, .string (ByteArray.mk #[]), .string (ByteArray.mk #[]), .int .u64 0, .int .u64 0] := zr_of (z := .agg #[.int .i64 0, .int .i64 0, .string (ByteArray.mk #[]), .string (ByteArray.mk #[]), .int .u64 0, .int .u64 0]) (by kernel_rfl) rfl
theorem fn_59 : FnOf Try.prog 59 := ⟨_, Try.func59, by kernel_rfl, rfl⟩
theorem fo : Try.prog.follows .mixedOrders = true := by kernel_rfl
theorem fa_28_7 : FaOf Try.prog 28 7 9 := fa_of (sz := 0) Try.underlying28 rfl rfl (by kernel_rfl)
theorem fa_28_8 : FaOf Try.prog 28 8 10 := fa_of (sz := 0) Try.underlying28 rfl rfl (by kernel_rfl)
theorem fa_28_9 : FaOf Try.prog 28 9 11 := fa_of (sz := 0) Try.underlying28 rfl rfl (by kernel_rfl)
theorem fa_28_5 : FaOf Try.prog 28 5 7 := fa_of (sz := 0) Try.underlying28 rfl rfl (by kernel_rfl)
theorem fa_28_4 : FaOf Try.prog 28 4 6 := fa_of (sz := 0) Try.underlying28 rfl rfl (by kernel_rfl)
theorem ag_28 : AgOf Try.prog 28 16 := ⟨_, Try.underlying28, rfl, by kernel_rfl⟩
theorem fn_50 : FnOf Try.prog 50 := ⟨_, Try.func50, by kernel_rfl, rfl⟩
theorem fn_39 : FnOf Try.prog 39 := ⟨_, Try.func39, by kernel_rfl, rfl⟩
theorem fn_47 : FnOf Try.prog 47 := ⟨_, Try.func47, by kernel_rfl, rfl⟩
theorem fn_22 : FnOf Try.prog 22 := ⟨_, Try.func22, by kernel_rfl, rfl⟩
theorem fn_38 : FnOf Try.prog 38 := ⟨_, Try.func38, by kernel_rfl, rfl⟩
theorem fn_37 : FnOf Try.prog 37 := ⟨_, Try.func37, by kernel_rfl, rfl⟩
theorem el_3 : ElOf Try.prog 3 1 8 := el_of (z := .int .i64 0) (by kernel_rfl) rfl
theorem zr_9 : ZrOf Try.prog 9 [.string (ByteArray.mk #[])] := zr_of (z := .string (ByteArray.mk #[])) (by kernel_rfl) rfl
theorem el_9 : ElOf Try.prog 9 1 16 := el_of (z := .string (ByteArray.mk #[])) (by kernel_rfl) rfl
theorem fn_51 : FnOf Try.prog 51 := ⟨_, Try.func51, by kernel_rfl, rfl⟩
theorem fn_41 : FnOf Try.prog 41 := ⟨_, Try.func41, by kernel_rfl, rfl⟩
theorem fn_67 : FnOf Try.prog 67 := ⟨_, Try.func67, by kernel_rfl, rfl⟩
theorem fn_14 : FnOf Try.prog 14 := ⟨_, Try.func14, by kernel_rfl, rfl⟩
theorem fn_52 : FnOf Try.prog 52 := ⟨_, Try.func52, by kernel_rfl, rfl⟩
theorem fn_53 : FnOf Try.prog 53 := ⟨_, Try.func53, by kernel_rfl, rfl⟩
theorem zr_33 : ZrOf Try.prog 33 [.int .i64 0, (.slice none 0 0), (.slice none 0 0), .bool false] := zr_of (z := .agg #[.int .i64 0, (.slice none 0 0), (.slice none 0 0), .bool false]) (by kernel_rfl) rfl
theorem ag_33 : AgOf Try.prog 33 4 := ⟨_, Try.underlying33, rfl, by kernel_rfl⟩
theorem fn_13 : FnOf Try.prog 13 := ⟨_, Try.func13, by kernel_rfl, rfl⟩
theorem fn_25 : FnOf Try.prog 25 := ⟨_, Try.func25, by kernel_rfl, rfl⟩
theorem fn_28 : FnOf Try.prog 28 := ⟨_, Try.func28, by kernel_rfl, rfl⟩
theorem fn_26 : FnOf Try.prog 26 := ⟨_, Try.func26, by kernel_rfl, rfl⟩
theorem fn_29 : FnOf Try.prog 29 := ⟨_, Try.func29, by kernel_rfl, rfl⟩
theorem fn_27 : FnOf Try.prog 27 := ⟨_, Try.func27, by kernel_rfl, rfl⟩
theorem fn_24 : FnOf Try.prog 24 := ⟨_, Try.func24, by kernel_rfl, rfl⟩
theorem fn_23 : FnOf Try.prog 23 := ⟨_, Try.func23, by kernel_rfl, rfl⟩
theorem fn_92 : FnOf Try.prog 92 := ⟨_, Try.func92, by kernel_rfl, rfl⟩
theorem fn_77 : FnOf Try.prog 77 := ⟨_, Try.func77, by kernel_rfl, rfl⟩
theorem fn_78 : FnOf Try.prog 78 := ⟨_, Try.func78, by kernel_rfl, rfl⟩
theorem fn_69 : FnOf Try.prog 69 := ⟨_, Try.func69, by kernel_rfl, rfl⟩
theorem fn_68 : FnOf Try.prog 68 := ⟨_, Try.func68, by kernel_rfl, rfl⟩
theorem fn_70 : FnOf Try.prog 70 := ⟨_, Try.func70, by kernel_rfl, rfl⟩
theorem fn_54 : FnOf Try.prog 54 := ⟨_, Try.func54, by kernel_rfl, rfl⟩
theorem fn_56 : FnOf Try.prog 56 := ⟨_, Try.func56, by kernel_rfl, rfl⟩
theorem fn_55 : FnOf Try.prog 55 := ⟨_, Try.func55, by kernel_rfl, rfl⟩
theorem fn_71 : FnOf Try.prog 71 := ⟨_, Try.func71, by kernel_rfl, rfl⟩
theorem fn_58 : FnOf Try.prog 58 := ⟨_, Try.func58, by kernel_rfl, rfl⟩
theorem fn_57 : FnOf Try.prog 57 := ⟨_, Try.func57, by kernel_rfl, rfl⟩
theorem zr_36 : ZrOf Try.prog 36 [.int .i64 0, (.slice none 0 0), (.slice none 0 0), .bool false] := zr_of (z := .agg #[.int .i64 0, (.slice none 0 0), (.slice none 0 0), .bool false]) (by kernel_rfl) rfl
theorem fn_30 : FnOf Try.prog 30 := ⟨_, Try.func30, by kernel_rfl, rfl⟩
theorem ag_36 : AgOf Try.prog 36 4 := ⟨_, Try.underlying36, rfl, by kernel_rfl⟩
theorem fn_32 : FnOf Try.prog 32 := ⟨_, Try.func32, by kernel_rfl, rfl⟩
theorem fn_34 : FnOf Try.prog 34 := ⟨_, Try.func34, by kernel_rfl, rfl⟩
theorem fn_33 : FnOf Try.prog 33 := ⟨_, Try.func33, by kernel_rfl, rfl⟩
theorem fn_35 : FnOf Try.prog 35 := ⟨_, Try.func35, by kernel_rfl, rfl⟩
theorem fn_31 : FnOf Try.prog 31 := ⟨_, Try.func31, by kernel_rfl, rfl⟩
theorem zr_28 : ZrOf Try.prog 28 [.int .i64 0, .int .i64 0, .int .i64 0, .int .i64 0, .int .i64 0, .int .i64 0, .int .i64 0, .int .i64 0, .int .i64 0, .int .i64 0, .int .i64 0, .int .i64 0, .int .i64 0, .int .i64 0, .int .i64 0, (.slice none 0 0)] := zr_of (z := .agg #[.int .i64 0, .int .i64 0, .int .i64 0, .int .i64 0, .int .i64 0, .int .i64 0, .int .i64 0, .int .i64 0, .int .i64 0, .int .i64 0, .int .i64 0, .int .i64 0, .int .i64 0, .int .i64 0, .int .i64 0, (.slice none 0 0)]) (by kernel_rfl) rfl
theorem fa_33_0 : FaOf Try.prog 33 0 0 := fa_of (sz := 0) Try.underlying33 rfl rfl (by kernel_rfl)
theorem fa_33_1 : FaOf Try.prog 33 1 1 := fa_of (sz := 0) Try.underlying33 rfl rfl (by kernel_rfl)
theorem fa_33_2 : FaOf Try.prog 33 2 2 := fa_of (sz := 0) Try.underlying33 rfl rfl (by kernel_rfl)
theorem fa_33_3 : FaOf Try.prog 33 3 3 := fa_of (sz := 0) Try.underlying33 rfl rfl (by kernel_rfl)
theorem sc_4 : ScOf Try.prog 4 := sc_of Try.underlying4 rfl (by kernel_rfl)
theorem fn_8 : FnOf Try.prog 8 := ⟨_, Try.func8, by kernel_rfl, rfl⟩
theorem fn_36 : FnOf Try.prog 36 := ⟨_, Try.func36, by kernel_rfl, rfl⟩
theorem fa_36_0 : FaOf Try.prog 36 0 0 := fa_of (sz := 0) Try.underlying36 rfl rfl (by kernel_rfl)
theorem fa_36_3 : FaOf Try.prog 36 3 3 := fa_of (sz := 0) Try.underlying36 rfl rfl (by kernel_rfl)
theorem fa_36_1 : FaOf Try.prog 36 1 1 := fa_of (sz := 0) Try.underlying36 rfl rfl (by kernel_rfl)
theorem fn_11 : FnOf Try.prog 11 := ⟨_, Try.func11, by kernel_rfl, rfl⟩
theorem fa_36_2 : FaOf Try.prog 36 2 2 := fa_of (sz := 0) Try.underlying36 rfl rfl (by kernel_rfl)
theorem fn_10 : FnOf Try.prog 10 := ⟨_, Try.func10, by kernel_rfl, rfl⟩
theorem fn_12 : FnOf Try.prog 12 := ⟨_, Try.func12, by kernel_rfl, rfl⟩
theorem fn_9 : FnOf Try.prog 9 := ⟨_, Try.func9, by kernel_rfl, rfl⟩
theorem fn_7 : FnOf Try.prog 7 := ⟨_, Try.func7, by kernel_rfl, rfl⟩
theorem fn_15 : FnOf Try.prog 15 := ⟨_, Try.func15, by kernel_rfl, rfl⟩
theorem fn_16 : FnOf Try.prog 16 := ⟨_, Try.func16, by kernel_rfl, rfl⟩
theorem eqn_43 (n : Nat) (x y : File) (w : World) : (Op.equalIn (n + 5) 43 (.agg (File.enc x).toArray) (.agg (File.enc y).toArray)).run Try.prog w = .ok (File.eqb x y) w := eqA_of Try.underlying43 (by kernel_rfl) (fun w => eqf_step rfl Try.underlying3 rfl rfl rfl (fun w => eqIn_int _ _ _ _ Try.underlying3 w) (eqf_step rfl Try.underlying3 rfl rfl rfl (fun w => eqIn_int _ _ _ _ Try.underlying3 w) (eqf_step rfl Try.underlying9 rfl rfl rfl (fun w => eqIn_str _ _ _ _ Try.underlying9 w) (eqf_step rfl Try.underlying9 rfl rfl rfl (fun w => eqIn_str _ _ _ _ Try.underlying9 w) (eqf_step rfl Try.underlying41 rfl rfl rfl (fun w => eqIn_int _ _ _ _ Try.underlying41 w) (eqf_step rfl Try.underlying41 rfl rfl rfl (fun w => eqIn_int _ _ _ _ Try.underlying41 w) (eqf_nil))))))) w
theorem eqof_43 : EqOf Try.prog 43 File.enc File.eqb := ⟨by kernel_rfl, fun x y w => eqn_43 9995 x y w⟩
end Go.Proofs.Ytckjpkecipgeiaa.Mo
