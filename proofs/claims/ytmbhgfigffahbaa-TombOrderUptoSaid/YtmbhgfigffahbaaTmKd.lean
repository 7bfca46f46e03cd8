import Derived.Test.YtmbhgfigffahbaaTmTw
import Derived.Test.YtmbhgfigffahbaaProg
set_option linter.unusedVariables false
set_option linter.unusedSectionVars false
set_option linter.unusedSimpArgs false
set_option maxRecDepth 100000
namespace Go.Proofs.Ytmbhgfigffahbaa.Mo
open Go Go.Proofs.Ytmbhgfigffahbaa.Sy
open Go.Proofs
def k_Tomb : Kd Tomb := Kd.flat 3 Tomb.enc (fun _ => rfl) (fun x u hu => by simp only [Tomb.enc, List.mem_cons, List.not_mem_nil, or_false] at hu; rcases hu with h | h | h <;> subst h <;> rfl)
def k_Fragment : Kd Fragment := Kd.iso (Kd.pair Kd.str (Kd.pair Kd.str (Kd.slice 23 (Kd.int .u64)))) (fun x => (x.Begin, x.End, x.Seqs))
theorem fa_30_0 : FaOf Try.prog 30 0 0 := fa_of (sz := 0) Try.underlying30 rfl rfl (by kernel_rfl)
theorem sc_9 : ScOf Try.prog 9 := sc_of Try.underlying9 rfl (by kernel_rfl)
theorem fa_30_1 : FaOf Try.prog 30 1 1 := fa_of (sz := 0) Try.underlying30 rfl rfl (by kernel_rfl)
theorem fa_30_2 : FaOf Try.prog 30 2 2 := fa_of (sz := 0) Try.underlying30 rfl rfl (by kernel_rfl)
theorem sc_23 : ScOf Try.prog 23 := sc_of Try.underlying23 rfl (by kernel_rfl)
theorem ag_30 : AgOf Try.prog 30 3 := ⟨_, Try.underlying30, rfl, by kernel_rfl⟩
theorem zr_30 : ZrOf Try.prog 30 [.string (ByteArray.mk #[]), .string (ByteArray.mk #[]), .int .u64 0] := zr_of (z := .agg #[.string (ByteArray.mk #[]), .string (ByteArray.mk #[]), .int .u64 0]) (by kernel_rfl) rfl
theorem el_30 : ElOf Try.prog 30 3 40 := el_of (z := .agg #[.string (ByteArray.mk #[]), .string (ByteArray.mk #[]), .int .u64 0]) (by kernel_rfl) rfl
theorem fn_9 : FnOf Try.prog 9 := ⟨_, Try.func9, by kernel_rfl, rfl⟩
theorem fn_19 : FnOf Try.prog 19 := ⟨_, Try.func19, by kernel_rfl, rfl⟩
theorem fo : Try.prog.follows .mixedOrders = true := by kernel_rfl
theorem fn_8 : FnOf Try.prog 8 := ⟨_, Try.func8, by kernel_rfl, rfl⟩
theorem fn_44 : FnOf Try.prog 44 := ⟨_, Try.func44, by kernel_rfl, rfl⟩
theorem fn_59 : FnOf Try.prog 59 := ⟨_, Try.func59, by kernel_rfl, rfl⟩
theorem fn_40 : FnOf Try.prog 40 := ⟨_, Try.func40, by kernel_rfl, rfl⟩
theorem el_9 : ElOf Try.prog 9 1 16 := el_of (z := .string (ByteArray.mk #[])) (by kernel_rfl) rfl
theorem fn_54 : FnOf Try.prog 54 := ⟨_, Try.func54, by kernel_rfl, rfl⟩
theorem fn_32 : FnOf Try.prog 32 := ⟨_, Try.func32, by kernel_rfl, rfl⟩
theorem sc_87 : ScOf Try.prog 87 := sc_of Try.underlying87 rfl (by kernel_rfl)
theorem zr_87 : ZrOf Try.prog 87 [.int .u64 0] := zr_of (z := .int .u64 0) (by kernel_rfl) rfl
theorem fn_56 : FnOf Try.prog 56 := ⟨_, Try.func56, by kernel_rfl, rfl⟩
theorem fn_55 : FnOf Try.prog 55 := ⟨_, Try.func55, by kernel_rfl, rfl⟩
theorem sc_3 : ScOf Try.prog 3 := sc_of Try.underlying3 rfl (by kernel_rfl)
theorem fn_64 : FnOf Try.prog 64 := ⟨_, Try.func64, by kernel_rfl, rfl⟩
theorem fn_58 : FnOf Try.prog 58 := ⟨_, Try.func58, by kernel_rfl, rfl⟩
theorem zr_3 : ZrOf Try.prog 3 [.int .i64 0] := zr_of (z := .int .i64 0) (by kernel_rfl) rfl
theorem fn_57 : FnOf Try.prog 57 := ⟨_, Try.func57, by kernel_rfl, rfl⟩
theorem fn_34 : FnOf Try.prog 34 := ⟨_, Try.func34, by kernel_rfl, rfl⟩
theorem fn_35 : FnOf Try.prog 35 := ⟨_, Try.func35, by kernel_rfl, rfl⟩
theorem fn_38 : FnOf Try.prog 38 := ⟨_, Try.func38, by kernel_rfl, rfl⟩
theorem fn_39 : FnOf Try.prog 39 := ⟨_, Try.func39, by kernel_rfl, rfl⟩
theorem fn_41 : FnOf Try.prog 41 := ⟨_, Try.func41, by kernel_rfl, rfl⟩
theorem fn_31 : FnOf Try.prog 31 := ⟨_, Try.func31, by kernel_rfl, rfl⟩
theorem fn_42 : FnOf Try.prog 42 := ⟨_, Try.func42, by kernel_rfl, rfl⟩
theorem fn_37 : FnOf Try.prog 37 := ⟨_, Try.func37, by kernel_rfl, rfl⟩
theorem fn_36 : FnOf Try.prog 36 := ⟨_, Try.func36, by kernel_rfl, rfl⟩
theorem zr_9 : ZrOf Try.prog 9 [.string (ByteArray.mk #[])] := zr_of (z := .string (ByteArray.mk #[])) (by kernel_rfl) rfl
theorem fn_28 : FnOf Try.prog 28 := ⟨_, Try.func28, by kernel_rfl, rfl⟩
theorem fn_27 : FnOf Try.prog 27 := ⟨_, Try.func27, by kernel_rfl, rfl⟩
theorem fn_63 : FnOf Try.prog 63 := ⟨_, Try.func63, by kernel_rfl, rfl⟩
theorem fn_51 : FnOf Try.prog 51 := ⟨_, Try.func51, by kernel_rfl, rfl⟩
theorem el_23 : ElOf Try.prog 23 1 8 := el_of (z := .int .u64 0) (by kernel_rfl) rfl
theorem fn_60 : FnOf Try.prog 60 := ⟨_, Try.func60, by kernel_rfl, rfl⟩
theorem fn_65 : FnOf Try.prog 65 := ⟨_, Try.func65, by kernel_rfl, rfl⟩
theorem fn_62 : FnOf Try.prog 62 := ⟨_, Try.func62, by kernel_rfl, rfl⟩
theorem fn_61 : FnOf Try.prog 61 := ⟨_, Try.func61, by kernel_rfl, rfl⟩
theorem fn_45 : FnOf Try.prog 45 := ⟨_, Try.func45, by kernel_rfl, rfl⟩
theorem fn_46 : FnOf Try.prog 46 := ⟨_, Try.func46, by kernel_rfl, rfl⟩
theorem fn_49 : FnOf Try.prog 49 := ⟨_, Try.func49, by kernel_rfl, rfl⟩
theorem fn_50 : FnOf Try.prog 50 := ⟨_, Try.func50, by kernel_rfl, rfl⟩
theorem fn_52 : FnOf Try.prog 52 := ⟨_, Try.func52, by kernel_rfl, rfl⟩
theorem fn_33 : FnOf Try.prog 33 := ⟨_, Try.func33, by kernel_rfl, rfl⟩
theorem fn_53 : FnOf Try.prog 53 := ⟨_, Try.func53, by kernel_rfl, rfl⟩
theorem fn_48 : FnOf Try.prog 48 := ⟨_, Try.func48, by kernel_rfl, rfl⟩
theorem fn_47 : FnOf Try.prog 47 := ⟨_, Try.func47, by kernel_rfl, rfl⟩
theorem zr_23 : ZrOf Try.prog 23 [.int .u64 0] := zr_of (z := .int .u64 0) (by kernel_rfl) rfl
theorem fn_30 : FnOf Try.prog 30 := ⟨_, Try.func30, by kernel_rfl, rfl⟩
theorem fn_29 : FnOf Try.prog 29 := ⟨_, Try.func29, by kernel_rfl, rfl⟩
theorem zr_37 : ZrOf Try.prog 37 [.string (ByteArray.mk #[]), .string (ByteArray.mk #[]), (.slice none 0 0)] := zr_of (z := .agg #[.string (ByteArray.mk #[]), .string (ByteArray.mk #[]), (.slice none 0 0)]) (by kernel_rfl) rfl
theorem ag_37 : AgOf Try.prog 37 3 := ⟨_, Try.underlying37, rfl, by kernel_rfl⟩
theorem fa_37_0 : FaOf Try.prog 37 0 0 := fa_of (sz := 0) Try.underlying37 rfl rfl (by kernel_rfl)
theorem fa_37_1 : FaOf Try.prog 37 1 1 := fa_of (sz := 0) Try.underlying37 rfl rfl (by kernel_rfl)
theorem fa_37_2 : FaOf Try.prog 37 2 2 := fa_of (sz := 0) Try.underlying37 rfl rfl (by kernel_rfl)
theorem sc_35 : ScOf Try.prog 35 := sc_of Try.underlying35 rfl (by kernel_rfl)
theorem el_37 : ElOf Try.prog 37 3 56 := el_of (z := .agg #[.string (ByteArray.mk #[]), .string (ByteArray.mk #[]), (.slice none 0 0)]) (by kernel_rfl) rfl
theorem fn_22 : FnOf Try.prog 22 := ⟨_, Try.func22, by kernel_rfl, rfl⟩
theorem fn_21 : FnOf Try.prog 21 := ⟨_, Try.func21, by kernel_rfl, rfl⟩
theorem fn_23 : FnOf Try.prog 23 := ⟨_, Try.func23, by kernel_rfl, rfl⟩
theorem fn_20 : FnOf Try.prog 20 := ⟨_, Try.func20, by kernel_rfl, rfl⟩
theorem fn_10 : FnOf Try.prog 10 := ⟨_, Try.func10, by kernel_rfl, rfl⟩
theorem fn_24 : FnOf Try.prog 24 := ⟨_, Try.func24, by kernel_rfl, rfl⟩
theorem fn_12 : FnOf Try.prog 12 := ⟨_, Try.func12, by kernel_rfl, rfl⟩
theorem fn_13 : FnOf Try.prog 13 := ⟨_, Try.func13, by kernel_rfl, rfl⟩
theorem zr_4 : ZrOf Try.prog 4 [.bool false] := zr_of (z := .bool false) (by kernel_rfl) rfl
theorem fn_18 : FnOf Try.prog 18 := ⟨_, Try.func18, by kernel_rfl, rfl⟩
theorem fn_26 : FnOf Try.prog 26 := ⟨_, Try.func26, by kernel_rfl, rfl⟩
theorem sc_40 : ScOf Try.prog 40 := sc_of Try.underlying40 rfl (by kernel_rfl)
theorem fn_17 : FnOf Try.prog 17 := ⟨_, Try.func17, by kernel_rfl, rfl⟩
theorem fa_46_0 : FaOf Try.prog 46 0 0 := fa_of (sz := 0) Try.underlying46 rfl rfl (by kernel_rfl)
theorem sc_22 : ScOf Try.prog 22 := sc_of Try.underlying22 rfl (by kernel_rfl)
theorem fn_25 : FnOf Try.prog 25 := ⟨_, Try.func25, by kernel_rfl, rfl⟩
theorem sc_4 : ScOf Try.prog 4 := sc_of Try.underlying4 rfl (by kernel_rfl)
theorem fn_14 : FnOf Try.prog 14 := ⟨_, Try.func14, by kernel_rfl, rfl⟩
end Go.Proofs.Ytmbhgfigffahbaa.Mo
