import Derived.Test.YtfofolmagnaimaaDpTw
import Derived.Test.YtfofolmagnaimaaProg
set_option linter.unusedVariables false
set_option linter.unusedSectionVars false
set_option linter.unusedSimpArgs false
set_option maxRecDepth 100000
namespace Go.Proofs.Ytfofolmagnaimaa.Mo
open Go Go.Proofs.Ytfofolmagnaimaa.Sy
open Go.Proofs
def k_File : Kd File := Kd.flat 6 File.enc (fun _ => rfl) (fun x u hu => by simp only [File.enc, List.mem_cons, List.not_mem_nil, or_false] at hu; rcases hu with h | h | h | h | h | h <;> subst h <;> rfl)
def k_R21_Rule : Kd R21_Rule := Kd.iso (Kd.pair (Kd.slice 26 (Kd.int .u64)) (Kd.slice 59 k_File)) (fun x => (x.Snaps, x.Below))
def k_Tomb : Kd Tomb := Kd.flat 3 Tomb.enc (fun _ => rfl) (fun x u hu => by simp only [Tomb.enc, List.mem_cons, List.not_mem_nil, or_false] at hu; rcases hu with h | h | h <;> subst h <;> rfl)
def k_Entry : Kd Entry := Kd.flat 4 Entry.enc (fun _ => rfl) (fun x u hu => by simp only [Entry.enc, List.mem_cons, List.not_mem_nil, or_false] at hu; rcases hu with h | h | h | h <;> subst h <;> rfl)
def k_L21_Older : Kd L21_Older := Kd.iso (Kd.pair (Kd.slice 41 k_Entry) (Kd.slice 43 k_Tomb)) (fun x => (x.Entries, x.Tombs))
def k_L21_Put : Kd L21_Put := Kd.iso (Kd.pair (Kd.slice 41 k_Entry) (Kd.slice 43 k_Tomb)) (fun x => (x.Entries, x.Tombs))
theorem zr_27 : ZrOf Try.prog 27 [(.slice none 0 0), (.slice none 0 0)] := zr_of (z := .agg #[(.slice none 0 0), (.slice none 0 0)]) (by kernel_rfl) rfl
theorem fo : Try.prog.follows .mixedOrders = true := by kernel_rfl
theorem fa_25_0 : FaOf Try.prog 25 0 0 := fa_of (sz := 0) Try.underlying25 rfl rfl (by kernel_rfl)
theorem sc_22 : ScOf Try.prog 22 := sc_of Try.underlying22 rfl (by kernel_rfl)
theorem fa_25_1 : FaOf Try.prog 25 1 1 := fa_of (sz := 0) Try.underlying25 rfl rfl (by kernel_rfl)
theorem sc_23 : ScOf Try.prog 23 := sc_of Try.underlying23 rfl (by kernel_rfl)
theorem el_26 : ElOf Try.prog 26 1 8 := el_of (z := .int .u64 0) (by kernel_rfl) rfl
theorem el_59 : ElOf Try.prog 59 6 64 := el_of (z := .agg #[.int .i64 0, .int .i64 0, .string (ByteArray.mk #[]), .string (ByteArray.mk #[]), .int .u64 0, .int .u64 0]) (by kernel_rfl) rfl
theorem ag_27 : AgOf Try.prog 27 2 := ⟨_, Try.underlying27, rfl, by kernel_rfl⟩
theorem sc_26 : ScOf Try.prog 26 := sc_of Try.underlying26 rfl (by kernel_rfl)
theorem fa_59_2 : FaOf Try.prog 59 2 2 := fa_of (sz := 0) Try.underlying59 rfl rfl (by kernel_rfl)
theorem sc_9 : ScOf Try.prog 9 := sc_of Try.underlying9 rfl (by kernel_rfl)
theorem fa_59_3 : FaOf Try.prog 59 3 3 := fa_of (sz := 0) Try.underlying59 rfl rfl (by kernel_rfl)
theorem ag_59 : AgOf Try.prog 59 6 := ⟨_, Try.underlying59, rfl, by kernel_rfl⟩
theorem fn_42 : FnOf Try.prog 42 := ⟨_, Try.func42, by kernel_rfl, rfl⟩
theorem fn_25 : FnOf Try.prog 25 := ⟨_, Try.func25, by kernel_rfl, rfl⟩
theorem fn_24 : FnOf Try.prog 24 := ⟨_, Try.func24, by kernel_rfl, rfl⟩
theorem fa_27_0 : FaOf Try.prog 27 0 0 := fa_of (sz := 0) Try.underlying27 rfl rfl (by kernel_rfl)
theorem fa_27_1 : FaOf Try.prog 27 1 1 := fa_of (sz := 0) Try.underlying27 rfl rfl (by kernel_rfl)
theorem ag_25 : AgOf Try.prog 25 2 := ⟨_, Try.underlying25, rfl, by kernel_rfl⟩
theorem fn_11 : FnOf Try.prog 11 := ⟨_, Try.func11, by kernel_rfl, rfl⟩
theorem fn_8 : FnOf Try.prog 8 := ⟨_, Try.func8, by kernel_rfl, rfl⟩
theorem fn_73 : FnOf Try.prog 73 := ⟨_, Try.func73, by kernel_rfl, rfl⟩
theorem fn_57 : FnOf Try.prog 57 := ⟨_, Try.func57, by kernel_rfl, rfl⟩
theorem fn_46 : FnOf Try.prog 46 := ⟨_, Try.func46, by kernel_rfl, rfl⟩
theorem fn_77 : FnOf Try.prog 77 := ⟨_, Try.func77, by kernel_rfl, rfl⟩
theorem fn_56 : FnOf Try.prog 56 := ⟨_, Try.func56, by kernel_rfl, rfl⟩
theorem sc_108 : ScOf Try.prog 108 := sc_of Try.underlying108 rfl (by kernel_rfl)
theorem zr_108 : ZrOf Try.prog 108 [.int .u64 0] := zr_of (z := .int .u64 0) (by kernel_rfl) rfl
theorem fn_79 : FnOf Try.prog 79 := ⟨_, Try.func79, by kernel_rfl, rfl⟩
theorem fn_78 : FnOf Try.prog 78 := ⟨_, Try.func78, by kernel_rfl, rfl⟩
theorem sc_3 : ScOf Try.prog 3 := sc_of Try.underlying3 rfl (by kernel_rfl)
theorem fn_84 : FnOf Try.prog 84 := ⟨_, Try.func84, by kernel_rfl, rfl⟩
theorem fn_81 : FnOf Try.prog 81 := ⟨_, Try.func81, by kernel_rfl, rfl⟩
theorem zr_3 : ZrOf Try.prog 3 [.int .i64 0] := zr_of (z := .int .i64 0) (by kernel_rfl) rfl
theorem fn_80 : FnOf Try.prog 80 := ⟨_, Try.func80, by kernel_rfl, rfl⟩
theorem fn_64 : FnOf Try.prog 64 := ⟨_, Try.func64, by kernel_rfl, rfl⟩
theorem fn_65 : FnOf Try.prog 65 := ⟨_, Try.func65, by kernel_rfl, rfl⟩
theorem fn_66 : FnOf Try.prog 66 := ⟨_, Try.func66, by kernel_rfl, rfl⟩
theorem fn_68 : FnOf Try.prog 68 := ⟨_, Try.func68, by kernel_rfl, rfl⟩
theorem fn_69 : FnOf Try.prog 69 := ⟨_, Try.func69, by kernel_rfl, rfl⟩
theorem fn_70 : FnOf Try.prog 70 := ⟨_, Try.func70, by kernel_rfl, rfl⟩
theorem fn_55 : FnOf Try.prog 55 := ⟨_, Try.func55, by kernel_rfl, rfl⟩
theorem fn_71 : FnOf Try.prog 71 := ⟨_, Try.func71, by kernel_rfl, rfl⟩
theorem fn_67 : FnOf Try.prog 67 := ⟨_, Try.func67, by kernel_rfl, rfl⟩
theorem zr_26 : ZrOf Try.prog 26 [.int .u64 0] := zr_of (z := .int .u64 0) (by kernel_rfl) rfl
theorem fn_47 : FnOf Try.prog 47 := ⟨_, Try.func47, by kernel_rfl, rfl⟩
theorem fn_30 : FnOf Try.prog 30 := ⟨_, Try.func30, by kernel_rfl, rfl⟩
theorem fa_43_0 : FaOf Try.prog 43 0 0 := fa_of (sz := 0) Try.underlying43 rfl rfl (by kernel_rfl)
theorem fa_43_1 : FaOf Try.prog 43 1 1 := fa_of (sz := 0) Try.underlying43 rfl rfl (by kernel_rfl)
theorem fa_43_2 : FaOf Try.prog 43 2 2 := fa_of (sz := 0) Try.underlying43 rfl rfl (by kernel_rfl)
theorem el_41 : ElOf Try.prog 41 4 48 := el_of (z := .agg #[.string (ByteArray.mk #[]), .int .u64 0, .int .i64 0, .string (ByteArray.mk #[])]) (by kernel_rfl) rfl
theorem ag_41 : AgOf Try.prog 41 4 := ⟨_, Try.underlying41, rfl, by kernel_rfl⟩
theorem fn_82 : FnOf Try.prog 82 := ⟨_, Try.func82, by kernel_rfl, rfl⟩
theorem fn_74 : FnOf Try.prog 74 := ⟨_, Try.func74, by kernel_rfl, rfl⟩
theorem fn_59 : FnOf Try.prog 59 := ⟨_, Try.func59, by kernel_rfl, rfl⟩
theorem fn_58 : FnOf Try.prog 58 := ⟨_, Try.func58, by kernel_rfl, rfl⟩
theorem fn_52 : FnOf Try.prog 52 := ⟨_, Try.func52, by kernel_rfl, rfl⟩
theorem ext_83 : ExtOf Try.prog 83 Extern.BytealgCompare.compare := ⟨_, Try.func83, by kernel_rfl, by kernel_rfl, by kernel_rfl, by kernel_rfl⟩
theorem fn_75 : FnOf Try.prog 75 := ⟨_, Try.func75, by kernel_rfl, rfl⟩
theorem fn_76 : FnOf Try.prog 76 := ⟨_, Try.func76, by kernel_rfl, rfl⟩
theorem el_3 : ElOf Try.prog 3 1 8 := el_of (z := .int .i64 0) (by kernel_rfl) rfl
theorem fa_85_0 : FaOf Try.prog 85 0 0 := fa_of (sz := 0) Try.underlying85 rfl rfl (by kernel_rfl)
theorem fa_85_1 : FaOf Try.prog 85 1 1 := fa_of (sz := 0) Try.underlying85 rfl rfl (by kernel_rfl)
theorem fa_85_2 : FaOf Try.prog 85 2 2 := fa_of (sz := 0) Try.underlying85 rfl rfl (by kernel_rfl)
theorem fn_60 : FnOf Try.prog 60 := ⟨_, Try.func60, by kernel_rfl, rfl⟩
theorem fn_63 : FnOf Try.prog 63 := ⟨_, Try.func63, by kernel_rfl, rfl⟩
theorem fn_62 : FnOf Try.prog 62 := ⟨_, Try.func62, by kernel_rfl, rfl⟩
theorem fn_61 : FnOf Try.prog 61 := ⟨_, Try.func61, by kernel_rfl, rfl⟩
theorem fa_41_0 : FaOf Try.prog 41 0 0 := fa_of (sz := 0) Try.underlying41 rfl rfl (by kernel_rfl)
theorem fa_41_1 : FaOf Try.prog 41 1 1 := fa_of (sz := 0) Try.underlying41 rfl rfl (by kernel_rfl)
theorem fa_41_2 : FaOf Try.prog 41 2 2 := fa_of (sz := 0) Try.underlying41 rfl rfl (by kernel_rfl)
theorem fn_53 : FnOf Try.prog 53 := ⟨_, Try.func53, by kernel_rfl, rfl⟩
theorem fn_39 : FnOf Try.prog 39 := ⟨_, Try.func39, by kernel_rfl, rfl⟩
theorem fn_38 : FnOf Try.prog 38 := ⟨_, Try.func38, by kernel_rfl, rfl⟩
theorem fn_37 : FnOf Try.prog 37 := ⟨_, Try.func37, by kernel_rfl, rfl⟩
theorem ag_43 : AgOf Try.prog 43 3 := ⟨_, Try.underlying43, rfl, by kernel_rfl⟩
theorem zr_43 : ZrOf Try.prog 43 [.string (ByteArray.mk #[]), .string (ByteArray.mk #[]), .int .u64 0] := zr_of (z := .agg #[.string (ByteArray.mk #[]), .string (ByteArray.mk #[]), .int .u64 0]) (by kernel_rfl) rfl
theorem fn_19 : FnOf Try.prog 19 := ⟨_, Try.func19, by kernel_rfl, rfl⟩
theorem el_43 : ElOf Try.prog 43 3 40 := el_of (z := .agg #[.string (ByteArray.mk #[]), .string (ByteArray.mk #[]), .int .u64 0]) (by kernel_rfl) rfl
theorem fn_48 : FnOf Try.prog 48 := ⟨_, Try.func48, by kernel_rfl, rfl⟩
theorem fn_28 : FnOf Try.prog 28 := ⟨_, Try.func28, by kernel_rfl, rfl⟩
theorem fn_27 : FnOf Try.prog 27 := ⟨_, Try.func27, by kernel_rfl, rfl⟩
theorem fn_43 : FnOf Try.prog 43 := ⟨_, Try.func43, by kernel_rfl, rfl⟩
theorem fn_54 : FnOf Try.prog 54 := ⟨_, Try.func54, by kernel_rfl, rfl⟩
theorem fn_45 : FnOf Try.prog 45 := ⟨_, Try.func45, by kernel_rfl, rfl⟩
theorem zr_22 : ZrOf Try.prog 22 [(.slice none 0 0)] := zr_of (z := (.slice none 0 0)) (by kernel_rfl) rfl
theorem fn_26 : FnOf Try.prog 26 := ⟨_, Try.func26, by kernel_rfl, rfl⟩
theorem fn_44 : FnOf Try.prog 44 := ⟨_, Try.func44, by kernel_rfl, rfl⟩
theorem fn_29 : FnOf Try.prog 29 := ⟨_, Try.func29, by kernel_rfl, rfl⟩
theorem sc_34 : ScOf Try.prog 34 := sc_of Try.underlying34 rfl (by kernel_rfl)
theorem el_34 : ElOf Try.prog 34 1 24 := el_of (z := (.slice none 0 0)) (by kernel_rfl) rfl
theorem zr_41 : ZrOf Try.prog 41 [.string (ByteArray.mk #[]), .int .u64 0, .int .i64 0, .string (ByteArray.mk #[])] := zr_of (z := .agg #[.string (ByteArray.mk #[]), .int .u64 0, .int .i64 0, .string (ByteArray.mk #[])]) (by kernel_rfl) rfl
theorem fn_31 : FnOf Try.prog 31 := ⟨_, Try.func31, by kernel_rfl, rfl⟩
theorem fn_32 : FnOf Try.prog 32 := ⟨_, Try.func32, by kernel_rfl, rfl⟩
theorem fn_20 : FnOf Try.prog 20 := ⟨_, Try.func20, by kernel_rfl, rfl⟩
theorem zr_34 : ZrOf Try.prog 34 [(.slice none 0 0)] := zr_of (z := (.slice none 0 0)) (by kernel_rfl) rfl
theorem fn_14 : FnOf Try.prog 14 := ⟨_, Try.func14, by kernel_rfl, rfl⟩
theorem fn_18 : FnOf Try.prog 18 := ⟨_, Try.func18, by kernel_rfl, rfl⟩
theorem fa_50_0 : FaOf Try.prog 50 0 0 := fa_of (sz := 0) Try.underlying50 rfl rfl (by kernel_rfl)
theorem sc_33 : ScOf Try.prog 33 := sc_of Try.underlying33 rfl (by kernel_rfl)
theorem fa_50_1 : FaOf Try.prog 50 1 1 := fa_of (sz := 0) Try.underlying50 rfl rfl (by kernel_rfl)
theorem fa_41_3 : FaOf Try.prog 41 3 3 := fa_of (sz := 0) Try.underlying41 rfl rfl (by kernel_rfl)
theorem fn_40 : FnOf Try.prog 40 := ⟨_, Try.func40, by kernel_rfl, rfl⟩
theorem fa_49_0 : FaOf Try.prog 49 0 0 := fa_of (sz := 0) Try.underlying49 rfl rfl (by kernel_rfl)
theorem fa_49_1 : FaOf Try.prog 49 1 1 := fa_of (sz := 0) Try.underlying49 rfl rfl (by kernel_rfl)
theorem ag_50 : AgOf Try.prog 50 2 := ⟨_, Try.underlying50, rfl, by kernel_rfl⟩
theorem fn_22 : FnOf Try.prog 22 := ⟨_, Try.func22, by kernel_rfl, rfl⟩
theorem fn_21 : FnOf Try.prog 21 := ⟨_, Try.func21, by kernel_rfl, rfl⟩
end Go.Proofs.Ytfofolmagnaimaa.Mo
