import Derived.Test.YtlhmchndcilifaaVwTw
import Derived.Test.YtlhmchndcilifaaProg
set_option linter.unusedVariables false
set_option linter.unusedSectionVars false
set_option linter.unusedSimpArgs false
set_option maxRecDepth 100000
namespace Go.Proofs.Ytlhmchndcilifaa.Mo
open Go Go.Proofs.Ytlhmchndcilifaa.Sy
open Go.Proofs
def k_Entry : Kd Entry := Kd.flat 4 Entry.enc (fun _ => rfl) (fun x u hu => by simp only [Entry.enc, List.mem_cons, List.not_mem_nil, or_false] at hu; rcases hu with h | h | h | h <;> subst h <;> rfl)
def k_Tomb : Kd Tomb := Kd.flat 3 Tomb.enc (fun _ => rfl) (fun x u hu => by simp only [Tomb.enc, List.mem_cons, List.not_mem_nil, or_false] at hu; rcases hu with h | h | h <;> subst h <;> rfl)
def k_tomb_Set : Kd tomb_Set := Kd.iso (Kd.pair (Kd.slice 31 k_Tomb) Kd.bool) (fun x => (x.tombs, x.made))
def k_Fragment : Kd Fragment := Kd.iso (Kd.pair Kd.str (Kd.pair Kd.str (Kd.slice 26 (Kd.int .u64)))) (fun x => (x.Begin, x.End, x.Seqs))
def k_Op : Kd Op := Kd.flat 3 Op.enc (fun _ => rfl) (fun x u hu => by simp only [Op.enc, List.mem_cons, List.not_mem_nil, or_false] at hu; rcases hu with h | h | h <;> subst h <;> rfl)
theorem zr_33 : ZrOf Try.prog 33 [.string (ByteArray.mk #[]), .int .u64 0, .int .i64 0, .string (ByteArray.mk #[])] := zr_of (z := .agg #[.string (ByteArray.mk #[]), .int .u64 0, .int .i64 0, .string (ByteArray.mk #[])]) (by kernel_rfl) rfl
theorem ag_33 : AgOf Try.prog 33 4 := ⟨_, Try.underlying33, rfl, by kernel_rfl⟩
theorem fa_31_0 : FaOf Try.prog 31 0 0 := fa_of (sz := 0) Try.underlying31 rfl rfl (by kernel_rfl)
theorem sc_9 : ScOf Try.prog 9 := sc_of Try.underlying9 rfl (by kernel_rfl)
theorem fa_31_1 : FaOf Try.prog 31 1 1 := fa_of (sz := 0) Try.underlying31 rfl rfl (by kernel_rfl)
theorem fa_31_2 : FaOf Try.prog 31 2 2 := fa_of (sz := 0) Try.underlying31 rfl rfl (by kernel_rfl)
theorem sc_26 : ScOf Try.prog 26 := sc_of Try.underlying26 rfl (by kernel_rfl)
theorem ag_31 : AgOf Try.prog 31 3 := ⟨_, Try.underlying31, rfl, by kernel_rfl⟩
theorem zr_31 : ZrOf Try.prog 31 [.string (ByteArray.mk #[]), .string (ByteArray.mk #[]), .int .u64 0] := zr_of (z := .agg #[.string (ByteArray.mk #[]), .string (ByteArray.mk #[]), .int .u64 0]) (by kernel_rfl) rfl
theorem el_31 : ElOf Try.prog 31 3 40 := el_of (z := .agg #[.string (ByteArray.mk #[]), .string (ByteArray.mk #[]), .int .u64 0]) (by kernel_rfl) rfl
theorem fn_23 : FnOf Try.prog 23 := ⟨_, Try.func23, by kernel_rfl, rfl⟩
theorem el_33 : ElOf Try.prog 33 4 48 := el_of (z := .agg #[.string (ByteArray.mk #[]), .int .u64 0, .int .i64 0, .string (ByteArray.mk #[])]) (by kernel_rfl) rfl
theorem fo : Try.prog.follows .mixedOrders = true := by kernel_rfl
theorem fn_45 : FnOf Try.prog 45 := ⟨_, Try.func45, by kernel_rfl, rfl⟩
theorem fn_36 : FnOf Try.prog 36 := ⟨_, Try.func36, by kernel_rfl, rfl⟩
theorem fn_28 : FnOf Try.prog 28 := ⟨_, Try.func28, by kernel_rfl, rfl⟩
theorem fn_27 : FnOf Try.prog 27 := ⟨_, Try.func27, by kernel_rfl, rfl⟩
theorem fn_24 : FnOf Try.prog 24 := ⟨_, Try.func24, by kernel_rfl, rfl⟩
theorem ext_46 : ExtOf Try.prog 46 Extern.BytealgCompare.compare := ⟨_, Try.func46, by kernel_rfl, by kernel_rfl, by kernel_rfl, by kernel_rfl⟩
theorem fn_37 : FnOf Try.prog 37 := ⟨_, Try.func37, by kernel_rfl, rfl⟩
theorem fn_38 : FnOf Try.prog 38 := ⟨_, Try.func38, by kernel_rfl, rfl⟩
theorem fn_39 : FnOf Try.prog 39 := ⟨_, Try.func39, by kernel_rfl, rfl⟩
theorem sc_3 : ScOf Try.prog 3 := sc_of Try.underlying3 rfl (by kernel_rfl)
theorem el_3 : ElOf Try.prog 3 1 8 := el_of (z := .int .i64 0) (by kernel_rfl) rfl
theorem fa_73_0 : FaOf Try.prog 73 0 0 := fa_of (sz := 0) Try.underlying73 rfl rfl (by kernel_rfl)
theorem fa_73_1 : FaOf Try.prog 73 1 1 := fa_of (sz := 0) Try.underlying73 rfl rfl (by kernel_rfl)
theorem fa_73_2 : FaOf Try.prog 73 2 2 := fa_of (sz := 0) Try.underlying73 rfl rfl (by kernel_rfl)
theorem fn_29 : FnOf Try.prog 29 := ⟨_, Try.func29, by kernel_rfl, rfl⟩
theorem fn_32 : FnOf Try.prog 32 := ⟨_, Try.func32, by kernel_rfl, rfl⟩
theorem fn_31 : FnOf Try.prog 31 := ⟨_, Try.func31, by kernel_rfl, rfl⟩
theorem fn_30 : FnOf Try.prog 30 := ⟨_, Try.func30, by kernel_rfl, rfl⟩
theorem fa_33_0 : FaOf Try.prog 33 0 0 := fa_of (sz := 0) Try.underlying33 rfl rfl (by kernel_rfl)
theorem fa_33_1 : FaOf Try.prog 33 1 1 := fa_of (sz := 0) Try.underlying33 rfl rfl (by kernel_rfl)
theorem fa_33_2 : FaOf Try.prog 33 2 2 := fa_of (sz := 0) Try.underlying33 rfl rfl (by kernel_rfl)
theorem fn_25 : FnOf Try.prog 25 := ⟨_, Try.func25, by kernel_rfl, rfl⟩
theorem fn_21 : FnOf Try.prog 21 := ⟨_, Try.func21, by kernel_rfl, rfl⟩
theorem fn_20 : FnOf Try.prog 20 := ⟨_, Try.func20, by kernel_rfl, rfl⟩
theorem fn_19 : FnOf Try.prog 19 := ⟨_, Try.func19, by kernel_rfl, rfl⟩
theorem fn_18 : FnOf Try.prog 18 := ⟨_, Try.func18, by kernel_rfl, rfl⟩
theorem fa_61_0 : FaOf Try.prog 61 0 0 := fa_of (sz := 0) Try.underlying61 rfl rfl (by kernel_rfl)
theorem sc_25 : ScOf Try.prog 25 := sc_of Try.underlying25 rfl (by kernel_rfl)
theorem fn_44 : FnOf Try.prog 44 := ⟨_, Try.func44, by kernel_rfl, rfl⟩
theorem fn_64 : FnOf Try.prog 64 := ⟨_, Try.func64, by kernel_rfl, rfl⟩
theorem fn_79 : FnOf Try.prog 79 := ⟨_, Try.func79, by kernel_rfl, rfl⟩
theorem el_9 : ElOf Try.prog 9 1 16 := el_of (z := .string (ByteArray.mk #[])) (by kernel_rfl) rfl
theorem fn_52 : FnOf Try.prog 52 := ⟨_, Try.func52, by kernel_rfl, rfl⟩
theorem sc_121 : ScOf Try.prog 121 := sc_of Try.underlying121 rfl (by kernel_rfl)
theorem zr_121 : ZrOf Try.prog 121 [.int .u64 0] := zr_of (z := .int .u64 0) (by kernel_rfl) rfl
theorem fn_76 : FnOf Try.prog 76 := ⟨_, Try.func76, by kernel_rfl, rfl⟩
theorem fn_75 : FnOf Try.prog 75 := ⟨_, Try.func75, by kernel_rfl, rfl⟩
theorem zr_3 : ZrOf Try.prog 3 [.int .i64 0] := zr_of (z := .int .i64 0) (by kernel_rfl) rfl
theorem zr_9 : ZrOf Try.prog 9 [.string (ByteArray.mk #[])] := zr_of (z := .string (ByteArray.mk #[])) (by kernel_rfl) rfl
theorem fn_48 : FnOf Try.prog 48 := ⟨_, Try.func48, by kernel_rfl, rfl⟩
theorem fn_47 : FnOf Try.prog 47 := ⟨_, Try.func47, by kernel_rfl, rfl⟩
theorem fn_71 : FnOf Try.prog 71 := ⟨_, Try.func71, by kernel_rfl, rfl⟩
theorem el_26 : ElOf Try.prog 26 1 8 := el_of (z := .int .u64 0) (by kernel_rfl) rfl
theorem fn_80 : FnOf Try.prog 80 := ⟨_, Try.func80, by kernel_rfl, rfl⟩
theorem fn_84 : FnOf Try.prog 84 := ⟨_, Try.func84, by kernel_rfl, rfl⟩
theorem fn_82 : FnOf Try.prog 82 := ⟨_, Try.func82, by kernel_rfl, rfl⟩
theorem fn_81 : FnOf Try.prog 81 := ⟨_, Try.func81, by kernel_rfl, rfl⟩
theorem fn_65 : FnOf Try.prog 65 := ⟨_, Try.func65, by kernel_rfl, rfl⟩
theorem fn_66 : FnOf Try.prog 66 := ⟨_, Try.func66, by kernel_rfl, rfl⟩
theorem fn_69 : FnOf Try.prog 69 := ⟨_, Try.func69, by kernel_rfl, rfl⟩
theorem fn_70 : FnOf Try.prog 70 := ⟨_, Try.func70, by kernel_rfl, rfl⟩
theorem fn_72 : FnOf Try.prog 72 := ⟨_, Try.func72, by kernel_rfl, rfl⟩
theorem fn_53 : FnOf Try.prog 53 := ⟨_, Try.func53, by kernel_rfl, rfl⟩
theorem fn_73 : FnOf Try.prog 73 := ⟨_, Try.func73, by kernel_rfl, rfl⟩
theorem fn_68 : FnOf Try.prog 68 := ⟨_, Try.func68, by kernel_rfl, rfl⟩
theorem fn_67 : FnOf Try.prog 67 := ⟨_, Try.func67, by kernel_rfl, rfl⟩
theorem zr_26 : ZrOf Try.prog 26 [.int .u64 0] := zr_of (z := .int .u64 0) (by kernel_rfl) rfl
theorem fn_50 : FnOf Try.prog 50 := ⟨_, Try.func50, by kernel_rfl, rfl⟩
theorem fn_49 : FnOf Try.prog 49 := ⟨_, Try.func49, by kernel_rfl, rfl⟩
theorem zr_79 : ZrOf Try.prog 79 [.string (ByteArray.mk #[]), .string (ByteArray.mk #[]), (.slice none 0 0)] := zr_of (z := .agg #[.string (ByteArray.mk #[]), .string (ByteArray.mk #[]), (.slice none 0 0)]) (by kernel_rfl) rfl
theorem ag_79 : AgOf Try.prog 79 3 := ⟨_, Try.underlying79, rfl, by kernel_rfl⟩
theorem fa_79_0 : FaOf Try.prog 79 0 0 := fa_of (sz := 0) Try.underlying79 rfl rfl (by kernel_rfl)
theorem fa_79_1 : FaOf Try.prog 79 1 1 := fa_of (sz := 0) Try.underlying79 rfl rfl (by kernel_rfl)
theorem fa_79_2 : FaOf Try.prog 79 2 2 := fa_of (sz := 0) Try.underlying79 rfl rfl (by kernel_rfl)
theorem sc_77 : ScOf Try.prog 77 := sc_of Try.underlying77 rfl (by kernel_rfl)
theorem el_79 : ElOf Try.prog 79 3 56 := el_of (z := .agg #[.string (ByteArray.mk #[]), .string (ByteArray.mk #[]), (.slice none 0 0)]) (by kernel_rfl) rfl
theorem fn_42 : FnOf Try.prog 42 := ⟨_, Try.func42, by kernel_rfl, rfl⟩
theorem fn_41 : FnOf Try.prog 41 := ⟨_, Try.func41, by kernel_rfl, rfl⟩
theorem fn_43 : FnOf Try.prog 43 := ⟨_, Try.func43, by kernel_rfl, rfl⟩
theorem fn_40 : FnOf Try.prog 40 := ⟨_, Try.func40, by kernel_rfl, rfl⟩
theorem fn_17 : FnOf Try.prog 17 := ⟨_, Try.func17, by kernel_rfl, rfl⟩
theorem zr_4 : ZrOf Try.prog 4 [.bool false] := zr_of (z := .bool false) (by kernel_rfl) rfl
theorem fn_26 : FnOf Try.prog 26 := ⟨_, Try.func26, by kernel_rfl, rfl⟩
theorem fn_33 : FnOf Try.prog 33 := ⟨_, Try.func33, by kernel_rfl, rfl⟩
theorem sc_43 : ScOf Try.prog 43 := sc_of Try.underlying43 rfl (by kernel_rfl)
theorem sc_4 : ScOf Try.prog 4 := sc_of Try.underlying4 rfl (by kernel_rfl)
theorem fn_34 : FnOf Try.prog 34 := ⟨_, Try.func34, by kernel_rfl, rfl⟩
theorem fn_35 : FnOf Try.prog 35 := ⟨_, Try.func35, by kernel_rfl, rfl⟩
theorem fn_22 : FnOf Try.prog 22 := ⟨_, Try.func22, by kernel_rfl, rfl⟩
theorem fn_11 : FnOf Try.prog 11 := ⟨_, Try.func11, by kernel_rfl, rfl⟩
theorem fn_14 : FnOf Try.prog 14 := ⟨_, Try.func14, by kernel_rfl, rfl⟩
theorem fn_15 : FnOf Try.prog 15 := ⟨_, Try.func15, by kernel_rfl, rfl⟩
theorem fa_33_3 : FaOf Try.prog 33 3 3 := fa_of (sz := 0) Try.underlying33 rfl rfl (by kernel_rfl)
theorem el_29 : ElOf Try.prog 29 3 40 := el_of (z := .agg #[.int .i64 0, .string (ByteArray.mk #[]), .string (ByteArray.mk #[])]) (by kernel_rfl) rfl
theorem fn_12 : FnOf Try.prog 12 := ⟨_, Try.func12, by kernel_rfl, rfl⟩
theorem fn_13 : FnOf Try.prog 13 := ⟨_, Try.func13, by kernel_rfl, rfl⟩
theorem ag_29 : AgOf Try.prog 29 3 := ⟨_, Try.underlying29, rfl, by kernel_rfl⟩
theorem fa_29_1 : FaOf Try.prog 29 1 1 := fa_of (sz := 0) Try.underlying29 rfl rfl (by kernel_rfl)
theorem fn_10 : FnOf Try.prog 10 := ⟨_, Try.func10, by kernel_rfl, rfl⟩
theorem fn_9 : FnOf Try.prog 9 := ⟨_, Try.func9, by kernel_rfl, rfl⟩
theorem fn_7 : FnOf Try.prog 7 := ⟨_, Try.func7, by kernel_rfl, rfl⟩
theorem fn_8 : FnOf Try.prog 8 := ⟨_, Try.func8, by kernel_rfl, rfl⟩
theorem fa_29_0 : FaOf Try.prog 29 0 0 := fa_of (sz := 0) Try.underlying29 rfl rfl (by kernel_rfl)
theorem fa_29_2 : FaOf Try.prog 29 2 2 := fa_of (sz := 0) Try.underlying29 rfl rfl (by kernel_rfl)
theorem fn_4 : FnOf Try.prog 4 := ⟨_, Try.func4, by kernel_rfl, rfl⟩
theorem zr_29 : ZrOf Try.prog 29 [.int .i64 0, .string (ByteArray.mk #[]), .string (ByteArray.mk #[])] := zr_of (z := .agg #[.int .i64 0, .string (ByteArray.mk #[]), .string (ByteArray.mk #[])]) (by kernel_rfl) rfl
theorem fn_6 : FnOf Try.prog 6 := ⟨_, Try.func6, by kernel_rfl, rfl⟩
theorem el_22 : ElOf Try.prog 22 1 24 := el_of (z := (.slice none 0 0)) (by kernel_rfl) rfl
theorem fn_5 : FnOf Try.prog 5 := ⟨_, Try.func5, by kernel_rfl, rfl⟩
theorem sc_22 : ScOf Try.prog 22 := sc_of Try.underlying22 rfl (by kernel_rfl)
theorem eqn_29 (n : Nat) (x y : Op) (w : World) : (Op.equalIn (n + 2) 29 (.agg (Op.enc x).toArray) (.agg (Op.enc y).toArray)).run Try.prog w = .ok (Op.eqb x y) w := eqA_of Try.underlying29 (by kernel_rfl) (fun w => eqf_step rfl Try.underlying3 rfl rfl rfl (fun w => eqIn_int _ _ _ _ Try.underlying3 w) (eqf_step rfl Try.underlying9 rfl rfl rfl (fun w => eqIn_str _ _ _ _ Try.underlying9 w) (eqf_step rfl Try.underlying9 rfl rfl rfl (fun w => eqIn_str _ _ _ _ Try.underlying9 w) (eqf_nil)))) w
theorem eqof_29 : EqOf Try.prog 29 Op.enc Op.eqb := ⟨by kernel_rfl, fun x y w => eqn_29 9998 x y w⟩
theorem bsI {α β : Type} {o : Option α} {f : α → Option β} {b : β} (h : o.bind f = some b) : ∃ a, o = some a ∧ f a = some b := Option.bind_eq_some_iff.1 h
theorem bfI {b : Bool} (h : ¬ b = true) : b = false := Bool.eq_false_iff.2 h
theorem tv : True := True.intro
theorem oi {α : Type} {x y : α} (h : some x = some y) : x = y := Option.some.inj h
abbrev tn := @then_normal
abbrev te := @then_exit
abbrev xi := @x_indexAddr
abbrev xm := @x_move
abbrev xl := @x_loadEF
abbrev xb := @x_loadB
abbrev xS := @r_storeE
abbrev sh := @shut_sh
abbrev wQ := @wq_region_q
abbrev wG := @wq_region_t
abbrev wl := @wl_join0
abbrev wc := @wq_cut
abbrev sb := @sub_sh
abbrev wT := @wq_condT
abbrev wF := @wq_condF
abbrev wR := @wq_region_lit
abbrev wS := @wq_seq
end Go.Proofs.Ytlhmchndcilifaa.Mo
