import Derived.Test.YtmbhgfigffahbaaDoorTdTw
import Derived.Test.YtmbhgfigffahbaaDoorProg
set_option linter.unusedVariables false
set_option linter.unusedSectionVars false
set_option linter.unusedSimpArgs false
set_option maxRecDepth 100000
namespace Go.Proofs.YtmbhgfigffahbaaDoor.Mo
open Go Go.Proofs.YtmbhgfigffahbaaDoor.Sy
open Go.Proofs
def k_Tomb : Kd Tomb := Kd.flat 3 Tomb.enc (fun _ => rfl) (fun x u hu => by simp only [Tomb.enc, List.mem_cons, List.not_mem_nil, or_false] at hu; rcases hu with h | h | h <;> subst h <;> rfl)
def k_Fragment : Kd Fragment := Kd.iso (Kd.pair Kd.str (Kd.pair Kd.str (Kd.slice 26 (Kd.int .u64)))) (fun x => (x.Begin, x.End, x.Seqs))
def k_L09_Ask : Kd L09_Ask := Kd.flat 5 L09_Ask.enc (fun _ => rfl) (fun x u hu => by simp only [L09_Ask.enc, List.mem_cons, List.not_mem_nil, or_false] at hu; rcases hu with h | h | h | h | h <;> subst h <;> rfl)
theorem fo : Tryd.prog.follows .mixedOrders = true := by kernel_rfl
theorem ag_28 : AgOf Tryd.prog 28 3 := ⟨_, Tryd.underlying28, rfl, by kernel_rfl⟩
theorem el_28 : ElOf Tryd.prog 28 3 40 := el_of (z := .agg #[.string (ByteArray.mk #[]), .string (ByteArray.mk #[]), .int .u64 0]) (by kernel_rfl) rfl
theorem fa_28_0 : FaOf Tryd.prog 28 0 0 := fa_of (sz := 0) Tryd.underlying28 rfl rfl (by kernel_rfl)
theorem sc_9 : ScOf Tryd.prog 9 := sc_of Tryd.underlying9 rfl (by kernel_rfl)
theorem fa_28_1 : FaOf Tryd.prog 28 1 1 := fa_of (sz := 0) Tryd.underlying28 rfl rfl (by kernel_rfl)
theorem fa_28_2 : FaOf Tryd.prog 28 2 2 := fa_of (sz := 0) Tryd.underlying28 rfl rfl (by kernel_rfl)
theorem sc_26 : ScOf Tryd.prog 26 := sc_of Tryd.underlying26 rfl (by kernel_rfl)
theorem zr_28 : ZrOf Tryd.prog 28 [.string (ByteArray.mk #[]), .string (ByteArray.mk #[]), .int .u64 0] := zr_of (z := .agg #[.string (ByteArray.mk #[]), .string (ByteArray.mk #[]), .int .u64 0]) (by kernel_rfl) rfl
theorem fn_17 : FnOf Tryd.prog 17 := ⟨_, Tryd.func17, by kernel_rfl, rfl⟩
theorem fn_30 : FnOf Tryd.prog 30 := ⟨_, Tryd.func30, by kernel_rfl, rfl⟩
theorem fn_18 : FnOf Tryd.prog 18 := ⟨_, Tryd.func18, by kernel_rfl, rfl⟩
theorem fn_10 : FnOf Tryd.prog 10 := ⟨_, Tryd.func10, by kernel_rfl, rfl⟩
theorem fn_11 : FnOf Tryd.prog 11 := ⟨_, Tryd.func11, by kernel_rfl, rfl⟩
theorem fn_12 : FnOf Tryd.prog 12 := ⟨_, Tryd.func12, by kernel_rfl, rfl⟩
theorem fn_7 : FnOf Tryd.prog 7 := ⟨_, Tryd.func7, by kernel_rfl, rfl⟩
theorem fn_31 : FnOf Tryd.prog 31 := ⟨_, Tryd.func31, by kernel_rfl, rfl⟩
theorem fn_23 : FnOf Tryd.prog 23 := ⟨_, Tryd.func23, by kernel_rfl, rfl⟩
theorem fn_14 : FnOf Tryd.prog 14 := ⟨_, Tryd.func14, by kernel_rfl, rfl⟩
theorem fn_58 : FnOf Tryd.prog 58 := ⟨_, Tryd.func58, by kernel_rfl, rfl⟩
theorem fn_73 : FnOf Tryd.prog 73 := ⟨_, Tryd.func73, by kernel_rfl, rfl⟩
theorem fn_54 : FnOf Tryd.prog 54 := ⟨_, Tryd.func54, by kernel_rfl, rfl⟩
theorem el_9 : ElOf Tryd.prog 9 1 16 := el_of (z := .string (ByteArray.mk #[])) (by kernel_rfl) rfl
theorem fn_68 : FnOf Tryd.prog 68 := ⟨_, Tryd.func68, by kernel_rfl, rfl⟩
theorem fn_46 : FnOf Tryd.prog 46 := ⟨_, Tryd.func46, by kernel_rfl, rfl⟩
theorem sc_91 : ScOf Tryd.prog 91 := sc_of Tryd.underlying91 rfl (by kernel_rfl)
theorem zr_91 : ZrOf Tryd.prog 91 [.int .u64 0] := zr_of (z := .int .u64 0) (by kernel_rfl) rfl
theorem fn_70 : FnOf Tryd.prog 70 := ⟨_, Tryd.func70, by kernel_rfl, rfl⟩
theorem fn_69 : FnOf Tryd.prog 69 := ⟨_, Tryd.func69, by kernel_rfl, rfl⟩
theorem sc_3 : ScOf Tryd.prog 3 := sc_of Tryd.underlying3 rfl (by kernel_rfl)
theorem fn_78 : FnOf Tryd.prog 78 := ⟨_, Tryd.func78, by kernel_rfl, rfl⟩
theorem fn_72 : FnOf Tryd.prog 72 := ⟨_, Tryd.func72, by kernel_rfl, rfl⟩
theorem zr_3 : ZrOf Tryd.prog 3 [.int .i64 0] := zr_of (z := .int .i64 0) (by kernel_rfl) rfl
theorem fn_71 : FnOf Tryd.prog 71 := ⟨_, Tryd.func71, by kernel_rfl, rfl⟩
theorem fn_48 : FnOf Tryd.prog 48 := ⟨_, Tryd.func48, by kernel_rfl, rfl⟩
theorem fn_49 : FnOf Tryd.prog 49 := ⟨_, Tryd.func49, by kernel_rfl, rfl⟩
theorem fn_52 : FnOf Tryd.prog 52 := ⟨_, Tryd.func52, by kernel_rfl, rfl⟩
theorem fn_53 : FnOf Tryd.prog 53 := ⟨_, Tryd.func53, by kernel_rfl, rfl⟩
theorem fn_55 : FnOf Tryd.prog 55 := ⟨_, Tryd.func55, by kernel_rfl, rfl⟩
theorem fn_45 : FnOf Tryd.prog 45 := ⟨_, Tryd.func45, by kernel_rfl, rfl⟩
theorem fn_56 : FnOf Tryd.prog 56 := ⟨_, Tryd.func56, by kernel_rfl, rfl⟩
theorem fn_51 : FnOf Tryd.prog 51 := ⟨_, Tryd.func51, by kernel_rfl, rfl⟩
theorem fn_50 : FnOf Tryd.prog 50 := ⟨_, Tryd.func50, by kernel_rfl, rfl⟩
theorem zr_9 : ZrOf Tryd.prog 9 [.string (ByteArray.mk #[])] := zr_of (z := .string (ByteArray.mk #[])) (by kernel_rfl) rfl
theorem fn_42 : FnOf Tryd.prog 42 := ⟨_, Tryd.func42, by kernel_rfl, rfl⟩
theorem fn_41 : FnOf Tryd.prog 41 := ⟨_, Tryd.func41, by kernel_rfl, rfl⟩
theorem fn_77 : FnOf Tryd.prog 77 := ⟨_, Tryd.func77, by kernel_rfl, rfl⟩
theorem fn_65 : FnOf Tryd.prog 65 := ⟨_, Tryd.func65, by kernel_rfl, rfl⟩
theorem el_26 : ElOf Tryd.prog 26 1 8 := el_of (z := .int .u64 0) (by kernel_rfl) rfl
theorem fn_74 : FnOf Tryd.prog 74 := ⟨_, Tryd.func74, by kernel_rfl, rfl⟩
theorem fn_79 : FnOf Tryd.prog 79 := ⟨_, Tryd.func79, by kernel_rfl, rfl⟩
theorem fn_76 : FnOf Tryd.prog 76 := ⟨_, Tryd.func76, by kernel_rfl, rfl⟩
theorem fn_75 : FnOf Tryd.prog 75 := ⟨_, Tryd.func75, by kernel_rfl, rfl⟩
theorem fn_59 : FnOf Tryd.prog 59 := ⟨_, Tryd.func59, by kernel_rfl, rfl⟩
theorem fn_60 : FnOf Tryd.prog 60 := ⟨_, Tryd.func60, by kernel_rfl, rfl⟩
theorem fn_63 : FnOf Tryd.prog 63 := ⟨_, Tryd.func63, by kernel_rfl, rfl⟩
theorem fn_64 : FnOf Tryd.prog 64 := ⟨_, Tryd.func64, by kernel_rfl, rfl⟩
theorem fn_66 : FnOf Tryd.prog 66 := ⟨_, Tryd.func66, by kernel_rfl, rfl⟩
theorem fn_47 : FnOf Tryd.prog 47 := ⟨_, Tryd.func47, by kernel_rfl, rfl⟩
theorem fn_67 : FnOf Tryd.prog 67 := ⟨_, Tryd.func67, by kernel_rfl, rfl⟩
theorem fn_62 : FnOf Tryd.prog 62 := ⟨_, Tryd.func62, by kernel_rfl, rfl⟩
theorem fn_61 : FnOf Tryd.prog 61 := ⟨_, Tryd.func61, by kernel_rfl, rfl⟩
theorem zr_26 : ZrOf Tryd.prog 26 [.int .u64 0] := zr_of (z := .int .u64 0) (by kernel_rfl) rfl
theorem fn_44 : FnOf Tryd.prog 44 := ⟨_, Tryd.func44, by kernel_rfl, rfl⟩
theorem fn_43 : FnOf Tryd.prog 43 := ⟨_, Tryd.func43, by kernel_rfl, rfl⟩
theorem zr_53 : ZrOf Tryd.prog 53 [.string (ByteArray.mk #[]), .string (ByteArray.mk #[]), (.slice none 0 0)] := zr_of (z := .agg #[.string (ByteArray.mk #[]), .string (ByteArray.mk #[]), (.slice none 0 0)]) (by kernel_rfl) rfl
theorem ag_53 : AgOf Tryd.prog 53 3 := ⟨_, Tryd.underlying53, rfl, by kernel_rfl⟩
theorem fa_53_0 : FaOf Tryd.prog 53 0 0 := fa_of (sz := 0) Tryd.underlying53 rfl rfl (by kernel_rfl)
theorem fa_53_1 : FaOf Tryd.prog 53 1 1 := fa_of (sz := 0) Tryd.underlying53 rfl rfl (by kernel_rfl)
theorem fa_53_2 : FaOf Tryd.prog 53 2 2 := fa_of (sz := 0) Tryd.underlying53 rfl rfl (by kernel_rfl)
theorem sc_51 : ScOf Tryd.prog 51 := sc_of Tryd.underlying51 rfl (by kernel_rfl)
theorem el_53 : ElOf Tryd.prog 53 3 56 := el_of (z := .agg #[.string (ByteArray.mk #[]), .string (ByteArray.mk #[]), (.slice none 0 0)]) (by kernel_rfl) rfl
theorem fn_34 : FnOf Tryd.prog 34 := ⟨_, Tryd.func34, by kernel_rfl, rfl⟩
theorem fn_33 : FnOf Tryd.prog 33 := ⟨_, Tryd.func33, by kernel_rfl, rfl⟩
theorem fn_35 : FnOf Tryd.prog 35 := ⟨_, Tryd.func35, by kernel_rfl, rfl⟩
theorem fn_32 : FnOf Tryd.prog 32 := ⟨_, Tryd.func32, by kernel_rfl, rfl⟩
theorem fn_37 : FnOf Tryd.prog 37 := ⟨_, Tryd.func37, by kernel_rfl, rfl⟩
theorem fn_38 : FnOf Tryd.prog 38 := ⟨_, Tryd.func38, by kernel_rfl, rfl⟩
theorem fn_36 : FnOf Tryd.prog 36 := ⟨_, Tryd.func36, by kernel_rfl, rfl⟩
theorem fn_28 : FnOf Tryd.prog 28 := ⟨_, Tryd.func28, by kernel_rfl, rfl⟩
theorem fn_21 : FnOf Tryd.prog 21 := ⟨_, Tryd.func21, by kernel_rfl, rfl⟩
theorem fn_19 : FnOf Tryd.prog 19 := ⟨_, Tryd.func19, by kernel_rfl, rfl⟩
theorem zr_4 : ZrOf Tryd.prog 4 [.bool false] := zr_of (z := .bool false) (by kernel_rfl) rfl
theorem fa_42_0 : FaOf Tryd.prog 42 0 0 := fa_of (sz := 0) Tryd.underlying42 rfl rfl (by kernel_rfl)
theorem fa_42_1 : FaOf Tryd.prog 42 1 1 := fa_of (sz := 0) Tryd.underlying42 rfl rfl (by kernel_rfl)
theorem fa_42_4 : FaOf Tryd.prog 42 4 4 := fa_of (sz := 0) Tryd.underlying42 rfl rfl (by kernel_rfl)
theorem fn_22 : FnOf Tryd.prog 22 := ⟨_, Tryd.func22, by kernel_rfl, rfl⟩
theorem sc_4 : ScOf Tryd.prog 4 := sc_of Tryd.underlying4 rfl (by kernel_rfl)
theorem fn_24 : FnOf Tryd.prog 24 := ⟨_, Tryd.func24, by kernel_rfl, rfl⟩
theorem fn_27 : FnOf Tryd.prog 27 := ⟨_, Tryd.func27, by kernel_rfl, rfl⟩
theorem fn_40 : FnOf Tryd.prog 40 := ⟨_, Tryd.func40, by kernel_rfl, rfl⟩
theorem sc_43 : ScOf Tryd.prog 43 := sc_of Tryd.underlying43 rfl (by kernel_rfl)
theorem fn_25 : FnOf Tryd.prog 25 := ⟨_, Tryd.func25, by kernel_rfl, rfl⟩
theorem fa_66_0 : FaOf Tryd.prog 66 0 0 := fa_of (sz := 0) Tryd.underlying66 rfl rfl (by kernel_rfl)
theorem sc_22 : ScOf Tryd.prog 22 := sc_of Tryd.underlying22 rfl (by kernel_rfl)
theorem fn_39 : FnOf Tryd.prog 39 := ⟨_, Tryd.func39, by kernel_rfl, rfl⟩
theorem fn_26 : FnOf Tryd.prog 26 := ⟨_, Tryd.func26, by kernel_rfl, rfl⟩
theorem zr_37 : ZrOf Tryd.prog 37 [(.slice none 0 0)] := zr_of (z := (.slice none 0 0)) (by kernel_rfl) rfl
theorem sc_37 : ScOf Tryd.prog 37 := sc_of Tryd.underlying37 rfl (by kernel_rfl)
theorem fn_29 : FnOf Tryd.prog 29 := ⟨_, Tryd.func29, by kernel_rfl, rfl⟩
theorem fa_66_1 : FaOf Tryd.prog 66 1 1 := fa_of (sz := 0) Tryd.underlying66 rfl rfl (by kernel_rfl)
theorem eqn_28 (n : Nat) (x y : Tomb) (w : World) : (Op.equalIn (n + 2) 28 (.agg (Tomb.enc x).toArray) (.agg (Tomb.enc y).toArray)).run Tryd.prog w = .ok (Tomb.eqb x y) w := eqA_of Tryd.underlying28 (by kernel_rfl) (fun w => eqf_step rfl Tryd.underlying9 rfl rfl rfl (fun w => eqIn_str _ _ _ _ Tryd.underlying9 w) (eqf_step rfl Tryd.underlying9 rfl rfl rfl (fun w => eqIn_str _ _ _ _ Tryd.underlying9 w) (eqf_step rfl Tryd.underlying26 rfl rfl rfl (fun w => eqIn_int _ _ _ _ Tryd.underlying26 w) (eqf_nil)))) w
theorem eqof_28 : EqOf Tryd.prog 28 Tomb.enc Tomb.eqb := ⟨by kernel_rfl, fun x y w => eqn_28 9998 x y w⟩
theorem bsI {α β : Type} {o : Option α} {f : α → Option β} {b : β} (h : o.bind f = some b) : ∃ a, o = some a ∧ f a = some b := Option.bind_eq_some_iff.1 h
theorem bfI {b : Bool} (h : ¬ b = true) : b = false := Bool.eq_false_iff.2 h
end Go.Proofs.YtmbhgfigffahbaaDoor.Mo
