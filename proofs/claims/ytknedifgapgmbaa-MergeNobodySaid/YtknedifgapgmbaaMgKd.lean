import Derived.Test.YtknedifgapgmbaaMgTw
import Derived.Test.YtknedifgapgmbaaProg
set_option linter.unusedVariables false
set_option linter.unusedSectionVars false
set_option linter.unusedSimpArgs false
set_option maxRecDepth 100000
namespace Go.Proofs.Ytknedifgapgmbaa.Mo
open Go Go.Proofs.Ytknedifgapgmbaa.Sy
open Go.Proofs
def k_Entry : Kd Entry := Kd.flat 4 Entry.enc (fun _ => rfl) (fun x u hu => by simp only [Entry.enc, List.mem_cons, List.not_mem_nil, or_false] at hu; rcases hu with h | h | h | h <;> subst h <;> rfl)
def k_IKey : Kd IKey := Kd.flat 3 IKey.enc (fun _ => rfl) (fun x u hu => by simp only [IKey.enc, List.mem_cons, List.not_mem_nil, or_false] at hu; rcases hu with h | h | h <;> subst h <;> rfl)
def k_merge_List : Kd merge_List := Kd.iso (Kd.pair (Kd.slice 32 k_Entry) (Kd.pair (Kd.int .i64) Kd.bool)) (fun x => (x.l, x.at_, x.made))
def k_merge_head : Kd merge_head := Kd.flat 5 merge_head.enc (fun _ => rfl) (fun x u hu => by simp only [merge_head.enc, List.mem_cons, List.not_mem_nil, or_false] at hu; rcases hu with h | h | h | h | h <;> subst h <;> rfl)
def k_merge_Merged : Kd merge_Merged := Kd.iso (Kd.pair (Kd.slice 77 (Kd.itf 35 65 k_merge_List)) (Kd.pair (Kd.slice 81 k_merge_head) (Kd.pair Kd.bool (Kd.pair (Kd.int .i64) Kd.bool)))) (fun x => (x.sources, x.heap, x.back, x.state, x.made))
def k_L19_Move : Kd L19_Move := Kd.flat 4 L19_Move.enc (fun _ => rfl) (fun x u hu => by simp only [L19_Move.enc, List.mem_cons, List.not_mem_nil, or_false] at hu; rcases hu with h | h | h | h <;> subst h <;> rfl)
theorem SH.op_merge_List {F : Nat → Prop} {w0 w : World} {M : List SP} {g : Nat} {x : merge_List} (h : SH F w0 w (El (Kd.ptr 65 k_merge_List) [.pointer (some ⟨g, 0, none⟩)] x :: M)) : ∃ (v0 : Value), SH F w0 w (Row k_Entry 32 v0 x.l :: Box g [v0, .int .i64 x.at_, .bool x.made] 65 :: M) := by
  obtain ⟨c, h⟩ := SH.openPtr h
  replace h := h.front 1 rfl
  replace h := SH.openIso h
  obtain ⟨c0, d0, rfl, h⟩ := SH.openPair h
  obtain ⟨v0, rfl, h⟩ := SH.openSl h
  replace h := h.front 1 rfl
  obtain ⟨c1, d1, rfl, h⟩ := SH.openPair h
  obtain ⟨rfl, h⟩ := SH.openFlat h
  obtain ⟨rfl, h⟩ := SH.openFlat h
  exact ⟨v0, h⟩
theorem SH.op_merge_Merged {F : Nat → Prop} {w0 w : World} {M : List SP} {g : Nat} {x : merge_Merged} (h : SH F w0 w (El (Kd.ptr 62 k_merge_Merged) [.pointer (some ⟨g, 0, none⟩)] x :: M)) : ∃ (v0 : Value), ∃ (v1 : Value), SH F w0 w (Row k_merge_head 81 v1 x.heap :: Row (Kd.itf 35 65 k_merge_List) 77 v0 x.sources :: Box g [v0, v1, .bool x.back, .int .i64 x.state, .bool x.made] 62 :: M) := by
  obtain ⟨c, h⟩ := SH.openPtr h
  replace h := h.front 1 rfl
  replace h := SH.openIso h
  obtain ⟨c0, d0, rfl, h⟩ := SH.openPair h
  obtain ⟨v0, rfl, h⟩ := SH.openSl h
  replace h := h.front 1 rfl
  obtain ⟨c1, d1, rfl, h⟩ := SH.openPair h
  obtain ⟨v1, rfl, h⟩ := SH.openSl h
  replace h := h.front 1 rfl
  obtain ⟨c2, d2, rfl, h⟩ := SH.openPair h
  obtain ⟨rfl, h⟩ := SH.openFlat h
  obtain ⟨c3, d3, rfl, h⟩ := SH.openPair h
  obtain ⟨rfl, h⟩ := SH.openFlat h
  obtain ⟨rfl, h⟩ := SH.openFlat h
  exact ⟨v0, v1, h⟩
theorem el_32 : ElOf Try.prog 32 4 48 := el_of (z := .agg #[.string (ByteArray.mk #[]), .int .u64 0, .int .i64 0, .string (ByteArray.mk #[])]) (by kernel_rfl) rfl
theorem sc_24 : ScOf Try.prog 24 := sc_of Try.underlying24 rfl (by kernel_rfl)
theorem fo : Try.prog.follows .mixedOrders = true := by kernel_rfl
theorem ag_32 : AgOf Try.prog 32 4 := ⟨_, Try.underlying32, rfl, by kernel_rfl⟩
theorem fn_76 : FnOf Try.prog 76 := ⟨_, Try.func76, by kernel_rfl, rfl⟩
theorem fn_75 : FnOf Try.prog 75 := ⟨_, Try.func75, by kernel_rfl, rfl⟩
theorem fn_74 : FnOf Try.prog 74 := ⟨_, Try.func74, by kernel_rfl, rfl⟩
theorem fn_73 : FnOf Try.prog 73 := ⟨_, Try.func73, by kernel_rfl, rfl⟩
theorem fn_70 : FnOf Try.prog 70 := ⟨_, Try.func70, by kernel_rfl, rfl⟩
theorem ext_72 : ExtOf Try.prog 72 Extern.BytealgCompare.compare := ⟨_, Try.func72, by kernel_rfl, by kernel_rfl, by kernel_rfl, by kernel_rfl⟩
theorem fn_66 : FnOf Try.prog 66 := ⟨_, Try.func66, by kernel_rfl, rfl⟩
theorem fn_67 : FnOf Try.prog 67 := ⟨_, Try.func67, by kernel_rfl, rfl⟩
theorem fn_68 : FnOf Try.prog 68 := ⟨_, Try.func68, by kernel_rfl, rfl⟩
theorem sc_3 : ScOf Try.prog 3 := sc_of Try.underlying3 rfl (by kernel_rfl)
theorem el_3 : ElOf Try.prog 3 1 8 := el_of (z := .int .i64 0) (by kernel_rfl) rfl
theorem fa_42_0 : FaOf Try.prog 42 0 0 := fa_of (sz := 0) Try.underlying42 rfl rfl (by kernel_rfl)
theorem sc_9 : ScOf Try.prog 9 := sc_of Try.underlying9 rfl (by kernel_rfl)
theorem fa_42_1 : FaOf Try.prog 42 1 1 := fa_of (sz := 0) Try.underlying42 rfl rfl (by kernel_rfl)
theorem sc_30 : ScOf Try.prog 30 := sc_of Try.underlying30 rfl (by kernel_rfl)
theorem fa_42_2 : FaOf Try.prog 42 2 2 := fa_of (sz := 0) Try.underlying42 rfl rfl (by kernel_rfl)
theorem fn_51 : FnOf Try.prog 51 := ⟨_, Try.func51, by kernel_rfl, rfl⟩
theorem fn_54 : FnOf Try.prog 54 := ⟨_, Try.func54, by kernel_rfl, rfl⟩
theorem fn_53 : FnOf Try.prog 53 := ⟨_, Try.func53, by kernel_rfl, rfl⟩
theorem fn_52 : FnOf Try.prog 52 := ⟨_, Try.func52, by kernel_rfl, rfl⟩
theorem fa_32_0 : FaOf Try.prog 32 0 0 := fa_of (sz := 0) Try.underlying32 rfl rfl (by kernel_rfl)
theorem fa_32_1 : FaOf Try.prog 32 1 1 := fa_of (sz := 0) Try.underlying32 rfl rfl (by kernel_rfl)
theorem fa_32_2 : FaOf Try.prog 32 2 2 := fa_of (sz := 0) Try.underlying32 rfl rfl (by kernel_rfl)
theorem fn_28 : FnOf Try.prog 28 := ⟨_, Try.func28, by kernel_rfl, rfl⟩
theorem fn_59 : FnOf Try.prog 59 := ⟨_, Try.func59, by kernel_rfl, rfl⟩
theorem fn_58 : FnOf Try.prog 58 := ⟨_, Try.func58, by kernel_rfl, rfl⟩
theorem fn_57 : FnOf Try.prog 57 := ⟨_, Try.func57, by kernel_rfl, rfl⟩
theorem zr_32 : ZrOf Try.prog 32 [.string (ByteArray.mk #[]), .int .u64 0, .int .i64 0, .string (ByteArray.mk #[])] := zr_of (z := .agg #[.string (ByteArray.mk #[]), .int .u64 0, .int .i64 0, .string (ByteArray.mk #[])]) (by kernel_rfl) rfl
theorem fn_41 : FnOf Try.prog 41 := ⟨_, Try.func41, by kernel_rfl, rfl⟩
theorem fa_65_2 : FaOf Try.prog 65 2 2 := fa_of (sz := 0) Try.underlying65 rfl rfl (by kernel_rfl)
theorem sc_4 : ScOf Try.prog 4 := sc_of Try.underlying4 rfl (by kernel_rfl)
theorem fa_65_1 : FaOf Try.prog 65 1 1 := fa_of (sz := 0) Try.underlying65 rfl rfl (by kernel_rfl)
theorem fa_65_0 : FaOf Try.prog 65 0 0 := fa_of (sz := 0) Try.underlying65 rfl rfl (by kernel_rfl)
theorem zr_42 : ZrOf Try.prog 42 [.string (ByteArray.mk #[]), .int .u64 0, .int .i64 0] := zr_of (z := .agg #[.string (ByteArray.mk #[]), .int .u64 0, .int .i64 0]) (by kernel_rfl) rfl
theorem ag_42 : AgOf Try.prog 42 3 := ⟨_, Try.underlying42, rfl, by kernel_rfl⟩
theorem fa_81_0 : FaOf Try.prog 81 0 0 := fa_of (sz := 3) Try.underlying81 rfl rfl (by kernel_rfl)
theorem fn_45 : FnOf Try.prog 45 := ⟨_, Try.func45, by kernel_rfl, rfl⟩
theorem fa_81_1 : FaOf Try.prog 81 1 4 := fa_of (sz := 0) Try.underlying81 rfl rfl (by kernel_rfl)
theorem fn_42 : FnOf Try.prog 42 := ⟨_, Try.func42, by kernel_rfl, rfl⟩
theorem fn_46 : FnOf Try.prog 46 := ⟨_, Try.func46, by kernel_rfl, rfl⟩
theorem fa_62_4 : FaOf Try.prog 62 4 4 := fa_of (sz := 0) Try.underlying62 rfl rfl (by kernel_rfl)
theorem fn_47 : FnOf Try.prog 47 := ⟨_, Try.func47, by kernel_rfl, rfl⟩
theorem fa_62_1 : FaOf Try.prog 62 1 1 := fa_of (sz := 0) Try.underlying62 rfl rfl (by kernel_rfl)
theorem sc_60 : ScOf Try.prog 60 := sc_of Try.underlying60 rfl (by kernel_rfl)
theorem fa_62_2 : FaOf Try.prog 62 2 2 := fa_of (sz := 0) Try.underlying62 rfl rfl (by kernel_rfl)
theorem el_81 : ElOf Try.prog 81 5 56 := el_of (z := .agg #[.string (ByteArray.mk #[]), .int .u64 0, .int .i64 0, .string (ByteArray.mk #[]), .int .i64 0]) (by kernel_rfl) rfl
theorem fa_62_0 : FaOf Try.prog 62 0 0 := fa_of (sz := 0) Try.underlying62 rfl rfl (by kernel_rfl)
theorem sc_59 : ScOf Try.prog 59 := sc_of Try.underlying59 rfl (by kernel_rfl)
theorem sc_77 : ScOf Try.prog 77 := sc_of Try.underlying77 rfl (by kernel_rfl)
theorem fn_48 : FnOf Try.prog 48 := ⟨_, Try.func48, by kernel_rfl, rfl⟩
theorem mt_35_First : MtOf Try.prog 35 "First" 16 := by intro v args w; kernel_rfl
theorem fn_16 : FnOf Try.prog 16 := ⟨_, Try.func16, by kernel_rfl, rfl⟩
theorem mt_35_Here : MtOf Try.prog 35 "Here" 15 := by intro v args w; kernel_rfl
theorem fn_61 : FnOf Try.prog 61 := ⟨_, Try.func61, by kernel_rfl, rfl⟩
theorem ag_81 : AgOf Try.prog 81 5 := ⟨_, Try.underlying81, rfl, by kernel_rfl⟩
theorem fn_64 : FnOf Try.prog 64 := ⟨_, Try.func64, by kernel_rfl, rfl⟩
theorem fn_71 : FnOf Try.prog 71 := ⟨_, Try.func71, by kernel_rfl, rfl⟩
theorem fn_15 : FnOf Try.prog 15 := ⟨_, Try.func15, by kernel_rfl, rfl⟩
theorem el_77 : ElOf Try.prog 77 1 16 := el_of (z := .nilIface) (by kernel_rfl) rfl
theorem fn_62 : FnOf Try.prog 62 := ⟨_, Try.func62, by kernel_rfl, rfl⟩
theorem fa_62_3 : FaOf Try.prog 62 3 3 := fa_of (sz := 0) Try.underlying62 rfl rfl (by kernel_rfl)
theorem sc_50 : ScOf Try.prog 50 := sc_of Try.underlying50 rfl (by kernel_rfl)
theorem zr_81 : ZrOf Try.prog 81 [.string (ByteArray.mk #[]), .int .u64 0, .int .i64 0, .string (ByteArray.mk #[]), .int .i64 0] := zr_of (z := .agg #[.string (ByteArray.mk #[]), .int .u64 0, .int .i64 0, .string (ByteArray.mk #[]), .int .i64 0]) (by kernel_rfl) rfl
theorem fn_63 : FnOf Try.prog 63 := ⟨_, Try.func63, by kernel_rfl, rfl⟩
theorem mt_35_Prev : MtOf Try.prog 35 "Prev" 20 := by intro v args w; kernel_rfl
theorem fn_20 : FnOf Try.prog 20 := ⟨_, Try.func20, by kernel_rfl, rfl⟩
theorem mt_35_Next : MtOf Try.prog 35 "Next" 19 := by intro v args w; kernel_rfl
theorem fn_19 : FnOf Try.prog 19 := ⟨_, Try.func19, by kernel_rfl, rfl⟩
theorem fn_65 : FnOf Try.prog 65 := ⟨_, Try.func65, by kernel_rfl, rfl⟩
theorem fn_24 : FnOf Try.prog 24 := ⟨_, Try.func24, by kernel_rfl, rfl⟩
theorem fn_49 : FnOf Try.prog 49 := ⟨_, Try.func49, by kernel_rfl, rfl⟩
theorem fn_50 : FnOf Try.prog 50 := ⟨_, Try.func50, by kernel_rfl, rfl⟩
theorem fn_69 : FnOf Try.prog 69 := ⟨_, Try.func69, by kernel_rfl, rfl⟩
theorem mt_35_Last : MtOf Try.prog 35 "Last" 17 := by intro v args w; kernel_rfl
theorem fn_17 : FnOf Try.prog 17 := ⟨_, Try.func17, by kernel_rfl, rfl⟩
theorem fn_55 : FnOf Try.prog 55 := ⟨_, Try.func55, by kernel_rfl, rfl⟩
theorem fn_14 : FnOf Try.prog 14 := ⟨_, Try.func14, by kernel_rfl, rfl⟩
theorem fn_37 : FnOf Try.prog 37 := ⟨_, Try.func37, by kernel_rfl, rfl⟩
theorem fn_33 : FnOf Try.prog 33 := ⟨_, Try.func33, by kernel_rfl, rfl⟩
theorem fn_27 : FnOf Try.prog 27 := ⟨_, Try.func27, by kernel_rfl, rfl⟩
theorem fn_26 : FnOf Try.prog 26 := ⟨_, Try.func26, by kernel_rfl, rfl⟩
theorem fn_25 : FnOf Try.prog 25 := ⟨_, Try.func25, by kernel_rfl, rfl⟩
theorem fn_30 : FnOf Try.prog 30 := ⟨_, Try.func30, by kernel_rfl, rfl⟩
theorem fn_39 : FnOf Try.prog 39 := ⟨_, Try.func39, by kernel_rfl, rfl⟩
theorem fn_40 : FnOf Try.prog 40 := ⟨_, Try.func40, by kernel_rfl, rfl⟩
theorem fn_34 : FnOf Try.prog 34 := ⟨_, Try.func34, by kernel_rfl, rfl⟩
theorem fn_44 : FnOf Try.prog 44 := ⟨_, Try.func44, by kernel_rfl, rfl⟩
theorem fn_43 : FnOf Try.prog 43 := ⟨_, Try.func43, by kernel_rfl, rfl⟩
theorem fn_56 : FnOf Try.prog 56 := ⟨_, Try.func56, by kernel_rfl, rfl⟩
theorem mt_35_Seek : MtOf Try.prog 35 "Seek" 18 := by intro v args w; kernel_rfl
theorem fn_18 : FnOf Try.prog 18 := ⟨_, Try.func18, by kernel_rfl, rfl⟩
theorem fa_44_0 : FaOf Try.prog 44 0 0 := fa_of (sz := 0) Try.underlying44 rfl rfl (by kernel_rfl)
theorem fa_44_1 : FaOf Try.prog 44 1 1 := fa_of (sz := 2) Try.underlying44 rfl rfl (by kernel_rfl)
theorem fn_35 : FnOf Try.prog 35 := ⟨_, Try.func35, by kernel_rfl, rfl⟩
theorem ag_44 : AgOf Try.prog 44 4 := ⟨_, Try.underlying44, rfl, by kernel_rfl⟩
theorem fn_32 : FnOf Try.prog 32 := ⟨_, Try.func32, by kernel_rfl, rfl⟩
theorem el_50 : ElOf Try.prog 50 1 8 := el_of (z := .pointer none) (by kernel_rfl) rfl
theorem el_35 : ElOf Try.prog 35 1 8 := el_of (z := .pointer none) (by kernel_rfl) rfl
theorem sc_35 : ScOf Try.prog 35 := sc_of Try.underlying35 rfl (by kernel_rfl)
theorem eqn_32 (n : Nat) (x y : Entry) (w : World) : (Op.equalIn (n + 2) 32 (.agg (Entry.enc x).toArray) (.agg (Entry.enc y).toArray)).run Try.prog w = .ok (Entry.eqb x y) w := eqA_of Try.underlying32 (by kernel_rfl) (fun w => eqf_step rfl Try.underlying9 rfl rfl rfl (fun w => eqIn_str _ _ _ _ Try.underlying9 w) (eqf_step rfl Try.underlying30 rfl rfl rfl (fun w => eqIn_int _ _ _ _ Try.underlying30 w) (eqf_step rfl Try.underlying3 rfl rfl rfl (fun w => eqIn_int _ _ _ _ Try.underlying3 w) (eqf_step rfl Try.underlying9 rfl rfl rfl (fun w => eqIn_str _ _ _ _ Try.underlying9 w) (eqf_nil))))) w
theorem eqof_32 : EqOf Try.prog 32 Entry.enc Entry.eqb := ⟨by kernel_rfl, fun x y w => eqn_32 9998 x y w⟩
end Go.Proofs.Ytknedifgapgmbaa.Mo
