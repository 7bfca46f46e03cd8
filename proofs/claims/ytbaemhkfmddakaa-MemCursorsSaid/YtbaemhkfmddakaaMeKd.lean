import Derived.Test.YtbaemhkfmddakaaMeTw
import Derived.Test.YtbaemhkfmddakaaProg
set_option linter.unusedVariables false
set_option linter.unusedSectionVars false
set_option linter.unusedSimpArgs false
set_option maxRecDepth 100000
namespace Go.Proofs.Ytbaemhkfmddakaa.Mo
open Go Go.Proofs.Ytbaemhkfmddakaa.Sy
open Go.Proofs
def k_Tomb : Kd Tomb := Kd.flat 3 Tomb.enc (fun _ => rfl) (fun x u hu => by simp only [Tomb.enc, List.mem_cons, List.not_mem_nil, or_false] at hu; rcases hu with h | h | h <;> subst h <;> rfl)
def k_IKey : Kd IKey := Kd.flat 3 IKey.enc (fun _ => rfl) (fun x u hu => by simp only [IKey.enc, List.mem_cons, List.not_mem_nil, or_false] at hu; rcases hu with h | h | h <;> subst h <;> rfl)
def k_skip_node_string : Kd skip_node_string := Kd.flat 18 skip_node_string.enc (fun _ => rfl) (fun x u hu => by simp only [skip_node_string.enc, List.mem_cons, List.not_mem_nil, or_false] at hu; rcases hu with h | h | h | h | h | h | h | h | h | h | h | h | h | h | h | h | h | h <;> subst h <;> rfl)
def k_skip_List_string : Kd skip_List_string := Kd.iso (Kd.pair (Kd.slice 106 k_skip_node_string) (Kd.pair (Kd.int .i64) (Kd.pair (Kd.int .i64) (Kd.int .i64)))) (fun x => (x.nodes, x.most, x.height, x.last))
def k_tomb_Set : Kd tomb_Set := Kd.iso (Kd.pair (Kd.slice 83 k_Tomb) Kd.bool) (fun x => (x.tombs, x.made))
def k_mem_Table : Kd mem_Table := Kd.iso (Kd.pair Kd.bool (Kd.pair Kd.bool (Kd.pair (Kd.int .i64) (Kd.pair (Kd.ptr 97 k_skip_List_string) (Kd.pair (Kd.ptr 100 k_tomb_Set) (Kd.pair (Kd.int .i64) (Kd.pair (Kd.int .i64) (Kd.pair (Kd.int .u64) (Kd.int .u64))))))))) (fun x => (x.made, x.frozen, x.log, x.list, x.tombs, x.size, x.n, x.low, x.high))
def k_Op : Kd Op := Kd.flat 3 Op.enc (fun _ => rfl) (fun x u hu => by simp only [Op.enc, List.mem_cons, List.not_mem_nil, or_false] at hu; rcases hu with h | h | h <;> subst h <;> rfl)
def k_Entry : Kd Entry := Kd.flat 4 Entry.enc (fun _ => rfl) (fun x u hu => by simp only [Entry.enc, List.mem_cons, List.not_mem_nil, or_false] at hu; rcases hu with h | h | h | h <;> subst h <;> rfl)
def k_R10_Spot : Kd R10_Spot := Kd.flat 4 R10_Spot.enc (fun _ => rfl) (fun x u hu => by simp only [R10_Spot.enc, List.mem_cons, List.not_mem_nil, or_false] at hu; rcases hu with h | h | h | h <;> subst h <;> rfl)
def k_mem_Cursor : Kd mem_Cursor := Kd.iso (Kd.pair (Kd.ptr 77 k_mem_Table) (Kd.pair (Kd.int .i64) (Kd.int .i64))) (fun x => (x.t, x.where_, x.n))
def k_L10_Act : Kd L10_Act := Kd.flat 6 L10_Act.enc (fun _ => rfl) (fun x u hu => by simp only [L10_Act.enc, List.mem_cons, List.not_mem_nil, or_false] at hu; rcases hu with h | h | h | h | h | h <;> subst h <;> rfl)
def k_L10_Move : Kd L10_Move := Kd.flat 11 L10_Move.enc (fun _ => rfl) (fun x u hu => by simp only [L10_Move.enc, List.mem_cons, List.not_mem_nil, or_false] at hu; rcases hu with h | h | h | h | h | h | h | h | h | h | h <;> subst h <;> rfl)
theorem SH.op_tomb_Set {F : Nat → Prop} {w0 w : World} {M : List SP} {g : Nat} {x : tomb_Set} (h : SH F w0 w (El (Kd.ptr 100 k_tomb_Set) [.pointer (some ⟨g, 0, none⟩)] x :: M)) : ∃ (v0 : Value), SH F w0 w (Row k_Tomb 83 v0 x.tombs :: Box g [v0, .bool x.made] 100 :: M) := by
  obtain ⟨c, h⟩ := SH.openPtr h
  replace h := h.front 1 rfl
  replace h := SH.openIso h
  obtain ⟨c0, d0, rfl, h⟩ := SH.openPair h
  obtain ⟨v0, rfl, h⟩ := SH.openSl h
  replace h := h.front 1 rfl
  obtain ⟨rfl, h⟩ := SH.openFlat h
  exact ⟨v0, h⟩
theorem SH.op_mem_Table {F : Nat → Prop} {w0 w : World} {M : List SP} {g : Nat} {x : mem_Table} (h : SH F w0 w (El (Kd.ptr 77 k_mem_Table) [.pointer (some ⟨g, 0, none⟩)] x :: M)) : ∃ (g0 : Nat), ∃ (g1 : Nat), SH F w0 w (El (Kd.ptr 100 k_tomb_Set) [.pointer (some ⟨g1, 0, none⟩)] x.tombs :: El (Kd.ptr 97 k_skip_List_string) [.pointer (some ⟨g0, 0, none⟩)] x.list :: Box g [.bool x.made, .bool x.frozen, .int .i64 x.log, .pointer (some ⟨g0, 0, none⟩), .pointer (some ⟨g1, 0, none⟩), .int .i64 x.size, .int .i64 x.n, .int .u64 x.low, .int .u64 x.high] 77 :: M) := by
  obtain ⟨c, h⟩ := SH.openPtr h
  replace h := h.front 1 rfl
  replace h := SH.openIso h
  obtain ⟨c0, d0, rfl, h⟩ := SH.openPair h
  obtain ⟨rfl, h⟩ := SH.openFlat h
  obtain ⟨c1, d1, rfl, h⟩ := SH.openPair h
  obtain ⟨rfl, h⟩ := SH.openFlat h
  obtain ⟨c2, d2, rfl, h⟩ := SH.openPair h
  obtain ⟨rfl, h⟩ := SH.openFlat h
  obtain ⟨c3, d3, rfl, h⟩ := SH.openPair h
  obtain ⟨g0, rfl, h⟩ := SH.whoPtr h
  replace h := h.front 1 rfl
  obtain ⟨c4, d4, rfl, h⟩ := SH.openPair h
  obtain ⟨g1, rfl, h⟩ := SH.whoPtr h
  replace h := h.front 1 rfl
  obtain ⟨c5, d5, rfl, h⟩ := SH.openPair h
  obtain ⟨rfl, h⟩ := SH.openFlat h
  obtain ⟨c6, d6, rfl, h⟩ := SH.openPair h
  obtain ⟨rfl, h⟩ := SH.openFlat h
  obtain ⟨c7, d7, rfl, h⟩ := SH.openPair h
  obtain ⟨rfl, h⟩ := SH.openFlat h
  obtain ⟨rfl, h⟩ := SH.openFlat h
  exact ⟨g0, g1, h⟩
theorem SH.op_skip_List_string {F : Nat → Prop} {w0 w : World} {M : List SP} {g : Nat} {x : skip_List_string} (h : SH F w0 w (El (Kd.ptr 97 k_skip_List_string) [.pointer (some ⟨g, 0, none⟩)] x :: M)) : ∃ (v0 : Value), SH F w0 w (Row k_skip_node_string 106 v0 x.nodes :: Box g [v0, .int .i64 x.most, .int .i64 x.height, .int .i64 x.last] 97 :: M) := by
  obtain ⟨c, h⟩ := SH.openPtr h
  replace h := h.front 1 rfl
  replace h := SH.openIso h
  obtain ⟨c0, d0, rfl, h⟩ := SH.openPair h
  obtain ⟨v0, rfl, h⟩ := SH.openSl h
  replace h := h.front 1 rfl
  obtain ⟨c1, d1, rfl, h⟩ := SH.openPair h
  obtain ⟨rfl, h⟩ := SH.openFlat h
  obtain ⟨c2, d2, rfl, h⟩ := SH.openPair h
  obtain ⟨rfl, h⟩ := SH.openFlat h
  obtain ⟨rfl, h⟩ := SH.openFlat h
  exact ⟨v0, h⟩
theorem fa_83_0 : FaOf Try.prog 83 0 0 := fa_of (sz := 0) Try.underlying83 rfl rfl (by kernel_rfl)
theorem sc_9 : ScOf Try.prog 9 := sc_of Try.underlying9 rfl (by kernel_rfl)
theorem fa_83_1 : FaOf Try.prog 83 1 1 := fa_of (sz := 0) Try.underlying83 rfl rfl (by kernel_rfl)
theorem fa_83_2 : FaOf Try.prog 83 2 2 := fa_of (sz := 0) Try.underlying83 rfl rfl (by kernel_rfl)
theorem sc_27 : ScOf Try.prog 27 := sc_of Try.underlying27 rfl (by kernel_rfl)
theorem ag_83 : AgOf Try.prog 83 3 := ⟨_, Try.underlying83, rfl, by kernel_rfl⟩
theorem zr_83 : ZrOf Try.prog 83 [.string (ByteArray.mk #[]), .string (ByteArray.mk #[]), .int .u64 0] := zr_of (z := .agg #[.string (ByteArray.mk #[]), .string (ByteArray.mk #[]), .int .u64 0]) (by kernel_rfl) rfl
theorem el_83 : ElOf Try.prog 83 3 40 := el_of (z := .agg #[.string (ByteArray.mk #[]), .string (ByteArray.mk #[]), .int .u64 0]) (by kernel_rfl) rfl
theorem fn_67 : FnOf Try.prog 67 := ⟨_, Try.func67, by kernel_rfl, rfl⟩
theorem fa_38_1 : FaOf Try.prog 38 1 1 := fa_of (sz := 0) Try.underlying38 rfl rfl (by kernel_rfl)
theorem fa_38_0 : FaOf Try.prog 38 0 0 := fa_of (sz := 0) Try.underlying38 rfl rfl (by kernel_rfl)
theorem sc_3 : ScOf Try.prog 3 := sc_of Try.underlying3 rfl (by kernel_rfl)
theorem fa_38_2 : FaOf Try.prog 38 2 2 := fa_of (sz := 0) Try.underlying38 rfl rfl (by kernel_rfl)
theorem fa_100_0 : FaOf Try.prog 100 0 0 := fa_of (sz := 0) Try.underlying100 rfl rfl (by kernel_rfl)
theorem sc_26 : ScOf Try.prog 26 := sc_of Try.underlying26 rfl (by kernel_rfl)
theorem fn_66 : FnOf Try.prog 66 := ⟨_, Try.func66, by kernel_rfl, rfl⟩
theorem fn_68 : FnOf Try.prog 68 := ⟨_, Try.func68, by kernel_rfl, rfl⟩
theorem fa_100_1 : FaOf Try.prog 100 1 1 := fa_of (sz := 0) Try.underlying100 rfl rfl (by kernel_rfl)
theorem sc_4 : ScOf Try.prog 4 := sc_of Try.underlying4 rfl (by kernel_rfl)
theorem fo : Try.prog.follows .mixedOrders = true := by kernel_rfl
theorem fa_77_4 : FaOf Try.prog 77 4 4 := fa_of (sz := 0) Try.underlying77 rfl rfl (by kernel_rfl)
theorem sc_74 : ScOf Try.prog 74 := sc_of Try.underlying74 rfl (by kernel_rfl)
theorem fn_51 : FnOf Try.prog 51 := ⟨_, Try.func51, by kernel_rfl, rfl⟩
theorem fn_52 : FnOf Try.prog 52 := ⟨_, Try.func52, by kernel_rfl, rfl⟩
theorem fn_50 : FnOf Try.prog 50 := ⟨_, Try.func50, by kernel_rfl, rfl⟩
theorem fn_48 : FnOf Try.prog 48 := ⟨_, Try.func48, by kernel_rfl, rfl⟩
theorem fa_97_0 : FaOf Try.prog 97 0 0 := fa_of (sz := 0) Try.underlying97 rfl rfl (by kernel_rfl)
theorem sc_95 : ScOf Try.prog 95 := sc_of Try.underlying95 rfl (by kernel_rfl)
theorem fa_36_0 : FaOf Try.prog 36 0 0 := fa_of (sz := 0) Try.underlying36 rfl rfl (by kernel_rfl)
theorem fa_36_1 : FaOf Try.prog 36 1 1 := fa_of (sz := 0) Try.underlying36 rfl rfl (by kernel_rfl)
theorem fa_36_2 : FaOf Try.prog 36 2 2 := fa_of (sz := 0) Try.underlying36 rfl rfl (by kernel_rfl)
theorem fn_69 : FnOf Try.prog 69 := ⟨_, Try.func69, by kernel_rfl, rfl⟩
theorem ext_89 : ExtOf Try.prog 89 Extern.BytealgCompare.compare := ⟨_, Try.func89, by kernel_rfl, by kernel_rfl, by kernel_rfl, by kernel_rfl⟩
theorem fn_82 : FnOf Try.prog 82 := ⟨_, Try.func82, by kernel_rfl, rfl⟩
theorem fn_83 : FnOf Try.prog 83 := ⟨_, Try.func83, by kernel_rfl, rfl⟩
theorem fn_84 : FnOf Try.prog 84 := ⟨_, Try.func84, by kernel_rfl, rfl⟩
theorem el_3 : ElOf Try.prog 3 1 8 := el_of (z := .int .i64 0) (by kernel_rfl) rfl
theorem fn_74 : FnOf Try.prog 74 := ⟨_, Try.func74, by kernel_rfl, rfl⟩
theorem fn_77 : FnOf Try.prog 77 := ⟨_, Try.func77, by kernel_rfl, rfl⟩
theorem fn_76 : FnOf Try.prog 76 := ⟨_, Try.func76, by kernel_rfl, rfl⟩
theorem fn_75 : FnOf Try.prog 75 := ⟨_, Try.func75, by kernel_rfl, rfl⟩
theorem zr_107 : ZrOf Try.prog 107 [.int .i64 0, .int .i64 0, .int .i64 0, .int .i64 0, .int .i64 0, .int .i64 0, .int .i64 0, .int .i64 0, .int .i64 0, .int .i64 0, .int .i64 0, .int .i64 0] := zr_of (z := .agg #[.int .i64 0, .int .i64 0, .int .i64 0, .int .i64 0, .int .i64 0, .int .i64 0, .int .i64 0, .int .i64 0, .int .i64 0, .int .i64 0, .int .i64 0, .int .i64 0]) (by kernel_rfl) rfl
theorem fa_97_2 : FaOf Try.prog 97 2 2 := fa_of (sz := 0) Try.underlying97 rfl rfl (by kernel_rfl)
theorem fa_106_3 : FaOf Try.prog 106 3 5 := fa_of (sz := 11) Try.underlying106 rfl rfl (by kernel_rfl)
theorem sc_21 : ScOf Try.prog 21 := sc_of Try.underlying21 rfl (by kernel_rfl)
theorem fa_106_0 : FaOf Try.prog 106 0 0 := fa_of (sz := 2) Try.underlying106 rfl rfl (by kernel_rfl)
theorem ag_36 : AgOf Try.prog 36 3 := ⟨_, Try.underlying36, rfl, by kernel_rfl⟩
theorem fn_71 : FnOf Try.prog 71 := ⟨_, Try.func71, by kernel_rfl, rfl⟩
theorem el_106 : ElOf Try.prog 106 18 112 := el_of (z := .agg #[.string (ByteArray.mk #[]), .int .u64 0, .int .i64 0, .string (ByteArray.mk #[]), .int .i64 0, .int .i32 0, .int .i32 0, .int .i32 0, .int .i32 0, .int .i32 0, .int .i32 0, .int .i32 0, .int .i32 0, .int .i32 0, .int .i32 0, .int .i32 0, .int .i32 0, .int .i32 0]) (by kernel_rfl) rfl
theorem ag_107 : AgOf Try.prog 107 12 := ⟨_, Try.underlying107, rfl, by kernel_rfl⟩
theorem fn_53 : FnOf Try.prog 53 := ⟨_, Try.func53, by kernel_rfl, rfl⟩
theorem fn_56 : FnOf Try.prog 56 := ⟨_, Try.func56, by kernel_rfl, rfl⟩
theorem fn_70 : FnOf Try.prog 70 := ⟨_, Try.func70, by kernel_rfl, rfl⟩
theorem fn_54 : FnOf Try.prog 54 := ⟨_, Try.func54, by kernel_rfl, rfl⟩
theorem fn_55 : FnOf Try.prog 55 := ⟨_, Try.func55, by kernel_rfl, rfl⟩
theorem fa_97_1 : FaOf Try.prog 97 1 1 := fa_of (sz := 0) Try.underlying97 rfl rfl (by kernel_rfl)
theorem zr_106 : ZrOf Try.prog 106 [.string (ByteArray.mk #[]), .int .u64 0, .int .i64 0, .string (ByteArray.mk #[]), .int .i64 0, .int .i32 0, .int .i32 0, .int .i32 0, .int .i32 0, .int .i32 0, .int .i32 0, .int .i32 0, .int .i32 0, .int .i32 0, .int .i32 0, .int .i32 0, .int .i32 0, .int .i32 0] := zr_of (z := .agg #[.string (ByteArray.mk #[]), .int .u64 0, .int .i64 0, .string (ByteArray.mk #[]), .int .i64 0, .int .i32 0, .int .i32 0, .int .i32 0, .int .i32 0, .int .i32 0, .int .i32 0, .int .i32 0, .int .i32 0, .int .i32 0, .int .i32 0, .int .i32 0, .int .i32 0, .int .i32 0]) (by kernel_rfl) rfl
theorem ag_106 : AgOf Try.prog 106 18 := ⟨_, Try.underlying106, rfl, by kernel_rfl⟩
theorem fa_106_4 : FaOf Try.prog 106 4 17 := fa_of (sz := 0) Try.underlying106 rfl rfl (by kernel_rfl)
theorem fa_97_3 : FaOf Try.prog 97 3 3 := fa_of (sz := 0) Try.underlying97 rfl rfl (by kernel_rfl)
theorem fn_27 : FnOf Try.prog 27 := ⟨_, Try.func27, by kernel_rfl, rfl⟩
theorem fa_77_0 : FaOf Try.prog 77 0 0 := fa_of (sz := 0) Try.underlying77 rfl rfl (by kernel_rfl)
theorem fa_77_1 : FaOf Try.prog 77 1 1 := fa_of (sz := 0) Try.underlying77 rfl rfl (by kernel_rfl)
theorem ag_38 : AgOf Try.prog 38 3 := ⟨_, Try.underlying38, rfl, by kernel_rfl⟩
theorem fn_28 : FnOf Try.prog 28 := ⟨_, Try.func28, by kernel_rfl, rfl⟩
theorem fn_29 : FnOf Try.prog 29 := ⟨_, Try.func29, by kernel_rfl, rfl⟩
theorem fa_77_3 : FaOf Try.prog 77 3 3 := fa_of (sz := 0) Try.underlying77 rfl rfl (by kernel_rfl)
theorem sc_71 : ScOf Try.prog 71 := sc_of Try.underlying71 rfl (by kernel_rfl)
theorem fn_30 : FnOf Try.prog 30 := ⟨_, Try.func30, by kernel_rfl, rfl⟩
theorem fa_77_6 : FaOf Try.prog 77 6 6 := fa_of (sz := 0) Try.underlying77 rfl rfl (by kernel_rfl)
theorem fa_77_7 : FaOf Try.prog 77 7 7 := fa_of (sz := 0) Try.underlying77 rfl rfl (by kernel_rfl)
theorem fa_77_8 : FaOf Try.prog 77 8 8 := fa_of (sz := 0) Try.underlying77 rfl rfl (by kernel_rfl)
theorem fa_77_5 : FaOf Try.prog 77 5 5 := fa_of (sz := 0) Try.underlying77 rfl rfl (by kernel_rfl)
theorem zr_29 : ZrOf Try.prog 29 [.int .i64 0, (.slice none 0 0), (.slice none 0 0), .int .i64 0, .int .i64 0, .int .u64 0, .int .u64 0, .bool false] := zr_of (z := .agg #[.int .i64 0, (.slice none 0 0), (.slice none 0 0), .int .i64 0, .int .i64 0, .int .u64 0, .int .u64 0, .bool false]) (by kernel_rfl) rfl
theorem fa_29_3 : FaOf Try.prog 29 3 3 := fa_of (sz := 0) Try.underlying29 rfl rfl (by kernel_rfl)
theorem fa_29_5 : FaOf Try.prog 29 5 5 := fa_of (sz := 0) Try.underlying29 rfl rfl (by kernel_rfl)
theorem fa_29_6 : FaOf Try.prog 29 6 6 := fa_of (sz := 0) Try.underlying29 rfl rfl (by kernel_rfl)
theorem fa_29_4 : FaOf Try.prog 29 4 4 := fa_of (sz := 0) Try.underlying29 rfl rfl (by kernel_rfl)
theorem ag_29 : AgOf Try.prog 29 8 := ⟨_, Try.underlying29, rfl, by kernel_rfl⟩
theorem zr_36 : ZrOf Try.prog 36 [.string (ByteArray.mk #[]), .int .u64 0, .int .i64 0] := zr_of (z := .agg #[.string (ByteArray.mk #[]), .int .u64 0, .int .i64 0]) (by kernel_rfl) rfl
theorem fa_53_0 : FaOf Try.prog 53 0 0 := fa_of (sz := 0) Try.underlying53 rfl rfl (by kernel_rfl)
theorem fa_53_1 : FaOf Try.prog 53 1 1 := fa_of (sz := 0) Try.underlying53 rfl rfl (by kernel_rfl)
theorem fa_53_2 : FaOf Try.prog 53 2 2 := fa_of (sz := 0) Try.underlying53 rfl rfl (by kernel_rfl)
theorem ag_53 : AgOf Try.prog 53 4 := ⟨_, Try.underlying53, rfl, by kernel_rfl⟩
theorem fn_57 : FnOf Try.prog 57 := ⟨_, Try.func57, by kernel_rfl, rfl⟩
theorem fn_34 : FnOf Try.prog 34 := ⟨_, Try.func34, by kernel_rfl, rfl⟩
theorem el_53 : ElOf Try.prog 53 4 48 := el_of (z := .agg #[.string (ByteArray.mk #[]), .int .u64 0, .int .i64 0, .string (ByteArray.mk #[])]) (by kernel_rfl) rfl
theorem fa_29_7 : FaOf Try.prog 29 7 7 := fa_of (sz := 0) Try.underlying29 rfl rfl (by kernel_rfl)
theorem fn_31 : FnOf Try.prog 31 := ⟨_, Try.func31, by kernel_rfl, rfl⟩
theorem zr_49 : ZrOf Try.prog 49 [.int .i64 0, .string (ByteArray.mk #[]), .int .u64 0, .int .i64 0] := zr_of (z := .agg #[.int .i64 0, .string (ByteArray.mk #[]), .int .u64 0, .int .i64 0]) (by kernel_rfl) rfl
theorem ag_49 : AgOf Try.prog 49 4 := ⟨_, Try.underlying49, rfl, by kernel_rfl⟩
theorem fa_49_0 : FaOf Try.prog 49 0 0 := fa_of (sz := 0) Try.underlying49 rfl rfl (by kernel_rfl)
theorem fn_35 : FnOf Try.prog 35 := ⟨_, Try.func35, by kernel_rfl, rfl⟩
theorem fn_33 : FnOf Try.prog 33 := ⟨_, Try.func33, by kernel_rfl, rfl⟩
theorem fa_49_1 : FaOf Try.prog 49 1 1 := fa_of (sz := 2) Try.underlying49 rfl rfl (by kernel_rfl)
theorem fa_79_2 : FaOf Try.prog 79 2 2 := fa_of (sz := 0) Try.underlying79 rfl rfl (by kernel_rfl)
theorem fa_79_1 : FaOf Try.prog 79 1 1 := fa_of (sz := 0) Try.underlying79 rfl rfl (by kernel_rfl)
theorem fn_41 : FnOf Try.prog 41 := ⟨_, Try.func41, by kernel_rfl, rfl⟩
theorem fa_79_0 : FaOf Try.prog 79 0 0 := fa_of (sz := 0) Try.underlying79 rfl rfl (by kernel_rfl)
theorem sc_23 : ScOf Try.prog 23 := sc_of Try.underlying23 rfl (by kernel_rfl)
theorem fn_58 : FnOf Try.prog 58 := ⟨_, Try.func58, by kernel_rfl, rfl⟩
theorem fn_46 : FnOf Try.prog 46 := ⟨_, Try.func46, by kernel_rfl, rfl⟩
theorem fn_59 : FnOf Try.prog 59 := ⟨_, Try.func59, by kernel_rfl, rfl⟩
theorem fn_65 : FnOf Try.prog 65 := ⟨_, Try.func65, by kernel_rfl, rfl⟩
theorem fn_60 : FnOf Try.prog 60 := ⟨_, Try.func60, by kernel_rfl, rfl⟩
theorem fn_36 : FnOf Try.prog 36 := ⟨_, Try.func36, by kernel_rfl, rfl⟩
theorem fn_47 : FnOf Try.prog 47 := ⟨_, Try.func47, by kernel_rfl, rfl⟩
theorem fn_37 : FnOf Try.prog 37 := ⟨_, Try.func37, by kernel_rfl, rfl⟩
theorem fn_61 : FnOf Try.prog 61 := ⟨_, Try.func61, by kernel_rfl, rfl⟩
theorem fn_38 : FnOf Try.prog 38 := ⟨_, Try.func38, by kernel_rfl, rfl⟩
theorem fn_39 : FnOf Try.prog 39 := ⟨_, Try.func39, by kernel_rfl, rfl⟩
theorem fn_40 : FnOf Try.prog 40 := ⟨_, Try.func40, by kernel_rfl, rfl⟩
theorem fa_106_1 : FaOf Try.prog 106 1 3 := fa_of (sz := 0) Try.underlying106 rfl rfl (by kernel_rfl)
theorem zr_53 : ZrOf Try.prog 53 [.string (ByteArray.mk #[]), .int .u64 0, .int .i64 0, .string (ByteArray.mk #[])] := zr_of (z := .agg #[.string (ByteArray.mk #[]), .int .u64 0, .int .i64 0, .string (ByteArray.mk #[])]) (by kernel_rfl) rfl
theorem fn_62 : FnOf Try.prog 62 := ⟨_, Try.func62, by kernel_rfl, rfl⟩
theorem fn_42 : FnOf Try.prog 42 := ⟨_, Try.func42, by kernel_rfl, rfl⟩
theorem fn_6 : FnOf Try.prog 6 := ⟨_, Try.func6, by kernel_rfl, rfl⟩
theorem fn_25 : FnOf Try.prog 25 := ⟨_, Try.func25, by kernel_rfl, rfl⟩
theorem fn_26 : FnOf Try.prog 26 := ⟨_, Try.func26, by kernel_rfl, rfl⟩
theorem fn_49 : FnOf Try.prog 49 := ⟨_, Try.func49, by kernel_rfl, rfl⟩
theorem fn_7 : FnOf Try.prog 7 := ⟨_, Try.func7, by kernel_rfl, rfl⟩
theorem fn_8 : FnOf Try.prog 8 := ⟨_, Try.func8, by kernel_rfl, rfl⟩
theorem el_31 : ElOf Try.prog 31 1 8 := el_of (z := .pointer none) (by kernel_rfl) rfl
theorem sc_31 : ScOf Try.prog 31 := sc_of Try.underlying31 rfl (by kernel_rfl)
theorem ag_42 : AgOf Try.prog 42 11 := ⟨_, Try.underlying42, rfl, by kernel_rfl⟩
theorem zr_42 : ZrOf Try.prog 42 [.int .i64 0, .int .i64 0, .string (ByteArray.mk #[]), .int .u64 0, .int .i64 0, .int .i64 0, .int .i64 0, .int .u64 0, .int .i64 0, .string (ByteArray.mk #[]), .string (ByteArray.mk #[])] := zr_of (z := .agg #[.int .i64 0, .int .i64 0, .string (ByteArray.mk #[]), .int .u64 0, .int .i64 0, .int .i64 0, .int .i64 0, .int .u64 0, .int .i64 0, .string (ByteArray.mk #[]), .string (ByteArray.mk #[])]) (by kernel_rfl) rfl
theorem fa_42_1 : FaOf Try.prog 42 1 1 := fa_of (sz := 0) Try.underlying42 rfl rfl (by kernel_rfl)
theorem fa_42_0 : FaOf Try.prog 42 0 0 := fa_of (sz := 0) Try.underlying42 rfl rfl (by kernel_rfl)
theorem fa_42_3 : FaOf Try.prog 42 3 5 := fa_of (sz := 5) Try.underlying42 rfl rfl (by kernel_rfl)
theorem fa_40_2 : FaOf Try.prog 40 2 2 := fa_of (sz := 0) Try.underlying40 rfl rfl (by kernel_rfl)
theorem fa_40_3 : FaOf Try.prog 40 3 3 := fa_of (sz := 2) Try.underlying40 rfl rfl (by kernel_rfl)
theorem fa_40_1 : FaOf Try.prog 40 1 1 := fa_of (sz := 0) Try.underlying40 rfl rfl (by kernel_rfl)
theorem fn_11 : FnOf Try.prog 11 := ⟨_, Try.func11, by kernel_rfl, rfl⟩
theorem fa_29_2 : FaOf Try.prog 29 2 2 := fa_of (sz := 0) Try.underlying29 rfl rfl (by kernel_rfl)
theorem fn_32 : FnOf Try.prog 32 := ⟨_, Try.func32, by kernel_rfl, rfl⟩
theorem fa_29_1 : FaOf Try.prog 29 1 1 := fa_of (sz := 0) Try.underlying29 rfl rfl (by kernel_rfl)
theorem sc_25 : ScOf Try.prog 25 := sc_of Try.underlying25 rfl (by kernel_rfl)
theorem fn_10 : FnOf Try.prog 10 := ⟨_, Try.func10, by kernel_rfl, rfl⟩
theorem fa_42_2 : FaOf Try.prog 42 2 2 := fa_of (sz := 2) Try.underlying42 rfl rfl (by kernel_rfl)
theorem el_49 : ElOf Try.prog 49 4 40 := el_of (z := .agg #[.int .i64 0, .string (ByteArray.mk #[]), .int .u64 0, .int .i64 0]) (by kernel_rfl) rfl
theorem fn_12 : FnOf Try.prog 12 := ⟨_, Try.func12, by kernel_rfl, rfl⟩
theorem fn_13 : FnOf Try.prog 13 := ⟨_, Try.func13, by kernel_rfl, rfl⟩
theorem fn_15 : FnOf Try.prog 15 := ⟨_, Try.func15, by kernel_rfl, rfl⟩
theorem fn_14 : FnOf Try.prog 14 := ⟨_, Try.func14, by kernel_rfl, rfl⟩
theorem fn_9 : FnOf Try.prog 9 := ⟨_, Try.func9, by kernel_rfl, rfl⟩
theorem el_42 : ElOf Try.prog 42 11 112 := el_of (z := .agg #[.int .i64 0, .int .i64 0, .string (ByteArray.mk #[]), .int .u64 0, .int .i64 0, .int .i64 0, .int .i64 0, .int .u64 0, .int .i64 0, .string (ByteArray.mk #[]), .string (ByteArray.mk #[])]) (by kernel_rfl) rfl
theorem eqn_36 (n : Nat) (x y : IKey) (w : World) : (Op.equalIn (n + 2) 36 (.agg (IKey.enc x).toArray) (.agg (IKey.enc y).toArray)).run Try.prog w = .ok (IKey.eqb x y) w := eqA_of Try.underlying36 (by kernel_rfl) (fun w => eqf_step rfl Try.underlying9 rfl rfl rfl (fun w => eqIn_str _ _ _ _ Try.underlying9 w) (eqf_step rfl Try.underlying27 rfl rfl rfl (fun w => eqIn_int _ _ _ _ Try.underlying27 w) (eqf_step rfl Try.underlying3 rfl rfl rfl (fun w => eqIn_int _ _ _ _ Try.underlying3 w) (eqf_nil)))) w
theorem eqof_36 : EqOf Try.prog 36 IKey.enc IKey.eqb := ⟨by kernel_rfl, fun x y w => eqn_36 9998 x y w⟩
theorem eqn_53 (n : Nat) (x y : Entry) (w : World) : (Op.equalIn (n + 2) 53 (.agg (Entry.enc x).toArray) (.agg (Entry.enc y).toArray)).run Try.prog w = .ok (Entry.eqb x y) w := eqA_of Try.underlying53 (by kernel_rfl) (fun w => eqf_step rfl Try.underlying9 rfl rfl rfl (fun w => eqIn_str _ _ _ _ Try.underlying9 w) (eqf_step rfl Try.underlying27 rfl rfl rfl (fun w => eqIn_int _ _ _ _ Try.underlying27 w) (eqf_step rfl Try.underlying3 rfl rfl rfl (fun w => eqIn_int _ _ _ _ Try.underlying3 w) (eqf_step rfl Try.underlying9 rfl rfl rfl (fun w => eqIn_str _ _ _ _ Try.underlying9 w) (eqf_nil))))) w
theorem eqof_53 : EqOf Try.prog 53 Entry.enc Entry.eqb := ⟨by kernel_rfl, fun x y w => eqn_53 9998 x y w⟩
end Go.Proofs.Ytbaemhkfmddakaa.Mo
