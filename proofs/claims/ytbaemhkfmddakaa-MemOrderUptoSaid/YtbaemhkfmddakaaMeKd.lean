import Derived.Test.YtbaemhkfmddakaaMeTw
import Derived.Test.YtbaemhkfmddakaaProg
set_option linter.unusedVariables false
set_option linter.unusedSectionVars false
set_option linter.unusedSimpArgs false
set_option maxRecDepth 100000
namespace Go.Proofs.Ytbaemhkfmddakaa.Mo
open Go Go.Proofs.Ytbaemhkfmddakaa.Sy
open Go.Proofs
def k_Tomb : Kd Tomb := Kd.flat 3 Tomb.enc (fun _ => rfl) (fun x u hu => by simp only [Tomb.enc, List.mem_cons, List.not_mem_nil, or_false] at hu; rcases hu with h | h | h <;> subst h <;> rfl)
def k_Op : Kd Op := Kd.flat 3 Op.enc (fun _ => rfl) (fun x u hu => by simp only [Op.enc, List.mem_cons, List.not_mem_nil, or_false] at hu; rcases hu with h | h | h <;> subst h <;> rfl)
def k_tomb_Set : Kd tomb_Set := Kd.iso (Kd.pair (Kd.slice 83 k_Tomb) Kd.bool) (fun x => (x.tombs, x.made))
def k_skip_node_string : Kd skip_node_string := Kd.flat 18 skip_node_string.enc (fun _ => rfl) (fun x u hu => by simp only [skip_node_string.enc, List.mem_cons, List.not_mem_nil, or_false] at hu; rcases hu with h | h | h | h | h | h | h | h | h | h | h | h | h | h | h | h | h | h <;> subst h <;> rfl)
def k_skip_List_string : Kd skip_List_string := Kd.iso (Kd.pair (Kd.slice 106 k_skip_node_string) (Kd.pair (Kd.int .i64) (Kd.pair (Kd.int .i64) (Kd.int .i64)))) (fun x => (x.nodes, x.most, x.height, x.last))
def k_mem_Table : Kd mem_Table := Kd.iso (Kd.pair Kd.bool (Kd.pair Kd.bool (Kd.pair (Kd.int .i64) (Kd.pair (Kd.ptr 97 k_skip_List_string) (Kd.pair (Kd.ptr 100 k_tomb_Set) (Kd.pair (Kd.int .i64) (Kd.pair (Kd.int .i64) (Kd.pair (Kd.int .u64) (Kd.int .u64))))))))) (fun x => (x.made, x.frozen, x.log, x.list, x.tombs, x.size, x.n, x.low, x.high))
def k_Entry : Kd Entry := Kd.flat 4 Entry.enc (fun _ => rfl) (fun x u hu => by simp only [Entry.enc, List.mem_cons, List.not_mem_nil, or_false] at hu; rcases hu with h | h | h | h <;> subst h <;> rfl)
def k_Fragment : Kd Fragment := Kd.iso (Kd.pair Kd.str (Kd.pair Kd.str (Kd.slice 27 (Kd.int .u64)))) (fun x => (x.Begin, x.End, x.Seqs))
def k_L10_Act : Kd L10_Act := Kd.flat 6 L10_Act.enc (fun _ => rfl) (fun x u hu => by simp only [L10_Act.enc, List.mem_cons, List.not_mem_nil, or_false] at hu; rcases hu with h | h | h | h | h | h <;> subst h <;> rfl)
theorem SH.op_tomb_Set {F : Nat → Prop} {w0 w : World} {M : List SP} {g : Nat} {x : tomb_Set} (h : SH F w0 w (El (Kd.ptr 100 k_tomb_Set) [.pointer (some ⟨g, 0, none⟩)] x :: M)) : ∃ (v0 : Value), SH F w0 w (Row k_Tomb 83 v0 x.tombs :: Box g [v0, .bool x.made] 100 :: M) := by
  obtain ⟨c, h⟩ := SH.openPtr h
  replace h := h.front 1 rfl
  replace h := SH.openIso h
  obtain ⟨c0, d0, rfl, h⟩ := SH.openPair h
  obtain ⟨v0, rfl, h⟩ := SH.openSl h
  replace h := h.front 1 rfl
  obtain ⟨rfl, h⟩ := SH.openFlat h
  exact ⟨v0, h⟩
theorem SH.op_mem_Table {F : Nat → Prop} {w0 w : World} {M : List SP} {g : Nat} {x : mem_Table} (h : SH F w0 w (El (Kd.ptr 77 k_mem_Table) [.pointer (some ⟨g, 0, none⟩)] x :: M)) : ∃ (g0 : Nat), ∃ (g1 : Nat), SH F w0 w (El (Kd.ptr 100 k_tomb_Set) [.pointer (some ⟨g1, 0, none⟩)] x.tombs :: El (Kd.ptr 97 k_skip_List_string) [.pointer (some ⟨g0, 0, none⟩)] x.list :: Box g [.bool x.made, .bool x.frozen, .int .i64 x.log, .pointer (some ⟨g0, 0, none⟩), .pointer (some ⟨g1, 0, none⟩), .int .i64 x.size, .int .i64 x.n, .int .u64 x.low, .int .u64 x.high] 77 :: M) := by
  obtain ⟨c, h⟩ := SH.openPtr h
  replace h := h.front 1 rfl
  replace h := SH.openIso h
  obtain ⟨c0, d0, rfl, h⟩ := SH.openPair h
  obtain ⟨rfl, h⟩ := SH.openFlat h
  obtain ⟨c1, d1, rfl, h⟩ := SH.openPair h
  obtain ⟨rfl, h⟩ := SH.openFlat h
  obtain ⟨c2, d2, rfl, h⟩ := SH.openPair h
  obtain ⟨rfl, h⟩ := SH.openFlat h
  obtain ⟨c3, d3, rfl, h⟩ := SH.openPair h
  obtain ⟨g0, rfl, h⟩ := SH.whoPtr h
  replace h := h.front 1 rfl
  obtain ⟨c4, d4, rfl, h⟩ := SH.openPair h
  obtain ⟨g1, rfl, h⟩ := SH.whoPtr h
  replace h := h.front 1 rfl
  obtain ⟨c5, d5, rfl, h⟩ := SH.openPair h
  obtain ⟨rfl, h⟩ := SH.openFlat h
  obtain ⟨c6, d6, rfl, h⟩ := SH.openPair h
  obtain ⟨rfl, h⟩ := SH.openFlat h
  obtain ⟨c7, d7, rfl, h⟩ := SH.openPair h
  obtain ⟨rfl, h⟩ := SH.openFlat h
  obtain ⟨rfl, h⟩ := SH.openFlat h
  exact ⟨g0, g1, h⟩
theorem SH.op_skip_List_string {F : Nat → Prop} {w0 w : World} {M : List SP} {g : Nat} {x : skip_List_string} (h : SH F w0 w (El (Kd.ptr 97 k_skip_List_string) [.pointer (some ⟨g, 0, none⟩)] x :: M)) : ∃ (v0 : Value), SH F w0 w (Row k_skip_node_string 106 v0 x.nodes :: Box g [v0, .int .i64 x.most, .int .i64 x.height, .int .i64 x.last] 97 :: M) := by
  obtain ⟨c, h⟩ := SH.openPtr h
  replace h := h.front 1 rfl
  replace h := SH.openIso h
  obtain ⟨c0, d0, rfl, h⟩ := SH.openPair h
  obtain ⟨v0, rfl, h⟩ := SH.openSl h
  replace h := h.front 1 rfl
  obtain ⟨c1, d1, rfl, h⟩ := SH.openPair h
  obtain ⟨rfl, h⟩ := SH.openFlat h
  obtain ⟨c2, d2, rfl, h⟩ := SH.openPair h
  obtain ⟨rfl, h⟩ := SH.openFlat h
  obtain ⟨rfl, h⟩ := SH.openFlat h
  exact ⟨v0, h⟩
theorem fa_83_0 : FaOf Try.prog 83 0 0 := fa_of (sz := 0) Try.underlying83 rfl rfl (by kernel_rfl)
theorem sc_9 : ScOf Try.prog 9 := sc_of Try.underlying9 rfl (by kernel_rfl)
theorem fa_83_1 : FaOf Try.prog 83 1 1 := fa_of (sz := 0) Try.underlying83 rfl rfl (by kernel_rfl)
theorem fa_83_2 : FaOf Try.prog 83 2 2 := fa_of (sz := 0) Try.underlying83 rfl rfl (by kernel_rfl)
theorem sc_27 : ScOf Try.prog 27 := sc_of Try.underlying27 rfl (by kernel_rfl)
theorem ag_83 : AgOf Try.prog 83 3 := ⟨_, Try.underlying83, rfl, by kernel_rfl⟩
theorem zr_83 : ZrOf Try.prog 83 [.string (ByteArray.mk #[]), .string (ByteArray.mk #[]), .int .u64 0] := zr_of (z := .agg #[.string (ByteArray.mk #[]), .string (ByteArray.mk #[]), .int .u64 0]) (by kernel_rfl) rfl
theorem el_83 : ElOf Try.prog 83 3 40 := el_of (z := .agg #[.string (ByteArray.mk #[]), .string (ByteArray.mk #[]), .int .u64 0]) (by kernel_rfl) rfl
theorem fn_67 : FnOf Try.prog 67 := ⟨_, Try.func67, by kernel_rfl, rfl⟩
theorem fa_38_1 : FaOf Try.prog 38 1 1 := fa_of (sz := 0) Try.underlying38 rfl rfl (by kernel_rfl)
theorem fa_38_0 : FaOf Try.prog 38 0 0 := fa_of (sz := 0) Try.underlying38 rfl rfl (by kernel_rfl)
theorem sc_3 : ScOf Try.prog 3 := sc_of Try.underlying3 rfl (by kernel_rfl)
theorem fa_38_2 : FaOf Try.prog 38 2 2 := fa_of (sz := 0) Try.underlying38 rfl rfl (by kernel_rfl)
theorem fa_100_0 : FaOf Try.prog 100 0 0 := fa_of (sz := 0) Try.underlying100 rfl rfl (by kernel_rfl)
theorem sc_26 : ScOf Try.prog 26 := sc_of Try.underlying26 rfl (by kernel_rfl)
theorem fn_66 : FnOf Try.prog 66 := ⟨_, Try.func66, by kernel_rfl, rfl⟩
theorem fn_68 : FnOf Try.prog 68 := ⟨_, Try.func68, by kernel_rfl, rfl⟩
theorem fa_100_1 : FaOf Try.prog 100 1 1 := fa_of (sz := 0) Try.underlying100 rfl rfl (by kernel_rfl)
theorem sc_4 : ScOf Try.prog 4 := sc_of Try.underlying4 rfl (by kernel_rfl)
theorem fo : Try.prog.follows .mixedOrders = true := by kernel_rfl
theorem fa_77_4 : FaOf Try.prog 77 4 4 := fa_of (sz := 0) Try.underlying77 rfl rfl (by kernel_rfl)
theorem sc_74 : ScOf Try.prog 74 := sc_of Try.underlying74 rfl (by kernel_rfl)
theorem fn_51 : FnOf Try.prog 51 := ⟨_, Try.func51, by kernel_rfl, rfl⟩
theorem fn_52 : FnOf Try.prog 52 := ⟨_, Try.func52, by kernel_rfl, rfl⟩
theorem fn_50 : FnOf Try.prog 50 := ⟨_, Try.func50, by kernel_rfl, rfl⟩
theorem fn_48 : FnOf Try.prog 48 := ⟨_, Try.func48, by kernel_rfl, rfl⟩
theorem fa_97_0 : FaOf Try.prog 97 0 0 := fa_of (sz := 0) Try.underlying97 rfl rfl (by kernel_rfl)
theorem sc_95 : ScOf Try.prog 95 := sc_of Try.underlying95 rfl (by kernel_rfl)
theorem fa_36_0 : FaOf Try.prog 36 0 0 := fa_of (sz := 0) Try.underlying36 rfl rfl (by kernel_rfl)
theorem fa_36_1 : FaOf Try.prog 36 1 1 := fa_of (sz := 0) Try.underlying36 rfl rfl (by kernel_rfl)
theorem fa_36_2 : FaOf Try.prog 36 2 2 := fa_of (sz := 0) Try.underlying36 rfl rfl (by kernel_rfl)
theorem fn_69 : FnOf Try.prog 69 := ⟨_, Try.func69, by kernel_rfl, rfl⟩
theorem ext_89 : ExtOf Try.prog 89 Extern.BytealgCompare.compare := ⟨_, Try.func89, by kernel_rfl, by kernel_rfl, by kernel_rfl, by kernel_rfl⟩
theorem fn_82 : FnOf Try.prog 82 := ⟨_, Try.func82, by kernel_rfl, rfl⟩
theorem fn_83 : FnOf Try.prog 83 := ⟨_, Try.func83, by kernel_rfl, rfl⟩
theorem fn_84 : FnOf Try.prog 84 := ⟨_, Try.func84, by kernel_rfl, rfl⟩
theorem el_3 : ElOf Try.prog 3 1 8 := el_of (z := .int .i64 0) (by kernel_rfl) rfl
theorem fn_74 : FnOf Try.prog 74 := ⟨_, Try.func74, by kernel_rfl, rfl⟩
theorem fn_77 : FnOf Try.prog 77 := ⟨_, Try.func77, by kernel_rfl, rfl⟩
theorem fn_76 : FnOf Try.prog 76 := ⟨_, Try.func76, by kernel_rfl, rfl⟩
theorem fn_75 : FnOf Try.prog 75 := ⟨_, Try.func75, by kernel_rfl, rfl⟩
theorem zr_107 : ZrOf Try.prog 107 [.int .i64 0, .int .i64 0, .int .i64 0, .int .i64 0, .int .i64 0, .int .i64 0, .int .i64 0, .int .i64 0, .int .i64 0, .int .i64 0, .int .i64 0, .int .i64 0] := zr_of (z := .agg #[.int .i64 0, .int .i64 0, .int .i64 0, .int .i64 0, .int .i64 0, .int .i64 0, .int .i64 0, .int .i64 0, .int .i64 0, .int .i64 0, .int .i64 0, .int .i64 0]) (by kernel_rfl) rfl
theorem fa_97_2 : FaOf Try.prog 97 2 2 := fa_of (sz := 0) Try.underlying97 rfl rfl (by kernel_rfl)
theorem fa_106_3 : FaOf Try.prog 106 3 5 := fa_of (sz := 11) Try.underlying106 rfl rfl (by kernel_rfl)
theorem sc_21 : ScOf Try.prog 21 := sc_of Try.underlying21 rfl (by kernel_rfl)
theorem fa_106_0 : FaOf Try.prog 106 0 0 := fa_of (sz := 2) Try.underlying106 rfl rfl (by kernel_rfl)
theorem ag_36 : AgOf Try.prog 36 3 := ⟨_, Try.underlying36, rfl, by kernel_rfl⟩
theorem fn_71 : FnOf Try.prog 71 := ⟨_, Try.func71, by kernel_rfl, rfl⟩
theorem el_106 : ElOf Try.prog 106 18 112 := el_of (z := .agg #[.string (ByteArray.mk #[]), .int .u64 0, .int .i64 0, .string (ByteArray.mk #[]), .int .i64 0, .int .i32 0, .int .i32 0, .int .i32 0, .int .i32 0, .int .i32 0, .int .i32 0, .int .i32 0, .int .i32 0, .int .i32 0, .int .i32 0, .int .i32 0, .int .i32 0, .int .i32 0]) (by kernel_rfl) rfl
theorem ag_107 : AgOf Try.prog 107 12 := ⟨_, Try.underlying107, rfl, by kernel_rfl⟩
theorem fn_53 : FnOf Try.prog 53 := ⟨_, Try.func53, by kernel_rfl, rfl⟩
theorem fn_56 : FnOf Try.prog 56 := ⟨_, Try.func56, by kernel_rfl, rfl⟩
theorem fn_70 : FnOf Try.prog 70 := ⟨_, Try.func70, by kernel_rfl, rfl⟩
theorem fn_54 : FnOf Try.prog 54 := ⟨_, Try.func54, by kernel_rfl, rfl⟩
theorem fn_55 : FnOf Try.prog 55 := ⟨_, Try.func55, by kernel_rfl, rfl⟩
theorem fa_97_1 : FaOf Try.prog 97 1 1 := fa_of (sz := 0) Try.underlying97 rfl rfl (by kernel_rfl)
theorem zr_106 : ZrOf Try.prog 106 [.string (ByteArray.mk #[]), .int .u64 0, .int .i64 0, .string (ByteArray.mk #[]), .int .i64 0, .int .i32 0, .int .i32 0, .int .i32 0, .int .i32 0, .int .i32 0, .int .i32 0, .int .i32 0, .int .i32 0, .int .i32 0, .int .i32 0, .int .i32 0, .int .i32 0, .int .i32 0] := zr_of (z := .agg #[.string (ByteArray.mk #[]), .int .u64 0, .int .i64 0, .string (ByteArray.mk #[]), .int .i64 0, .int .i32 0, .int .i32 0, .int .i32 0, .int .i32 0, .int .i32 0, .int .i32 0, .int .i32 0, .int .i32 0, .int .i32 0, .int .i32 0, .int .i32 0, .int .i32 0, .int .i32 0]) (by kernel_rfl) rfl
theorem ag_106 : AgOf Try.prog 106 18 := ⟨_, Try.underlying106, rfl, by kernel_rfl⟩
theorem fa_106_4 : FaOf Try.prog 106 4 17 := fa_of (sz := 0) Try.underlying106 rfl rfl (by kernel_rfl)
theorem fa_97_3 : FaOf Try.prog 97 3 3 := fa_of (sz := 0) Try.underlying97 rfl rfl (by kernel_rfl)
theorem fn_27 : FnOf Try.prog 27 := ⟨_, Try.func27, by kernel_rfl, rfl⟩
theorem fa_77_0 : FaOf Try.prog 77 0 0 := fa_of (sz := 0) Try.underlying77 rfl rfl (by kernel_rfl)
theorem fa_77_1 : FaOf Try.prog 77 1 1 := fa_of (sz := 0) Try.underlying77 rfl rfl (by kernel_rfl)
theorem ag_38 : AgOf Try.prog 38 3 := ⟨_, Try.underlying38, rfl, by kernel_rfl⟩
theorem fn_28 : FnOf Try.prog 28 := ⟨_, Try.func28, by kernel_rfl, rfl⟩
theorem fn_29 : FnOf Try.prog 29 := ⟨_, Try.func29, by kernel_rfl, rfl⟩
theorem fa_77_3 : FaOf Try.prog 77 3 3 := fa_of (sz := 0) Try.underlying77 rfl rfl (by kernel_rfl)
theorem sc_71 : ScOf Try.prog 71 := sc_of Try.underlying71 rfl (by kernel_rfl)
theorem fn_30 : FnOf Try.prog 30 := ⟨_, Try.func30, by kernel_rfl, rfl⟩
theorem fa_77_6 : FaOf Try.prog 77 6 6 := fa_of (sz := 0) Try.underlying77 rfl rfl (by kernel_rfl)
theorem fa_77_7 : FaOf Try.prog 77 7 7 := fa_of (sz := 0) Try.underlying77 rfl rfl (by kernel_rfl)
theorem fa_77_8 : FaOf Try.prog 77 8 8 := fa_of (sz := 0) Try.underlying77 rfl rfl (by kernel_rfl)
theorem fa_77_5 : FaOf Try.prog 77 5 5 := fa_of (sz := 0) Try.underlying77 rfl rfl (by kernel_rfl)
theorem zr_36 : ZrOf Try.prog 36 [.string (ByteArray.mk #[]), .int .u64 0, .int .i64 0] := zr_of (z := .agg #[.string (ByteArray.mk #[]), .int .u64 0, .int .i64 0]) (by kernel_rfl) rfl
theorem fn_65 : FnOf Try.prog 65 := ⟨_, Try.func65, by kernel_rfl, rfl⟩
theorem fa_106_1 : FaOf Try.prog 106 1 3 := fa_of (sz := 0) Try.underlying106 rfl rfl (by kernel_rfl)
theorem zr_53 : ZrOf Try.prog 53 [.string (ByteArray.mk #[]), .int .u64 0, .int .i64 0, .string (ByteArray.mk #[])] := zr_of (z := .agg #[.string (ByteArray.mk #[]), .int .u64 0, .int .i64 0, .string (ByteArray.mk #[])]) (by kernel_rfl) rfl
theorem ag_53 : AgOf Try.prog 53 4 := ⟨_, Try.underlying53, rfl, by kernel_rfl⟩
theorem fn_62 : FnOf Try.prog 62 := ⟨_, Try.func62, by kernel_rfl, rfl⟩
theorem fa_53_0 : FaOf Try.prog 53 0 0 := fa_of (sz := 0) Try.underlying53 rfl rfl (by kernel_rfl)
theorem fn_42 : FnOf Try.prog 42 := ⟨_, Try.func42, by kernel_rfl, rfl⟩
theorem fn_63 : FnOf Try.prog 63 := ⟨_, Try.func63, by kernel_rfl, rfl⟩
theorem fn_103 : FnOf Try.prog 103 := ⟨_, Try.func103, by kernel_rfl, rfl⟩
theorem fn_118 : FnOf Try.prog 118 := ⟨_, Try.func118, by kernel_rfl, rfl⟩
theorem el_9 : ElOf Try.prog 9 1 16 := el_of (z := .string (ByteArray.mk #[])) (by kernel_rfl) rfl
theorem fn_91 : FnOf Try.prog 91 := ⟨_, Try.func91, by kernel_rfl, rfl⟩
theorem sc_159 : ScOf Try.prog 159 := sc_of Try.underlying159 rfl (by kernel_rfl)
theorem zr_159 : ZrOf Try.prog 159 [.int .u64 0] := zr_of (z := .int .u64 0) (by kernel_rfl) rfl
theorem fn_115 : FnOf Try.prog 115 := ⟨_, Try.func115, by kernel_rfl, rfl⟩
theorem fn_114 : FnOf Try.prog 114 := ⟨_, Try.func114, by kernel_rfl, rfl⟩
theorem zr_3 : ZrOf Try.prog 3 [.int .i64 0] := zr_of (z := .int .i64 0) (by kernel_rfl) rfl
theorem zr_9 : ZrOf Try.prog 9 [.string (ByteArray.mk #[])] := zr_of (z := .string (ByteArray.mk #[])) (by kernel_rfl) rfl
theorem fn_86 : FnOf Try.prog 86 := ⟨_, Try.func86, by kernel_rfl, rfl⟩
theorem fn_85 : FnOf Try.prog 85 := ⟨_, Try.func85, by kernel_rfl, rfl⟩
theorem fn_110 : FnOf Try.prog 110 := ⟨_, Try.func110, by kernel_rfl, rfl⟩
theorem el_27 : ElOf Try.prog 27 1 8 := el_of (z := .int .u64 0) (by kernel_rfl) rfl
theorem fn_119 : FnOf Try.prog 119 := ⟨_, Try.func119, by kernel_rfl, rfl⟩
theorem fn_123 : FnOf Try.prog 123 := ⟨_, Try.func123, by kernel_rfl, rfl⟩
theorem fn_121 : FnOf Try.prog 121 := ⟨_, Try.func121, by kernel_rfl, rfl⟩
theorem fn_120 : FnOf Try.prog 120 := ⟨_, Try.func120, by kernel_rfl, rfl⟩
theorem fn_104 : FnOf Try.prog 104 := ⟨_, Try.func104, by kernel_rfl, rfl⟩
theorem fn_105 : FnOf Try.prog 105 := ⟨_, Try.func105, by kernel_rfl, rfl⟩
theorem fn_108 : FnOf Try.prog 108 := ⟨_, Try.func108, by kernel_rfl, rfl⟩
theorem fn_109 : FnOf Try.prog 109 := ⟨_, Try.func109, by kernel_rfl, rfl⟩
theorem fn_111 : FnOf Try.prog 111 := ⟨_, Try.func111, by kernel_rfl, rfl⟩
theorem fn_92 : FnOf Try.prog 92 := ⟨_, Try.func92, by kernel_rfl, rfl⟩
theorem fn_112 : FnOf Try.prog 112 := ⟨_, Try.func112, by kernel_rfl, rfl⟩
theorem fn_107 : FnOf Try.prog 107 := ⟨_, Try.func107, by kernel_rfl, rfl⟩
theorem fn_106 : FnOf Try.prog 106 := ⟨_, Try.func106, by kernel_rfl, rfl⟩
theorem zr_27 : ZrOf Try.prog 27 [.int .u64 0] := zr_of (z := .int .u64 0) (by kernel_rfl) rfl
theorem fn_88 : FnOf Try.prog 88 := ⟨_, Try.func88, by kernel_rfl, rfl⟩
theorem fn_87 : FnOf Try.prog 87 := ⟨_, Try.func87, by kernel_rfl, rfl⟩
theorem zr_120 : ZrOf Try.prog 120 [.string (ByteArray.mk #[]), .string (ByteArray.mk #[]), (.slice none 0 0)] := zr_of (z := .agg #[.string (ByteArray.mk #[]), .string (ByteArray.mk #[]), (.slice none 0 0)]) (by kernel_rfl) rfl
theorem ag_120 : AgOf Try.prog 120 3 := ⟨_, Try.underlying120, rfl, by kernel_rfl⟩
theorem fa_120_0 : FaOf Try.prog 120 0 0 := fa_of (sz := 0) Try.underlying120 rfl rfl (by kernel_rfl)
theorem fa_120_1 : FaOf Try.prog 120 1 1 := fa_of (sz := 0) Try.underlying120 rfl rfl (by kernel_rfl)
theorem fa_120_2 : FaOf Try.prog 120 2 2 := fa_of (sz := 0) Try.underlying120 rfl rfl (by kernel_rfl)
theorem sc_118 : ScOf Try.prog 118 := sc_of Try.underlying118 rfl (by kernel_rfl)
theorem el_120 : ElOf Try.prog 120 3 56 := el_of (z := .agg #[.string (ByteArray.mk #[]), .string (ByteArray.mk #[]), (.slice none 0 0)]) (by kernel_rfl) rfl
theorem fn_80 : FnOf Try.prog 80 := ⟨_, Try.func80, by kernel_rfl, rfl⟩
theorem fn_79 : FnOf Try.prog 79 := ⟨_, Try.func79, by kernel_rfl, rfl⟩
theorem fn_81 : FnOf Try.prog 81 := ⟨_, Try.func81, by kernel_rfl, rfl⟩
theorem fn_78 : FnOf Try.prog 78 := ⟨_, Try.func78, by kernel_rfl, rfl⟩
theorem fn_49 : FnOf Try.prog 49 := ⟨_, Try.func49, by kernel_rfl, rfl⟩
theorem zr_4 : ZrOf Try.prog 4 [.bool false] := zr_of (z := .bool false) (by kernel_rfl) rfl
theorem fn_64 : FnOf Try.prog 64 := ⟨_, Try.func64, by kernel_rfl, rfl⟩
theorem fn_72 : FnOf Try.prog 72 := ⟨_, Try.func72, by kernel_rfl, rfl⟩
theorem fn_73 : FnOf Try.prog 73 := ⟨_, Try.func73, by kernel_rfl, rfl⟩
theorem fa_53_1 : FaOf Try.prog 53 1 1 := fa_of (sz := 0) Try.underlying53 rfl rfl (by kernel_rfl)
theorem fn_45 : FnOf Try.prog 45 := ⟨_, Try.func45, by kernel_rfl, rfl⟩
theorem fn_44 : FnOf Try.prog 44 := ⟨_, Try.func44, by kernel_rfl, rfl⟩
theorem fn_43 : FnOf Try.prog 43 := ⟨_, Try.func43, by kernel_rfl, rfl⟩
theorem fn_6 : FnOf Try.prog 6 := ⟨_, Try.func6, by kernel_rfl, rfl⟩
theorem fn_25 : FnOf Try.prog 25 := ⟨_, Try.func25, by kernel_rfl, rfl⟩
theorem fn_26 : FnOf Try.prog 26 := ⟨_, Try.func26, by kernel_rfl, rfl⟩
theorem fn_10 : FnOf Try.prog 10 := ⟨_, Try.func10, by kernel_rfl, rfl⟩
theorem fn_24 : FnOf Try.prog 24 := ⟨_, Try.func24, by kernel_rfl, rfl⟩
theorem fn_18 : FnOf Try.prog 18 := ⟨_, Try.func18, by kernel_rfl, rfl⟩
theorem el_53 : ElOf Try.prog 53 4 48 := el_of (z := .agg #[.string (ByteArray.mk #[]), .int .u64 0, .int .i64 0, .string (ByteArray.mk #[])]) (by kernel_rfl) rfl
theorem fn_47 : FnOf Try.prog 47 := ⟨_, Try.func47, by kernel_rfl, rfl⟩
theorem fn_46 : FnOf Try.prog 46 := ⟨_, Try.func46, by kernel_rfl, rfl⟩
theorem fn_16 : FnOf Try.prog 16 := ⟨_, Try.func16, by kernel_rfl, rfl⟩
theorem fn_17 : FnOf Try.prog 17 := ⟨_, Try.func17, by kernel_rfl, rfl⟩
theorem fa_40_2 : FaOf Try.prog 40 2 2 := fa_of (sz := 0) Try.underlying40 rfl rfl (by kernel_rfl)
theorem fa_40_3 : FaOf Try.prog 40 3 3 := fa_of (sz := 2) Try.underlying40 rfl rfl (by kernel_rfl)
theorem fa_40_1 : FaOf Try.prog 40 1 1 := fa_of (sz := 0) Try.underlying40 rfl rfl (by kernel_rfl)
theorem el_4 : ElOf Try.prog 4 1 1 := el_of (z := .bool false) (by kernel_rfl) rfl
theorem fn_9 : FnOf Try.prog 9 := ⟨_, Try.func9, by kernel_rfl, rfl⟩
theorem el_40 : ElOf Try.prog 40 6 64 := el_of (z := .agg #[.int .i64 0, .int .i64 0, .int .u64 0, .int .i64 0, .string (ByteArray.mk #[]), .string (ByteArray.mk #[])]) (by kernel_rfl) rfl
theorem ag_40 : AgOf Try.prog 40 6 := ⟨_, Try.underlying40, rfl, by kernel_rfl⟩
theorem fn_22 : FnOf Try.prog 22 := ⟨_, Try.func22, by kernel_rfl, rfl⟩
theorem fn_23 : FnOf Try.prog 23 := ⟨_, Try.func23, by kernel_rfl, rfl⟩
theorem fn_20 : FnOf Try.prog 20 := ⟨_, Try.func20, by kernel_rfl, rfl⟩
theorem fn_21 : FnOf Try.prog 21 := ⟨_, Try.func21, by kernel_rfl, rfl⟩
theorem fn_19 : FnOf Try.prog 19 := ⟨_, Try.func19, by kernel_rfl, rfl⟩
theorem eqn_36 (n : Nat) (x y : IKey) (w : World) : (Op.equalIn (n + 2) 36 (.agg (IKey.enc x).toArray) (.agg (IKey.enc y).toArray)).run Try.prog w = .ok (IKey.eqb x y) w := eqA_of Try.underlying36 (by kernel_rfl) (fun w => eqf_step rfl Try.underlying9 rfl rfl rfl (fun w => eqIn_str _ _ _ _ Try.underlying9 w) (eqf_step rfl Try.underlying27 rfl rfl rfl (fun w => eqIn_int _ _ _ _ Try.underlying27 w) (eqf_step rfl Try.underlying3 rfl rfl rfl (fun w => eqIn_int _ _ _ _ Try.underlying3 w) (eqf_nil)))) w
theorem eqof_36 : EqOf Try.prog 36 IKey.enc IKey.eqb := ⟨by kernel_rfl, fun x y w => eqn_36 9998 x y w⟩
theorem eqn_53 (n : Nat) (x y : Entry) (w : World) : (Op.equalIn (n + 2) 53 (.agg (Entry.enc x).toArray) (.agg (Entry.enc y).toArray)).run Try.prog w = .ok (Entry.eqb x y) w := eqA_of Try.underlying53 (by kernel_rfl) (fun w => eqf_step rfl Try.underlying9 rfl rfl rfl (fun w => eqIn_str _ _ _ _ Try.underlying9 w) (eqf_step rfl Try.underlying27 rfl rfl rfl (fun w => eqIn_int _ _ _ _ Try.underlying27 w) (eqf_step rfl Try.underlying3 rfl rfl rfl (fun w => eqIn_int _ _ _ _ Try.underlying3 w) (eqf_step rfl Try.underlying9 rfl rfl rfl (fun w => eqIn_str _ _ _ _ Try.underlying9 w) (eqf_nil))))) w
theorem eqof_53 : EqOf Try.prog 53 Entry.enc Entry.eqb := ⟨by kernel_rfl, fun x y w => eqn_53 9998 x y w⟩
theorem bsI {α β : Type} {o : Option α} {f : α → Option β} {b : β} (h : o.bind f = some b) : ∃ a, o = some a ∧ f a = some b := Option.bind_eq_some_iff.1 h
theorem bfI {b : Bool} (h : ¬ b = true) : b = false := Bool.eq_false_iff.2 h
theorem tv : True := True.intro
theorem oi {α : Type} {x y : α} (h : some x = some y) : x = y := Option.some.inj h
abbrev tn := @then_normal
abbrev te := @then_exit
abbrev xi := @x_indexAddr
abbrev xm := @x_move
abbrev xl := @x_loadEF
abbrev xb := @x_loadB
abbrev xS := @r_storeE
abbrev sh := @shut_sh
abbrev wQ := @wq_region_q
abbrev wG := @wq_region_t
abbrev wl := @wl_join0
abbrev wc := @wq_cut
abbrev sb := @sub_sh
abbrev wT := @wq_condT
abbrev wF := @wq_condF
abbrev wR := @wq_region_lit
abbrev wS := @wq_seq
end Go.Proofs.Ytbaemhkfmddakaa.Mo
