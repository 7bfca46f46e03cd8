import Derived.Test.YtbaemhkfmddakaaGreatMzTw
import Derived.Test.YtbaemhkfmddakaaGreatProg
set_option linter.unusedVariables false
set_option linter.unusedSectionVars false
set_option linter.unusedSimpArgs false
set_option maxRecDepth 100000
namespace Go.Proofs.YtbaemhkfmddakaaGreat.Mo
open Go Go.Proofs.YtbaemhkfmddakaaGreat.Sy
open Go.Proofs
def k_Tomb : Kd Tomb := Kd.flat 3 Tomb.enc (fun _ => rfl) (fun x u hu => by simp only [Tomb.enc, List.mem_cons, List.not_mem_nil, or_false] at hu; rcases hu with h | h | h <;> subst h <;> rfl)
def k_Op : Kd Op := Kd.flat 3 Op.enc (fun _ => rfl) (fun x u hu => by simp only [Op.enc, List.mem_cons, List.not_mem_nil, or_false] at hu; rcases hu with h | h | h <;> subst h <;> rfl)
def k_tomb_Set : Kd tomb_Set := Kd.iso (Kd.pair (Kd.slice 100 k_Tomb) Kd.bool) (fun x => (x.tombs, x.made))
def k_skip_node_string : Kd skip_node_string := Kd.flat 18 skip_node_string.enc (fun _ => rfl) (fun x u hu => by simp only [skip_node_string.enc, List.mem_cons, List.not_mem_nil, or_false] at hu; rcases hu with h | h | h | h | h | h | h | h | h | h | h | h | h | h | h | h | h | h <;> subst h <;> rfl)
def k_skip_List_string : Kd skip_List_string := Kd.iso (Kd.pair (Kd.slice 134 k_skip_node_string) (Kd.pair (Kd.int .i64) (Kd.pair (Kd.int .i64) (Kd.int .i64)))) (fun x => (x.nodes, x.most, x.height, x.last))
def k_mem_Table : Kd mem_Table := Kd.iso (Kd.pair Kd.bool (Kd.pair Kd.bool (Kd.pair (Kd.int .i64) (Kd.pair (Kd.ptr 126 k_skip_List_string) (Kd.pair (Kd.ptr 129 k_tomb_Set) (Kd.pair (Kd.int .i64) (Kd.pair (Kd.int .i64) (Kd.pair (Kd.int .u64) (Kd.int .u64))))))))) (fun x => (x.made, x.frozen, x.log, x.list, x.tombs, x.size, x.n, x.low, x.high))
def k_Fragment : Kd Fragment := Kd.iso (Kd.pair Kd.str (Kd.pair Kd.str (Kd.slice 27 (Kd.int .u64)))) (fun x => (x.Begin, x.End, x.Seqs))
def k_L10_Act : Kd L10_Act := Kd.flat 6 L10_Act.enc (fun _ => rfl) (fun x u hu => by simp only [L10_Act.enc, List.mem_cons, List.not_mem_nil, or_false] at hu; rcases hu with h | h | h | h | h | h <;> subst h <;> rfl)
theorem SH.op_tomb_Set {F : Nat → Prop} {w0 w : World} {M : List SP} {g : Nat} {x : tomb_Set} (h : SH F w0 w (El (Kd.ptr 129 k_tomb_Set) [.pointer (some ⟨g, 0, none⟩)] x :: M)) : ∃ (v0 : Value), SH F w0 w (Row k_Tomb 100 v0 x.tombs :: Box g [v0, .bool x.made] 129 :: M) := by
  obtain ⟨c, h⟩ := SH.openPtr h
  replace h := h.front 1 rfl
  replace h := SH.openIso h
  obtain ⟨c0, d0, rfl, h⟩ := SH.openPair h
  obtain ⟨v0, rfl, h⟩ := SH.openSl h
  replace h := h.front 1 rfl
  obtain ⟨rfl, h⟩ := SH.openFlat h
  exact ⟨v0, h⟩
theorem SH.op_mem_Table {F : Nat → Prop} {w0 w : World} {M : List SP} {g : Nat} {x : mem_Table} (h : SH F w0 w (El (Kd.ptr 76 k_mem_Table) [.pointer (some ⟨g, 0, none⟩)] x :: M)) : ∃ (g0 : Nat), ∃ (g1 : Nat), SH F w0 w (El (Kd.ptr 129 k_tomb_Set) [.pointer (some ⟨g1, 0, none⟩)] x.tombs :: El (Kd.ptr 126 k_skip_List_string) [.pointer (some ⟨g0, 0, none⟩)] x.list :: Box g [.bool x.made, .bool x.frozen, .int .i64 x.log, .pointer (some ⟨g0, 0, none⟩), .pointer (some ⟨g1, 0, none⟩), .int .i64 x.size, .int .i64 x.n, .int .u64 x.low, .int .u64 x.high] 76 :: M) := by
  obtain ⟨c, h⟩ := SH.openPtr h
  replace h := h.front 1 rfl
  replace h := SH.openIso h
  obtain ⟨c0, d0, rfl, h⟩ := SH.openPair h
  obtain ⟨rfl, h⟩ := SH.openFlat h
  obtain ⟨c1, d1, rfl, h⟩ := SH.openPair h
  obtain ⟨rfl, h⟩ := SH.openFlat h
  obtain ⟨c2, d2, rfl, h⟩ := SH.openPair h
  obtain ⟨rfl, h⟩ := SH.openFlat h
  obtain ⟨c3, d3, rfl, h⟩ := SH.openPair h
  obtain ⟨g0, rfl, h⟩ := SH.whoPtr h
  replace h := h.front 1 rfl
  obtain ⟨c4, d4, rfl, h⟩ := SH.openPair h
  obtain ⟨g1, rfl, h⟩ := SH.whoPtr h
  replace h := h.front 1 rfl
  obtain ⟨c5, d5, rfl, h⟩ := SH.openPair h
  obtain ⟨rfl, h⟩ := SH.openFlat h
  obtain ⟨c6, d6, rfl, h⟩ := SH.openPair h
  obtain ⟨rfl, h⟩ := SH.openFlat h
  obtain ⟨c7, d7, rfl, h⟩ := SH.openPair h
  obtain ⟨rfl, h⟩ := SH.openFlat h
  obtain ⟨rfl, h⟩ := SH.openFlat h
  exact ⟨g0, g1, h⟩
theorem SH.op_skip_List_string {F : Nat → Prop} {w0 w : World} {M : List SP} {g : Nat} {x : skip_List_string} (h : SH F w0 w (El (Kd.ptr 126 k_skip_List_string) [.pointer (some ⟨g, 0, none⟩)] x :: M)) : ∃ (v0 : Value), SH F w0 w (Row k_skip_node_string 134 v0 x.nodes :: Box g [v0, .int .i64 x.most, .int .i64 x.height, .int .i64 x.last] 126 :: M) := by
  obtain ⟨c, h⟩ := SH.openPtr h
  replace h := h.front 1 rfl
  replace h := SH.openIso h
  obtain ⟨c0, d0, rfl, h⟩ := SH.openPair h
  obtain ⟨v0, rfl, h⟩ := SH.openSl h
  replace h := h.front 1 rfl
  obtain ⟨c1, d1, rfl, h⟩ := SH.openPair h
  obtain ⟨rfl, h⟩ := SH.openFlat h
  obtain ⟨c2, d2, rfl, h⟩ := SH.openPair h
  obtain ⟨rfl, h⟩ := SH.openFlat h
  obtain ⟨rfl, h⟩ := SH.openFlat h
  exact ⟨v0, h⟩
theorem fa_100_0 : FaOf Tryz.prog 100 0 0 := fa_of (sz := 0) Tryz.underlying100 rfl rfl (by kernel_rfl)
theorem sc_9 : ScOf Tryz.prog 9 := sc_of Tryz.underlying9 rfl (by kernel_rfl)
theorem fa_100_1 : FaOf Tryz.prog 100 1 1 := fa_of (sz := 0) Tryz.underlying100 rfl rfl (by kernel_rfl)
theorem fa_100_2 : FaOf Tryz.prog 100 2 2 := fa_of (sz := 0) Tryz.underlying100 rfl rfl (by kernel_rfl)
theorem sc_27 : ScOf Tryz.prog 27 := sc_of Tryz.underlying27 rfl (by kernel_rfl)
theorem ag_100 : AgOf Tryz.prog 100 3 := ⟨_, Tryz.underlying100, rfl, by kernel_rfl⟩
theorem zr_100 : ZrOf Tryz.prog 100 [.string (ByteArray.mk #[]), .string (ByteArray.mk #[]), .int .u64 0] := zr_of (z := .agg #[.string (ByteArray.mk #[]), .string (ByteArray.mk #[]), .int .u64 0]) (by kernel_rfl) rfl
theorem el_100 : ElOf Tryz.prog 100 3 40 := el_of (z := .agg #[.string (ByteArray.mk #[]), .string (ByteArray.mk #[]), .int .u64 0]) (by kernel_rfl) rfl
theorem fn_95 : FnOf Tryz.prog 95 := ⟨_, Tryz.func95, by kernel_rfl, rfl⟩
theorem fa_32_1 : FaOf Tryz.prog 32 1 1 := fa_of (sz := 0) Tryz.underlying32 rfl rfl (by kernel_rfl)
theorem fa_32_0 : FaOf Tryz.prog 32 0 0 := fa_of (sz := 0) Tryz.underlying32 rfl rfl (by kernel_rfl)
theorem sc_3 : ScOf Tryz.prog 3 := sc_of Tryz.underlying3 rfl (by kernel_rfl)
theorem fa_32_2 : FaOf Tryz.prog 32 2 2 := fa_of (sz := 0) Tryz.underlying32 rfl rfl (by kernel_rfl)
theorem fa_129_0 : FaOf Tryz.prog 129 0 0 := fa_of (sz := 0) Tryz.underlying129 rfl rfl (by kernel_rfl)
theorem sc_26 : ScOf Tryz.prog 26 := sc_of Tryz.underlying26 rfl (by kernel_rfl)
theorem fn_92 : FnOf Tryz.prog 92 := ⟨_, Tryz.func92, by kernel_rfl, rfl⟩
theorem fn_96 : FnOf Tryz.prog 96 := ⟨_, Tryz.func96, by kernel_rfl, rfl⟩
theorem fa_129_1 : FaOf Tryz.prog 129 1 1 := fa_of (sz := 0) Tryz.underlying129 rfl rfl (by kernel_rfl)
theorem sc_4 : ScOf Tryz.prog 4 := sc_of Tryz.underlying4 rfl (by kernel_rfl)
theorem fo : Tryz.prog.follows .mixedOrders = true := by kernel_rfl
theorem fa_76_4 : FaOf Tryz.prog 76 4 4 := fa_of (sz := 0) Tryz.underlying76 rfl rfl (by kernel_rfl)
theorem sc_74 : ScOf Tryz.prog 74 := sc_of Tryz.underlying74 rfl (by kernel_rfl)
theorem fn_78 : FnOf Tryz.prog 78 := ⟨_, Tryz.func78, by kernel_rfl, rfl⟩
theorem fn_79 : FnOf Tryz.prog 79 := ⟨_, Tryz.func79, by kernel_rfl, rfl⟩
theorem fn_77 : FnOf Tryz.prog 77 := ⟨_, Tryz.func77, by kernel_rfl, rfl⟩
theorem fn_70 : FnOf Tryz.prog 70 := ⟨_, Tryz.func70, by kernel_rfl, rfl⟩
theorem fa_126_0 : FaOf Tryz.prog 126 0 0 := fa_of (sz := 0) Tryz.underlying126 rfl rfl (by kernel_rfl)
theorem sc_124 : ScOf Tryz.prog 124 := sc_of Tryz.underlying124 rfl (by kernel_rfl)
theorem fa_72_0 : FaOf Tryz.prog 72 0 0 := fa_of (sz := 0) Tryz.underlying72 rfl rfl (by kernel_rfl)
theorem fa_72_1 : FaOf Tryz.prog 72 1 1 := fa_of (sz := 0) Tryz.underlying72 rfl rfl (by kernel_rfl)
theorem fa_72_2 : FaOf Tryz.prog 72 2 2 := fa_of (sz := 0) Tryz.underlying72 rfl rfl (by kernel_rfl)
theorem fn_97 : FnOf Tryz.prog 97 := ⟨_, Tryz.func97, by kernel_rfl, rfl⟩
theorem ext_103 : ExtOf Tryz.prog 103 Extern.BytealgCompare.compare := ⟨_, Tryz.func103, by kernel_rfl, by kernel_rfl, by kernel_rfl, by kernel_rfl⟩
theorem fn_98 : FnOf Tryz.prog 98 := ⟨_, Tryz.func98, by kernel_rfl, rfl⟩
theorem fn_99 : FnOf Tryz.prog 99 := ⟨_, Tryz.func99, by kernel_rfl, rfl⟩
theorem fn_100 : FnOf Tryz.prog 100 := ⟨_, Tryz.func100, by kernel_rfl, rfl⟩
theorem el_3 : ElOf Tryz.prog 3 1 8 := el_of (z := .int .i64 0) (by kernel_rfl) rfl
theorem fn_85 : FnOf Tryz.prog 85 := ⟨_, Tryz.func85, by kernel_rfl, rfl⟩
theorem fn_88 : FnOf Tryz.prog 88 := ⟨_, Tryz.func88, by kernel_rfl, rfl⟩
theorem fn_87 : FnOf Tryz.prog 87 := ⟨_, Tryz.func87, by kernel_rfl, rfl⟩
theorem fn_86 : FnOf Tryz.prog 86 := ⟨_, Tryz.func86, by kernel_rfl, rfl⟩
theorem zr_135 : ZrOf Tryz.prog 135 [.int .i64 0, .int .i64 0, .int .i64 0, .int .i64 0, .int .i64 0, .int .i64 0, .int .i64 0, .int .i64 0, .int .i64 0, .int .i64 0, .int .i64 0, .int .i64 0] := zr_of (z := .agg #[.int .i64 0, .int .i64 0, .int .i64 0, .int .i64 0, .int .i64 0, .int .i64 0, .int .i64 0, .int .i64 0, .int .i64 0, .int .i64 0, .int .i64 0, .int .i64 0]) (by kernel_rfl) rfl
theorem fa_126_2 : FaOf Tryz.prog 126 2 2 := fa_of (sz := 0) Tryz.underlying126 rfl rfl (by kernel_rfl)
theorem fa_134_3 : FaOf Tryz.prog 134 3 5 := fa_of (sz := 11) Tryz.underlying134 rfl rfl (by kernel_rfl)
theorem sc_21 : ScOf Tryz.prog 21 := sc_of Tryz.underlying21 rfl (by kernel_rfl)
theorem fa_134_0 : FaOf Tryz.prog 134 0 0 := fa_of (sz := 2) Tryz.underlying134 rfl rfl (by kernel_rfl)
theorem ag_72 : AgOf Tryz.prog 72 3 := ⟨_, Tryz.underlying72, rfl, by kernel_rfl⟩
theorem fn_56 : FnOf Tryz.prog 56 := ⟨_, Tryz.func56, by kernel_rfl, rfl⟩
theorem el_134 : ElOf Tryz.prog 134 18 112 := el_of (z := .agg #[.string (ByteArray.mk #[]), .int .u64 0, .int .i64 0, .string (ByteArray.mk #[]), .int .i64 0, .int .i32 0, .int .i32 0, .int .i32 0, .int .i32 0, .int .i32 0, .int .i32 0, .int .i32 0, .int .i32 0, .int .i32 0, .int .i32 0, .int .i32 0, .int .i32 0, .int .i32 0]) (by kernel_rfl) rfl
theorem ag_135 : AgOf Tryz.prog 135 12 := ⟨_, Tryz.underlying135, rfl, by kernel_rfl⟩
theorem fn_80 : FnOf Tryz.prog 80 := ⟨_, Tryz.func80, by kernel_rfl, rfl⟩
theorem fn_82 : FnOf Tryz.prog 82 := ⟨_, Tryz.func82, by kernel_rfl, rfl⟩
theorem fn_93 : FnOf Tryz.prog 93 := ⟨_, Tryz.func93, by kernel_rfl, rfl⟩
theorem fn_81 : FnOf Tryz.prog 81 := ⟨_, Tryz.func81, by kernel_rfl, rfl⟩
theorem fn_73 : FnOf Tryz.prog 73 := ⟨_, Tryz.func73, by kernel_rfl, rfl⟩
theorem fa_126_1 : FaOf Tryz.prog 126 1 1 := fa_of (sz := 0) Tryz.underlying126 rfl rfl (by kernel_rfl)
theorem zr_134 : ZrOf Tryz.prog 134 [.string (ByteArray.mk #[]), .int .u64 0, .int .i64 0, .string (ByteArray.mk #[]), .int .i64 0, .int .i32 0, .int .i32 0, .int .i32 0, .int .i32 0, .int .i32 0, .int .i32 0, .int .i32 0, .int .i32 0, .int .i32 0, .int .i32 0, .int .i32 0, .int .i32 0, .int .i32 0] := zr_of (z := .agg #[.string (ByteArray.mk #[]), .int .u64 0, .int .i64 0, .string (ByteArray.mk #[]), .int .i64 0, .int .i32 0, .int .i32 0, .int .i32 0, .int .i32 0, .int .i32 0, .int .i32 0, .int .i32 0, .int .i32 0, .int .i32 0, .int .i32 0, .int .i32 0, .int .i32 0, .int .i32 0]) (by kernel_rfl) rfl
theorem ag_134 : AgOf Tryz.prog 134 18 := ⟨_, Tryz.underlying134, rfl, by kernel_rfl⟩
theorem fa_134_4 : FaOf Tryz.prog 134 4 17 := fa_of (sz := 0) Tryz.underlying134 rfl rfl (by kernel_rfl)
theorem fa_126_3 : FaOf Tryz.prog 126 3 3 := fa_of (sz := 0) Tryz.underlying126 rfl rfl (by kernel_rfl)
theorem fn_46 : FnOf Tryz.prog 46 := ⟨_, Tryz.func46, by kernel_rfl, rfl⟩
theorem fa_76_0 : FaOf Tryz.prog 76 0 0 := fa_of (sz := 0) Tryz.underlying76 rfl rfl (by kernel_rfl)
theorem fa_76_1 : FaOf Tryz.prog 76 1 1 := fa_of (sz := 0) Tryz.underlying76 rfl rfl (by kernel_rfl)
theorem ag_32 : AgOf Tryz.prog 32 3 := ⟨_, Tryz.underlying32, rfl, by kernel_rfl⟩
theorem fn_47 : FnOf Tryz.prog 47 := ⟨_, Tryz.func47, by kernel_rfl, rfl⟩
theorem fn_48 : FnOf Tryz.prog 48 := ⟨_, Tryz.func48, by kernel_rfl, rfl⟩
theorem fa_76_3 : FaOf Tryz.prog 76 3 3 := fa_of (sz := 0) Tryz.underlying76 rfl rfl (by kernel_rfl)
theorem sc_73 : ScOf Tryz.prog 73 := sc_of Tryz.underlying73 rfl (by kernel_rfl)
theorem fn_49 : FnOf Tryz.prog 49 := ⟨_, Tryz.func49, by kernel_rfl, rfl⟩
theorem fa_76_6 : FaOf Tryz.prog 76 6 6 := fa_of (sz := 0) Tryz.underlying76 rfl rfl (by kernel_rfl)
theorem fa_76_7 : FaOf Tryz.prog 76 7 7 := fa_of (sz := 0) Tryz.underlying76 rfl rfl (by kernel_rfl)
theorem fa_76_8 : FaOf Tryz.prog 76 8 8 := fa_of (sz := 0) Tryz.underlying76 rfl rfl (by kernel_rfl)
theorem fa_76_5 : FaOf Tryz.prog 76 5 5 := fa_of (sz := 0) Tryz.underlying76 rfl rfl (by kernel_rfl)
theorem zr_72 : ZrOf Tryz.prog 72 [.string (ByteArray.mk #[]), .int .u64 0, .int .i64 0] := zr_of (z := .agg #[.string (ByteArray.mk #[]), .int .u64 0, .int .i64 0]) (by kernel_rfl) rfl
theorem fn_90 : FnOf Tryz.prog 90 := ⟨_, Tryz.func90, by kernel_rfl, rfl⟩
theorem fa_134_1 : FaOf Tryz.prog 134 1 3 := fa_of (sz := 0) Tryz.underlying134 rfl rfl (by kernel_rfl)
theorem zr_46 : ZrOf Tryz.prog 46 [.string (ByteArray.mk #[]), .int .u64 0, .int .i64 0, .string (ByteArray.mk #[])] := zr_of (z := .agg #[.string (ByteArray.mk #[]), .int .u64 0, .int .i64 0, .string (ByteArray.mk #[])]) (by kernel_rfl) rfl
theorem ag_46 : AgOf Tryz.prog 46 4 := ⟨_, Tryz.underlying46, rfl, by kernel_rfl⟩
theorem fn_91 : FnOf Tryz.prog 91 := ⟨_, Tryz.func91, by kernel_rfl, rfl⟩
theorem fa_46_0 : FaOf Tryz.prog 46 0 0 := fa_of (sz := 0) Tryz.underlying46 rfl rfl (by kernel_rfl)
theorem fn_62 : FnOf Tryz.prog 62 := ⟨_, Tryz.func62, by kernel_rfl, rfl⟩
theorem fn_84 : FnOf Tryz.prog 84 := ⟨_, Tryz.func84, by kernel_rfl, rfl⟩
theorem fn_125 : FnOf Tryz.prog 125 := ⟨_, Tryz.func125, by kernel_rfl, rfl⟩
theorem fn_140 : FnOf Tryz.prog 140 := ⟨_, Tryz.func140, by kernel_rfl, rfl⟩
theorem el_9 : ElOf Tryz.prog 9 1 16 := el_of (z := .string (ByteArray.mk #[])) (by kernel_rfl) rfl
theorem fn_113 : FnOf Tryz.prog 113 := ⟨_, Tryz.func113, by kernel_rfl, rfl⟩
theorem sc_185 : ScOf Tryz.prog 185 := sc_of Tryz.underlying185 rfl (by kernel_rfl)
theorem zr_185 : ZrOf Tryz.prog 185 [.int .u64 0] := zr_of (z := .int .u64 0) (by kernel_rfl) rfl
theorem fn_137 : FnOf Tryz.prog 137 := ⟨_, Tryz.func137, by kernel_rfl, rfl⟩
theorem fn_136 : FnOf Tryz.prog 136 := ⟨_, Tryz.func136, by kernel_rfl, rfl⟩
theorem zr_3 : ZrOf Tryz.prog 3 [.int .i64 0] := zr_of (z := .int .i64 0) (by kernel_rfl) rfl
theorem zr_9 : ZrOf Tryz.prog 9 [.string (ByteArray.mk #[])] := zr_of (z := .string (ByteArray.mk #[])) (by kernel_rfl) rfl
theorem fn_109 : FnOf Tryz.prog 109 := ⟨_, Tryz.func109, by kernel_rfl, rfl⟩
theorem fn_108 : FnOf Tryz.prog 108 := ⟨_, Tryz.func108, by kernel_rfl, rfl⟩
theorem fn_132 : FnOf Tryz.prog 132 := ⟨_, Tryz.func132, by kernel_rfl, rfl⟩
theorem el_27 : ElOf Tryz.prog 27 1 8 := el_of (z := .int .u64 0) (by kernel_rfl) rfl
theorem fn_141 : FnOf Tryz.prog 141 := ⟨_, Tryz.func141, by kernel_rfl, rfl⟩
theorem fn_145 : FnOf Tryz.prog 145 := ⟨_, Tryz.func145, by kernel_rfl, rfl⟩
theorem fn_143 : FnOf Tryz.prog 143 := ⟨_, Tryz.func143, by kernel_rfl, rfl⟩
theorem fn_142 : FnOf Tryz.prog 142 := ⟨_, Tryz.func142, by kernel_rfl, rfl⟩
theorem fn_126 : FnOf Tryz.prog 126 := ⟨_, Tryz.func126, by kernel_rfl, rfl⟩
theorem fn_127 : FnOf Tryz.prog 127 := ⟨_, Tryz.func127, by kernel_rfl, rfl⟩
theorem fn_130 : FnOf Tryz.prog 130 := ⟨_, Tryz.func130, by kernel_rfl, rfl⟩
theorem fn_131 : FnOf Tryz.prog 131 := ⟨_, Tryz.func131, by kernel_rfl, rfl⟩
theorem fn_133 : FnOf Tryz.prog 133 := ⟨_, Tryz.func133, by kernel_rfl, rfl⟩
theorem fn_114 : FnOf Tryz.prog 114 := ⟨_, Tryz.func114, by kernel_rfl, rfl⟩
theorem fn_134 : FnOf Tryz.prog 134 := ⟨_, Tryz.func134, by kernel_rfl, rfl⟩
theorem fn_129 : FnOf Tryz.prog 129 := ⟨_, Tryz.func129, by kernel_rfl, rfl⟩
theorem fn_128 : FnOf Tryz.prog 128 := ⟨_, Tryz.func128, by kernel_rfl, rfl⟩
theorem zr_27 : ZrOf Tryz.prog 27 [.int .u64 0] := zr_of (z := .int .u64 0) (by kernel_rfl) rfl
theorem fn_111 : FnOf Tryz.prog 111 := ⟨_, Tryz.func111, by kernel_rfl, rfl⟩
theorem fn_110 : FnOf Tryz.prog 110 := ⟨_, Tryz.func110, by kernel_rfl, rfl⟩
theorem zr_146 : ZrOf Tryz.prog 146 [.string (ByteArray.mk #[]), .string (ByteArray.mk #[]), (.slice none 0 0)] := zr_of (z := .agg #[.string (ByteArray.mk #[]), .string (ByteArray.mk #[]), (.slice none 0 0)]) (by kernel_rfl) rfl
theorem ag_146 : AgOf Tryz.prog 146 3 := ⟨_, Tryz.underlying146, rfl, by kernel_rfl⟩
theorem fa_146_0 : FaOf Tryz.prog 146 0 0 := fa_of (sz := 0) Tryz.underlying146 rfl rfl (by kernel_rfl)
theorem fa_146_1 : FaOf Tryz.prog 146 1 1 := fa_of (sz := 0) Tryz.underlying146 rfl rfl (by kernel_rfl)
theorem fa_146_2 : FaOf Tryz.prog 146 2 2 := fa_of (sz := 0) Tryz.underlying146 rfl rfl (by kernel_rfl)
theorem sc_144 : ScOf Tryz.prog 144 := sc_of Tryz.underlying144 rfl (by kernel_rfl)
theorem el_146 : ElOf Tryz.prog 146 3 56 := el_of (z := .agg #[.string (ByteArray.mk #[]), .string (ByteArray.mk #[]), (.slice none 0 0)]) (by kernel_rfl) rfl
theorem fn_106 : FnOf Tryz.prog 106 := ⟨_, Tryz.func106, by kernel_rfl, rfl⟩
theorem fn_105 : FnOf Tryz.prog 105 := ⟨_, Tryz.func105, by kernel_rfl, rfl⟩
theorem fn_107 : FnOf Tryz.prog 107 := ⟨_, Tryz.func107, by kernel_rfl, rfl⟩
theorem fn_104 : FnOf Tryz.prog 104 := ⟨_, Tryz.func104, by kernel_rfl, rfl⟩
theorem fn_76 : FnOf Tryz.prog 76 := ⟨_, Tryz.func76, by kernel_rfl, rfl⟩
theorem zr_4 : ZrOf Tryz.prog 4 [.bool false] := zr_of (z := .bool false) (by kernel_rfl) rfl
theorem fn_89 : FnOf Tryz.prog 89 := ⟨_, Tryz.func89, by kernel_rfl, rfl⟩
theorem fn_101 : FnOf Tryz.prog 101 := ⟨_, Tryz.func101, by kernel_rfl, rfl⟩
theorem fn_102 : FnOf Tryz.prog 102 := ⟨_, Tryz.func102, by kernel_rfl, rfl⟩
theorem fa_46_1 : FaOf Tryz.prog 46 1 1 := fa_of (sz := 0) Tryz.underlying46 rfl rfl (by kernel_rfl)
theorem fn_59 : FnOf Tryz.prog 59 := ⟨_, Tryz.func59, by kernel_rfl, rfl⟩
theorem fn_58 : FnOf Tryz.prog 58 := ⟨_, Tryz.func58, by kernel_rfl, rfl⟩
theorem fn_55 : FnOf Tryz.prog 55 := ⟨_, Tryz.func55, by kernel_rfl, rfl⟩
theorem fn_8 : FnOf Tryz.prog 8 := ⟨_, Tryz.func8, by kernel_rfl, rfl⟩
theorem fn_41 : FnOf Tryz.prog 41 := ⟨_, Tryz.func41, by kernel_rfl, rfl⟩
theorem fn_42 : FnOf Tryz.prog 42 := ⟨_, Tryz.func42, by kernel_rfl, rfl⟩
theorem fn_12 : FnOf Tryz.prog 12 := ⟨_, Tryz.func12, by kernel_rfl, rfl⟩
theorem fn_33 : FnOf Tryz.prog 33 := ⟨_, Tryz.func33, by kernel_rfl, rfl⟩
theorem fn_28 : FnOf Tryz.prog 28 := ⟨_, Tryz.func28, by kernel_rfl, rfl⟩
theorem fa_46_2 : FaOf Tryz.prog 46 2 2 := fa_of (sz := 0) Tryz.underlying46 rfl rfl (by kernel_rfl)
theorem fa_76_2 : FaOf Tryz.prog 76 2 2 := fa_of (sz := 0) Tryz.underlying76 rfl rfl (by kernel_rfl)
theorem fn_14 : FnOf Tryz.prog 14 := ⟨_, Tryz.func14, by kernel_rfl, rfl⟩
theorem fn_15 : FnOf Tryz.prog 15 := ⟨_, Tryz.func15, by kernel_rfl, rfl⟩
theorem fn_16 : FnOf Tryz.prog 16 := ⟨_, Tryz.func16, by kernel_rfl, rfl⟩
theorem fn_54 : FnOf Tryz.prog 54 := ⟨_, Tryz.func54, by kernel_rfl, rfl⟩
theorem fa_86_0 : FaOf Tryz.prog 86 0 0 := fa_of (sz := 0) Tryz.underlying86 rfl rfl (by kernel_rfl)
theorem sc_23 : ScOf Tryz.prog 23 := sc_of Tryz.underlying23 rfl (by kernel_rfl)
theorem fa_34_2 : FaOf Tryz.prog 34 2 2 := fa_of (sz := 0) Tryz.underlying34 rfl rfl (by kernel_rfl)
theorem fa_34_3 : FaOf Tryz.prog 34 3 3 := fa_of (sz := 2) Tryz.underlying34 rfl rfl (by kernel_rfl)
theorem fa_34_1 : FaOf Tryz.prog 34 1 1 := fa_of (sz := 0) Tryz.underlying34 rfl rfl (by kernel_rfl)
theorem el_34 : ElOf Tryz.prog 34 6 64 := el_of (z := .agg #[.int .i64 0, .int .i64 0, .int .u64 0, .int .i64 0, .string (ByteArray.mk #[]), .string (ByteArray.mk #[])]) (by kernel_rfl) rfl
theorem fn_17 : FnOf Tryz.prog 17 := ⟨_, Tryz.func17, by kernel_rfl, rfl⟩
theorem fn_40 : FnOf Tryz.prog 40 := ⟨_, Tryz.func40, by kernel_rfl, rfl⟩
theorem el_23 : ElOf Tryz.prog 23 1 8 := el_of (z := .pointer none) (by kernel_rfl) rfl
theorem zr_64 : ZrOf Tryz.prog 64 [(.slice none 0 0)] := zr_of (z := (.slice none 0 0)) (by kernel_rfl) rfl
theorem sc_64 : ScOf Tryz.prog 64 := sc_of Tryz.underlying64 rfl (by kernel_rfl)
theorem fa_86_1 : FaOf Tryz.prog 86 1 1 := fa_of (sz := 0) Tryz.underlying86 rfl rfl (by kernel_rfl)
theorem fn_75 : FnOf Tryz.prog 75 := ⟨_, Tryz.func75, by kernel_rfl, rfl⟩
theorem fn_94 : FnOf Tryz.prog 94 := ⟨_, Tryz.func94, by kernel_rfl, rfl⟩
theorem fn_18 : FnOf Tryz.prog 18 := ⟨_, Tryz.func18, by kernel_rfl, rfl⟩
theorem fn_31 : FnOf Tryz.prog 31 := ⟨_, Tryz.func31, by kernel_rfl, rfl⟩
theorem fn_57 : FnOf Tryz.prog 57 := ⟨_, Tryz.func57, by kernel_rfl, rfl⟩
theorem eqn_72 (n : Nat) (x y : IKey) (w : World) : (Op.equalIn (n + 2) 72 (.agg (IKey.enc x).toArray) (.agg (IKey.enc y).toArray)).run Tryz.prog w = .ok (IKey.eqb x y) w := eqA_of Tryz.underlying72 (by kernel_rfl) (fun w => eqf_step rfl Tryz.underlying9 rfl rfl rfl (fun w => eqIn_str _ _ _ _ Tryz.underlying9 w) (eqf_step rfl Tryz.underlying27 rfl rfl rfl (fun w => eqIn_int _ _ _ _ Tryz.underlying27 w) (eqf_step rfl Tryz.underlying3 rfl rfl rfl (fun w => eqIn_int _ _ _ _ Tryz.underlying3 w) (eqf_nil)))) w
theorem eqof_72 : EqOf Tryz.prog 72 IKey.enc IKey.eqb := ⟨by kernel_rfl, fun x y w => eqn_72 9998 x y w⟩
theorem eqn_46 (n : Nat) (x y : Entry) (w : World) : (Op.equalIn (n + 2) 46 (.agg (Entry.enc x).toArray) (.agg (Entry.enc y).toArray)).run Tryz.prog w = .ok (Entry.eqb x y) w := eqA_of Tryz.underlying46 (by kernel_rfl) (fun w => eqf_step rfl Tryz.underlying9 rfl rfl rfl (fun w => eqIn_str _ _ _ _ Tryz.underlying9 w) (eqf_step rfl Tryz.underlying27 rfl rfl rfl (fun w => eqIn_int _ _ _ _ Tryz.underlying27 w) (eqf_step rfl Tryz.underlying3 rfl rfl rfl (fun w => eqIn_int _ _ _ _ Tryz.underlying3 w) (eqf_step rfl Tryz.underlying9 rfl rfl rfl (fun w => eqIn_str _ _ _ _ Tryz.underlying9 w) (eqf_nil))))) w
theorem eqof_46 : EqOf Tryz.prog 46 Entry.enc Entry.eqb := ⟨by kernel_rfl, fun x y w => eqn_46 9998 x y w⟩
theorem bsI {α β : Type} {o : Option α} {f : α → Option β} {b : β} (h : o.bind f = some b) : ∃ a, o = some a ∧ f a = some b := Option.bind_eq_some_iff.1 h
theorem bfI {b : Bool} (h : ¬ b = true) : b = false := Bool.eq_false_iff.2 h
theorem tv : True := True.intro
theorem oi {α : Type} {x y : α} (h : some x = some y) : x = y := Option.some.inj h
abbrev tn := @then_normal
abbrev te := @then_exit
abbrev xi := @x_indexAddr
abbrev xm := @x_move
abbrev xl := @x_loadEF
abbrev xb := @x_loadB
abbrev xS := @r_storeE
abbrev sh := @shut_sh
abbrev wQ := @wq_region_q
abbrev wG := @wq_region_t
abbrev wl := @wl_join0
abbrev wc := @wq_cut
abbrev sb := @sub_sh
abbrev wT := @wq_condT
abbrev wF := @wq_condF
abbrev wR := @wq_region_lit
abbrev wS := @wq_seq
end Go.Proofs.YtbaemhkfmddakaaGreat.Mo
