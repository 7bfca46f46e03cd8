import Derived.Test.YtlhmchndcilifaaGreatVzTw
import Derived.Test.YtlhmchndcilifaaGreatProg
set_option linter.unusedVariables false
set_option linter.unusedSectionVars false
set_option linter.unusedSimpArgs false
set_option maxRecDepth 100000
namespace Go.Proofs.YtlhmchndcilifaaGreat.Mo
open Go Go.Proofs.YtlhmchndcilifaaGreat.Sy
open Go.Proofs
def k_Entry : Kd Entry := Kd.flat 4 Entry.enc (fun _ => rfl) (fun x u hu => by simp only [Entry.enc, List.mem_cons, List.not_mem_nil, or_false] at hu; rcases hu with h | h | h | h <;> subst h <;> rfl)
def k_Tomb : Kd Tomb := Kd.flat 3 Tomb.enc (fun _ => rfl) (fun x u hu => by simp only [Tomb.enc, List.mem_cons, List.not_mem_nil, or_false] at hu; rcases hu with h | h | h <;> subst h <;> rfl)
def k_tomb_Set : Kd tomb_Set := Kd.iso (Kd.pair (Kd.slice 32 k_Tomb) Kd.bool) (fun x => (x.tombs, x.made))
def k_Fragment : Kd Fragment := Kd.iso (Kd.pair Kd.str (Kd.pair Kd.str (Kd.slice 24 (Kd.int .u64)))) (fun x => (x.Begin, x.End, x.Seqs))
def k_Op : Kd Op := Kd.flat 3 Op.enc (fun _ => rfl) (fun x u hu => by simp only [Op.enc, List.mem_cons, List.not_mem_nil, or_false] at hu; rcases hu with h | h | h <;> subst h <;> rfl)
theorem SH.op_tomb_Set {F : Nat → Prop} {w0 w : World} {M : List SP} {g : Nat} {x : tomb_Set} (h : SH F w0 w (El (Kd.ptr 113 k_tomb_Set) [.pointer (some ⟨g, 0, none⟩)] x :: M)) : ∃ (v0 : Value), SH F w0 w (Row k_Tomb 32 v0 x.tombs :: Box g [v0, .bool x.made] 113 :: M) := by
  obtain ⟨c, h⟩ := SH.openPtr h
  replace h := h.front 1 rfl
  replace h := SH.openIso h
  obtain ⟨c0, d0, rfl, h⟩ := SH.openPair h
  obtain ⟨v0, rfl, h⟩ := SH.openSl h
  replace h := h.front 1 rfl
  obtain ⟨rfl, h⟩ := SH.openFlat h
  exact ⟨v0, h⟩
theorem zr_30 : ZrOf Tryz.prog 30 [.string (ByteArray.mk #[]), .int .u64 0, .int .i64 0, .string (ByteArray.mk #[])] := zr_of (z := .agg #[.string (ByteArray.mk #[]), .int .u64 0, .int .i64 0, .string (ByteArray.mk #[])]) (by kernel_rfl) rfl
theorem ag_30 : AgOf Tryz.prog 30 4 := ⟨_, Tryz.underlying30, rfl, by kernel_rfl⟩
theorem fa_32_0 : FaOf Tryz.prog 32 0 0 := fa_of (sz := 0) Tryz.underlying32 rfl rfl (by kernel_rfl)
theorem sc_9 : ScOf Tryz.prog 9 := sc_of Tryz.underlying9 rfl (by kernel_rfl)
theorem fa_32_1 : FaOf Tryz.prog 32 1 1 := fa_of (sz := 0) Tryz.underlying32 rfl rfl (by kernel_rfl)
theorem fa_32_2 : FaOf Tryz.prog 32 2 2 := fa_of (sz := 0) Tryz.underlying32 rfl rfl (by kernel_rfl)
theorem sc_24 : ScOf Tryz.prog 24 := sc_of Tryz.underlying24 rfl (by kernel_rfl)
theorem ag_32 : AgOf Tryz.prog 32 3 := ⟨_, Tryz.underlying32, rfl, by kernel_rfl⟩
theorem zr_32 : ZrOf Tryz.prog 32 [.string (ByteArray.mk #[]), .string (ByteArray.mk #[]), .int .u64 0] := zr_of (z := .agg #[.string (ByteArray.mk #[]), .string (ByteArray.mk #[]), .int .u64 0]) (by kernel_rfl) rfl
theorem el_32 : ElOf Tryz.prog 32 3 40 := el_of (z := .agg #[.string (ByteArray.mk #[]), .string (ByteArray.mk #[]), .int .u64 0]) (by kernel_rfl) rfl
theorem fn_89 : FnOf Tryz.prog 89 := ⟨_, Tryz.func89, by kernel_rfl, rfl⟩
theorem el_30 : ElOf Tryz.prog 30 4 48 := el_of (z := .agg #[.string (ByteArray.mk #[]), .int .u64 0, .int .i64 0, .string (ByteArray.mk #[])]) (by kernel_rfl) rfl
theorem fo : Tryz.prog.follows .mixedOrders = true := by kernel_rfl
theorem fn_123 : FnOf Tryz.prog 123 := ⟨_, Tryz.func123, by kernel_rfl, rfl⟩
theorem fn_114 : FnOf Tryz.prog 114 := ⟨_, Tryz.func114, by kernel_rfl, rfl⟩
theorem fn_103 : FnOf Tryz.prog 103 := ⟨_, Tryz.func103, by kernel_rfl, rfl⟩
theorem fn_102 : FnOf Tryz.prog 102 := ⟨_, Tryz.func102, by kernel_rfl, rfl⟩
theorem fn_90 : FnOf Tryz.prog 90 := ⟨_, Tryz.func90, by kernel_rfl, rfl⟩
theorem ext_124 : ExtOf Tryz.prog 124 Extern.BytealgCompare.compare := ⟨_, Tryz.func124, by kernel_rfl, by kernel_rfl, by kernel_rfl, by kernel_rfl⟩
theorem fn_115 : FnOf Tryz.prog 115 := ⟨_, Tryz.func115, by kernel_rfl, rfl⟩
theorem fn_116 : FnOf Tryz.prog 116 := ⟨_, Tryz.func116, by kernel_rfl, rfl⟩
theorem fn_117 : FnOf Tryz.prog 117 := ⟨_, Tryz.func117, by kernel_rfl, rfl⟩
theorem sc_3 : ScOf Tryz.prog 3 := sc_of Tryz.underlying3 rfl (by kernel_rfl)
theorem el_3 : ElOf Tryz.prog 3 1 8 := el_of (z := .int .i64 0) (by kernel_rfl) rfl
theorem fa_84_0 : FaOf Tryz.prog 84 0 0 := fa_of (sz := 0) Tryz.underlying84 rfl rfl (by kernel_rfl)
theorem fa_84_1 : FaOf Tryz.prog 84 1 1 := fa_of (sz := 0) Tryz.underlying84 rfl rfl (by kernel_rfl)
theorem fa_84_2 : FaOf Tryz.prog 84 2 2 := fa_of (sz := 0) Tryz.underlying84 rfl rfl (by kernel_rfl)
theorem fn_104 : FnOf Tryz.prog 104 := ⟨_, Tryz.func104, by kernel_rfl, rfl⟩
theorem fn_107 : FnOf Tryz.prog 107 := ⟨_, Tryz.func107, by kernel_rfl, rfl⟩
theorem fn_106 : FnOf Tryz.prog 106 := ⟨_, Tryz.func106, by kernel_rfl, rfl⟩
theorem fn_105 : FnOf Tryz.prog 105 := ⟨_, Tryz.func105, by kernel_rfl, rfl⟩
theorem fa_30_0 : FaOf Tryz.prog 30 0 0 := fa_of (sz := 0) Tryz.underlying30 rfl rfl (by kernel_rfl)
theorem fa_30_1 : FaOf Tryz.prog 30 1 1 := fa_of (sz := 0) Tryz.underlying30 rfl rfl (by kernel_rfl)
theorem fa_30_2 : FaOf Tryz.prog 30 2 2 := fa_of (sz := 0) Tryz.underlying30 rfl rfl (by kernel_rfl)
theorem fn_91 : FnOf Tryz.prog 91 := ⟨_, Tryz.func91, by kernel_rfl, rfl⟩
theorem fn_62 : FnOf Tryz.prog 62 := ⟨_, Tryz.func62, by kernel_rfl, rfl⟩
theorem fn_61 : FnOf Tryz.prog 61 := ⟨_, Tryz.func61, by kernel_rfl, rfl⟩
theorem fn_60 : FnOf Tryz.prog 60 := ⟨_, Tryz.func60, by kernel_rfl, rfl⟩
theorem fn_59 : FnOf Tryz.prog 59 := ⟨_, Tryz.func59, by kernel_rfl, rfl⟩
theorem fa_113_0 : FaOf Tryz.prog 113 0 0 := fa_of (sz := 0) Tryz.underlying113 rfl rfl (by kernel_rfl)
theorem sc_23 : ScOf Tryz.prog 23 := sc_of Tryz.underlying23 rfl (by kernel_rfl)
theorem fn_88 : FnOf Tryz.prog 88 := ⟨_, Tryz.func88, by kernel_rfl, rfl⟩
theorem fn_143 : FnOf Tryz.prog 143 := ⟨_, Tryz.func143, by kernel_rfl, rfl⟩
theorem fn_158 : FnOf Tryz.prog 158 := ⟨_, Tryz.func158, by kernel_rfl, rfl⟩
theorem fn_139 : FnOf Tryz.prog 139 := ⟨_, Tryz.func139, by kernel_rfl, rfl⟩
theorem el_9 : ElOf Tryz.prog 9 1 16 := el_of (z := .string (ByteArray.mk #[])) (by kernel_rfl) rfl
theorem fn_153 : FnOf Tryz.prog 153 := ⟨_, Tryz.func153, by kernel_rfl, rfl⟩
theorem fn_131 : FnOf Tryz.prog 131 := ⟨_, Tryz.func131, by kernel_rfl, rfl⟩
theorem sc_193 : ScOf Tryz.prog 193 := sc_of Tryz.underlying193 rfl (by kernel_rfl)
theorem zr_193 : ZrOf Tryz.prog 193 [.int .u64 0] := zr_of (z := .int .u64 0) (by kernel_rfl) rfl
theorem fn_155 : FnOf Tryz.prog 155 := ⟨_, Tryz.func155, by kernel_rfl, rfl⟩
theorem fn_154 : FnOf Tryz.prog 154 := ⟨_, Tryz.func154, by kernel_rfl, rfl⟩
theorem fn_162 : FnOf Tryz.prog 162 := ⟨_, Tryz.func162, by kernel_rfl, rfl⟩
theorem fn_157 : FnOf Tryz.prog 157 := ⟨_, Tryz.func157, by kernel_rfl, rfl⟩
theorem zr_3 : ZrOf Tryz.prog 3 [.int .i64 0] := zr_of (z := .int .i64 0) (by kernel_rfl) rfl
theorem fn_156 : FnOf Tryz.prog 156 := ⟨_, Tryz.func156, by kernel_rfl, rfl⟩
theorem fn_133 : FnOf Tryz.prog 133 := ⟨_, Tryz.func133, by kernel_rfl, rfl⟩
theorem fn_134 : FnOf Tryz.prog 134 := ⟨_, Tryz.func134, by kernel_rfl, rfl⟩
theorem fn_137 : FnOf Tryz.prog 137 := ⟨_, Tryz.func137, by kernel_rfl, rfl⟩
theorem fn_138 : FnOf Tryz.prog 138 := ⟨_, Tryz.func138, by kernel_rfl, rfl⟩
theorem fn_140 : FnOf Tryz.prog 140 := ⟨_, Tryz.func140, by kernel_rfl, rfl⟩
theorem fn_130 : FnOf Tryz.prog 130 := ⟨_, Tryz.func130, by kernel_rfl, rfl⟩
theorem fn_141 : FnOf Tryz.prog 141 := ⟨_, Tryz.func141, by kernel_rfl, rfl⟩
theorem fn_136 : FnOf Tryz.prog 136 := ⟨_, Tryz.func136, by kernel_rfl, rfl⟩
theorem fn_135 : FnOf Tryz.prog 135 := ⟨_, Tryz.func135, by kernel_rfl, rfl⟩
theorem zr_9 : ZrOf Tryz.prog 9 [.string (ByteArray.mk #[])] := zr_of (z := .string (ByteArray.mk #[])) (by kernel_rfl) rfl
theorem fn_126 : FnOf Tryz.prog 126 := ⟨_, Tryz.func126, by kernel_rfl, rfl⟩
theorem fn_125 : FnOf Tryz.prog 125 := ⟨_, Tryz.func125, by kernel_rfl, rfl⟩
theorem fn_150 : FnOf Tryz.prog 150 := ⟨_, Tryz.func150, by kernel_rfl, rfl⟩
theorem el_24 : ElOf Tryz.prog 24 1 8 := el_of (z := .int .u64 0) (by kernel_rfl) rfl
theorem fn_159 : FnOf Tryz.prog 159 := ⟨_, Tryz.func159, by kernel_rfl, rfl⟩
theorem fn_163 : FnOf Tryz.prog 163 := ⟨_, Tryz.func163, by kernel_rfl, rfl⟩
theorem fn_161 : FnOf Tryz.prog 161 := ⟨_, Tryz.func161, by kernel_rfl, rfl⟩
theorem fn_160 : FnOf Tryz.prog 160 := ⟨_, Tryz.func160, by kernel_rfl, rfl⟩
theorem fn_144 : FnOf Tryz.prog 144 := ⟨_, Tryz.func144, by kernel_rfl, rfl⟩
theorem fn_145 : FnOf Tryz.prog 145 := ⟨_, Tryz.func145, by kernel_rfl, rfl⟩
theorem fn_148 : FnOf Tryz.prog 148 := ⟨_, Tryz.func148, by kernel_rfl, rfl⟩
theorem fn_149 : FnOf Tryz.prog 149 := ⟨_, Tryz.func149, by kernel_rfl, rfl⟩
theorem fn_151 : FnOf Tryz.prog 151 := ⟨_, Tryz.func151, by kernel_rfl, rfl⟩
theorem fn_132 : FnOf Tryz.prog 132 := ⟨_, Tryz.func132, by kernel_rfl, rfl⟩
theorem fn_152 : FnOf Tryz.prog 152 := ⟨_, Tryz.func152, by kernel_rfl, rfl⟩
theorem fn_147 : FnOf Tryz.prog 147 := ⟨_, Tryz.func147, by kernel_rfl, rfl⟩
theorem fn_146 : FnOf Tryz.prog 146 := ⟨_, Tryz.func146, by kernel_rfl, rfl⟩
theorem zr_24 : ZrOf Tryz.prog 24 [.int .u64 0] := zr_of (z := .int .u64 0) (by kernel_rfl) rfl
theorem fn_128 : FnOf Tryz.prog 128 := ⟨_, Tryz.func128, by kernel_rfl, rfl⟩
theorem fn_127 : FnOf Tryz.prog 127 := ⟨_, Tryz.func127, by kernel_rfl, rfl⟩
theorem zr_148 : ZrOf Tryz.prog 148 [.string (ByteArray.mk #[]), .string (ByteArray.mk #[]), (.slice none 0 0)] := zr_of (z := .agg #[.string (ByteArray.mk #[]), .string (ByteArray.mk #[]), (.slice none 0 0)]) (by kernel_rfl) rfl
theorem ag_148 : AgOf Tryz.prog 148 3 := ⟨_, Tryz.underlying148, rfl, by kernel_rfl⟩
theorem fa_148_0 : FaOf Tryz.prog 148 0 0 := fa_of (sz := 0) Tryz.underlying148 rfl rfl (by kernel_rfl)
theorem fa_148_1 : FaOf Tryz.prog 148 1 1 := fa_of (sz := 0) Tryz.underlying148 rfl rfl (by kernel_rfl)
theorem fa_148_2 : FaOf Tryz.prog 148 2 2 := fa_of (sz := 0) Tryz.underlying148 rfl rfl (by kernel_rfl)
theorem sc_146 : ScOf Tryz.prog 146 := sc_of Tryz.underlying146 rfl (by kernel_rfl)
theorem el_148 : ElOf Tryz.prog 148 3 56 := el_of (z := .agg #[.string (ByteArray.mk #[]), .string (ByteArray.mk #[]), (.slice none 0 0)]) (by kernel_rfl) rfl
theorem fn_120 : FnOf Tryz.prog 120 := ⟨_, Tryz.func120, by kernel_rfl, rfl⟩
theorem fn_119 : FnOf Tryz.prog 119 := ⟨_, Tryz.func119, by kernel_rfl, rfl⟩
theorem fn_121 : FnOf Tryz.prog 121 := ⟨_, Tryz.func121, by kernel_rfl, rfl⟩
theorem fn_118 : FnOf Tryz.prog 118 := ⟨_, Tryz.func118, by kernel_rfl, rfl⟩
theorem fn_58 : FnOf Tryz.prog 58 := ⟨_, Tryz.func58, by kernel_rfl, rfl⟩
theorem zr_4 : ZrOf Tryz.prog 4 [.bool false] := zr_of (z := .bool false) (by kernel_rfl) rfl
theorem fn_92 : FnOf Tryz.prog 92 := ⟨_, Tryz.func92, by kernel_rfl, rfl⟩
theorem fn_108 : FnOf Tryz.prog 108 := ⟨_, Tryz.func108, by kernel_rfl, rfl⟩
theorem sc_51 : ScOf Tryz.prog 51 := sc_of Tryz.underlying51 rfl (by kernel_rfl)
theorem sc_4 : ScOf Tryz.prog 4 := sc_of Tryz.underlying4 rfl (by kernel_rfl)
theorem fn_109 : FnOf Tryz.prog 109 := ⟨_, Tryz.func109, by kernel_rfl, rfl⟩
theorem fn_57 : FnOf Tryz.prog 57 := ⟨_, Tryz.func57, by kernel_rfl, rfl⟩
theorem fn_63 : FnOf Tryz.prog 63 := ⟨_, Tryz.func63, by kernel_rfl, rfl⟩
theorem fn_33 : FnOf Tryz.prog 33 := ⟨_, Tryz.func33, by kernel_rfl, rfl⟩
theorem fn_36 : FnOf Tryz.prog 36 := ⟨_, Tryz.func36, by kernel_rfl, rfl⟩
theorem fn_37 : FnOf Tryz.prog 37 := ⟨_, Tryz.func37, by kernel_rfl, rfl⟩
theorem fa_30_3 : FaOf Tryz.prog 30 3 3 := fa_of (sz := 0) Tryz.underlying30 rfl rfl (by kernel_rfl)
theorem el_60 : ElOf Tryz.prog 60 3 40 := el_of (z := .agg #[.int .i64 0, .string (ByteArray.mk #[]), .string (ByteArray.mk #[])]) (by kernel_rfl) rfl
theorem fn_34 : FnOf Tryz.prog 34 := ⟨_, Tryz.func34, by kernel_rfl, rfl⟩
theorem fn_35 : FnOf Tryz.prog 35 := ⟨_, Tryz.func35, by kernel_rfl, rfl⟩
theorem ag_60 : AgOf Tryz.prog 60 3 := ⟨_, Tryz.underlying60, rfl, by kernel_rfl⟩
theorem fa_60_1 : FaOf Tryz.prog 60 1 1 := fa_of (sz := 0) Tryz.underlying60 rfl rfl (by kernel_rfl)
theorem fn_31 : FnOf Tryz.prog 31 := ⟨_, Tryz.func31, by kernel_rfl, rfl⟩
theorem fn_14 : FnOf Tryz.prog 14 := ⟨_, Tryz.func14, by kernel_rfl, rfl⟩
theorem fn_9 : FnOf Tryz.prog 9 := ⟨_, Tryz.func9, by kernel_rfl, rfl⟩
theorem fn_38 : FnOf Tryz.prog 38 := ⟨_, Tryz.func38, by kernel_rfl, rfl⟩
theorem zr_84 : ZrOf Tryz.prog 84 [.string (ByteArray.mk #[]), .int .u64 0, .int .i64 0] := zr_of (z := .agg #[.string (ByteArray.mk #[]), .int .u64 0, .int .i64 0]) (by kernel_rfl) rfl
theorem ag_84 : AgOf Tryz.prog 84 3 := ⟨_, Tryz.underlying84, rfl, by kernel_rfl⟩
theorem fn_10 : FnOf Tryz.prog 10 := ⟨_, Tryz.func10, by kernel_rfl, rfl⟩
theorem el_41 : ElOf Tryz.prog 41 1 8 := el_of (z := .pointer none) (by kernel_rfl) rfl
theorem sc_41 : ScOf Tryz.prog 41 := sc_of Tryz.underlying41 rfl (by kernel_rfl)
theorem fn_20 : FnOf Tryz.prog 20 := ⟨_, Tryz.func20, by kernel_rfl, rfl⟩
theorem fn_42 : FnOf Tryz.prog 42 := ⟨_, Tryz.func42, by kernel_rfl, rfl⟩
theorem fn_21 : FnOf Tryz.prog 21 := ⟨_, Tryz.func21, by kernel_rfl, rfl⟩
theorem fn_22 : FnOf Tryz.prog 22 := ⟨_, Tryz.func22, by kernel_rfl, rfl⟩
theorem fn_23 : FnOf Tryz.prog 23 := ⟨_, Tryz.func23, by kernel_rfl, rfl⟩
theorem fn_24 : FnOf Tryz.prog 24 := ⟨_, Tryz.func24, by kernel_rfl, rfl⟩
theorem fn_25 : FnOf Tryz.prog 25 := ⟨_, Tryz.func25, by kernel_rfl, rfl⟩
theorem fa_53_0 : FaOf Tryz.prog 53 0 0 := fa_of (sz := 0) Tryz.underlying53 rfl rfl (by kernel_rfl)
theorem sc_38 : ScOf Tryz.prog 38 := sc_of Tryz.underlying38 rfl (by kernel_rfl)
theorem eqn_60 (n : Nat) (x y : Op) (w : World) : (Op.equalIn (n + 2) 60 (.agg (Op.enc x).toArray) (.agg (Op.enc y).toArray)).run Tryz.prog w = .ok (Op.eqb x y) w := eqA_of Tryz.underlying60 (by kernel_rfl) (fun w => eqf_step rfl Tryz.underlying3 rfl rfl rfl (fun w => eqIn_int _ _ _ _ Tryz.underlying3 w) (eqf_step rfl Tryz.underlying9 rfl rfl rfl (fun w => eqIn_str _ _ _ _ Tryz.underlying9 w) (eqf_step rfl Tryz.underlying9 rfl rfl rfl (fun w => eqIn_str _ _ _ _ Tryz.underlying9 w) (eqf_nil)))) w
theorem eqof_60 : EqOf Tryz.prog 60 Op.enc Op.eqb := ⟨by kernel_rfl, fun x y w => eqn_60 9998 x y w⟩
end Go.Proofs.YtlhmchndcilifaaGreat.Mo
