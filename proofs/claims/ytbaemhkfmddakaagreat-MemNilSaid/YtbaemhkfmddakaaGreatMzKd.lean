import Derived.Test.YtbaemhkfmddakaaGreatMzTw
import Derived.Test.YtbaemhkfmddakaaGreatProg
set_option linter.unusedVariables false
set_option linter.unusedSectionVars false
set_option linter.unusedSimpArgs false
set_option maxRecDepth 100000
namespace Go.Proofs.YtbaemhkfmddakaaGreat.Mo
open Go Go.Proofs.YtbaemhkfmddakaaGreat.Sy
open Go.Proofs
def k_Tomb : Kd Tomb := Kd.flat 3 Tomb.enc (fun _ => rfl) (fun x u hu => by simp only [Tomb.enc, List.mem_cons, List.not_mem_nil, or_false] at hu; rcases hu with h | h | h <;> subst h <;> rfl)
def k_Op : Kd Op := Kd.flat 3 Op.enc (fun _ => rfl) (fun x u hu => by simp only [Op.enc, List.mem_cons, List.not_mem_nil, or_false] at hu; rcases hu with h | h | h <;> subst h <;> rfl)
def k_L10_Act : Kd L10_Act := Kd.flat 6 L10_Act.enc (fun _ => rfl) (fun x u hu => by simp only [L10_Act.enc, List.mem_cons, List.not_mem_nil, or_false] at hu; rcases hu with h | h | h | h | h | h <;> subst h <;> rfl)
def k_IKey : Kd IKey := Kd.flat 3 IKey.enc (fun _ => rfl) (fun x u hu => by simp only [IKey.enc, List.mem_cons, List.not_mem_nil, or_false] at hu; rcases hu with h | h | h <;> subst h <;> rfl)
def k_skip_node_string : Kd skip_node_string := Kd.flat 18 skip_node_string.enc (fun _ => rfl) (fun x u hu => by simp only [skip_node_string.enc, List.mem_cons, List.not_mem_nil, or_false] at hu; rcases hu with h | h | h | h | h | h | h | h | h | h | h | h | h | h | h | h | h | h <;> subst h <;> rfl)
theorem fa_100_0 : FaOf Tryz.prog 100 0 0 := fa_of (sz := 0) Tryz.underlying100 rfl rfl (by kernel_rfl)
theorem sc_9 : ScOf Tryz.prog 9 := sc_of Tryz.underlying9 rfl (by kernel_rfl)
theorem fa_100_1 : FaOf Tryz.prog 100 1 1 := fa_of (sz := 0) Tryz.underlying100 rfl rfl (by kernel_rfl)
theorem fa_100_2 : FaOf Tryz.prog 100 2 2 := fa_of (sz := 0) Tryz.underlying100 rfl rfl (by kernel_rfl)
theorem sc_27 : ScOf Tryz.prog 27 := sc_of Tryz.underlying27 rfl (by kernel_rfl)
theorem ag_100 : AgOf Tryz.prog 100 3 := ⟨_, Tryz.underlying100, rfl, by kernel_rfl⟩
theorem zr_100 : ZrOf Tryz.prog 100 [.string (ByteArray.mk #[]), .string (ByteArray.mk #[]), .int .u64 0] := zr_of (z := .agg #[.string (ByteArray.mk #[]), .string (ByteArray.mk #[]), .int .u64 0]) (by kernel_rfl) rfl
theorem el_100 : ElOf Tryz.prog 100 3 40 := el_of (z := .agg #[.string (ByteArray.mk #[]), .string (ByteArray.mk #[]), .int .u64 0]) (by kernel_rfl) rfl
theorem fn_95 : FnOf Tryz.prog 95 := ⟨_, Tryz.func95, by kernel_rfl, rfl⟩
theorem el_23 : ElOf Tryz.prog 23 1 8 := el_of (z := .pointer none) (by kernel_rfl) rfl
theorem sc_23 : ScOf Tryz.prog 23 := sc_of Tryz.underlying23 rfl (by kernel_rfl)
theorem fa_34_3 : FaOf Tryz.prog 34 3 3 := fa_of (sz := 2) Tryz.underlying34 rfl rfl (by kernel_rfl)
theorem fa_32_1 : FaOf Tryz.prog 32 1 1 := fa_of (sz := 0) Tryz.underlying32 rfl rfl (by kernel_rfl)
theorem fa_34_2 : FaOf Tryz.prog 34 2 2 := fa_of (sz := 0) Tryz.underlying34 rfl rfl (by kernel_rfl)
theorem fn_28 : FnOf Tryz.prog 28 := ⟨_, Tryz.func28, by kernel_rfl, rfl⟩
theorem zr_46 : ZrOf Tryz.prog 46 [.string (ByteArray.mk #[]), .int .u64 0, .int .i64 0, .string (ByteArray.mk #[])] := zr_of (z := .agg #[.string (ByteArray.mk #[]), .int .u64 0, .int .i64 0, .string (ByteArray.mk #[])]) (by kernel_rfl) rfl
theorem fn_46 : FnOf Tryz.prog 46 := ⟨_, Tryz.func46, by kernel_rfl, rfl⟩
theorem ag_46 : AgOf Tryz.prog 46 4 := ⟨_, Tryz.underlying46, rfl, by kernel_rfl⟩
theorem fn_29 : FnOf Tryz.prog 29 := ⟨_, Tryz.func29, by kernel_rfl, rfl⟩
theorem ag_32 : AgOf Tryz.prog 32 3 := ⟨_, Tryz.underlying32, rfl, by kernel_rfl⟩
theorem fa_34_1 : FaOf Tryz.prog 34 1 1 := fa_of (sz := 0) Tryz.underlying34 rfl rfl (by kernel_rfl)
theorem sc_3 : ScOf Tryz.prog 3 := sc_of Tryz.underlying3 rfl (by kernel_rfl)
theorem fn_12 : FnOf Tryz.prog 12 := ⟨_, Tryz.func12, by kernel_rfl, rfl⟩
theorem fn_20 : FnOf Tryz.prog 20 := ⟨_, Tryz.func20, by kernel_rfl, rfl⟩
theorem fn_30 : FnOf Tryz.prog 30 := ⟨_, Tryz.func30, by kernel_rfl, rfl⟩
theorem fn_31 : FnOf Tryz.prog 31 := ⟨_, Tryz.func31, by kernel_rfl, rfl⟩
theorem fn_32 : FnOf Tryz.prog 32 := ⟨_, Tryz.func32, by kernel_rfl, rfl⟩
theorem fn_33 : FnOf Tryz.prog 33 := ⟨_, Tryz.func33, by kernel_rfl, rfl⟩
theorem fn_21 : FnOf Tryz.prog 21 := ⟨_, Tryz.func21, by kernel_rfl, rfl⟩
theorem fa_76_0 : FaOf Tryz.prog 76 0 0 := fa_of (sz := 0) Tryz.underlying76 rfl rfl (by kernel_rfl)
theorem sc_4 : ScOf Tryz.prog 4 := sc_of Tryz.underlying4 rfl (by kernel_rfl)
theorem el_55 : ElOf Tryz.prog 55 1 8 := el_of (z := .pointer none) (by kernel_rfl) rfl
theorem sc_55 : ScOf Tryz.prog 55 := sc_of Tryz.underlying55 rfl (by kernel_rfl)
theorem fn_22 : FnOf Tryz.prog 22 := ⟨_, Tryz.func22, by kernel_rfl, rfl⟩
theorem fn_63 : FnOf Tryz.prog 63 := ⟨_, Tryz.func63, by kernel_rfl, rfl⟩
theorem fn_34 : FnOf Tryz.prog 34 := ⟨_, Tryz.func34, by kernel_rfl, rfl⟩
theorem fn_35 : FnOf Tryz.prog 35 := ⟨_, Tryz.func35, by kernel_rfl, rfl⟩
theorem ag_72 : AgOf Tryz.prog 72 3 := ⟨_, Tryz.underlying72, rfl, by kernel_rfl⟩
theorem fn_36 : FnOf Tryz.prog 36 := ⟨_, Tryz.func36, by kernel_rfl, rfl⟩
theorem fo : Tryz.prog.follows .mixedOrders = true := by kernel_rfl
theorem fn_23 : FnOf Tryz.prog 23 := ⟨_, Tryz.func23, by kernel_rfl, rfl⟩
theorem fn_24 : FnOf Tryz.prog 24 := ⟨_, Tryz.func24, by kernel_rfl, rfl⟩
theorem fa_82_0 : FaOf Tryz.prog 82 0 0 := fa_of (sz := 0) Tryz.underlying82 rfl rfl (by kernel_rfl)
theorem el_42 : ElOf Tryz.prog 42 1 8 := el_of (z := .pointer none) (by kernel_rfl) rfl
theorem sc_42 : ScOf Tryz.prog 42 := sc_of Tryz.underlying42 rfl (by kernel_rfl)
theorem fn_17 : FnOf Tryz.prog 17 := ⟨_, Tryz.func17, by kernel_rfl, rfl⟩
theorem fn_40 : FnOf Tryz.prog 40 := ⟨_, Tryz.func40, by kernel_rfl, rfl⟩
theorem fn_54 : FnOf Tryz.prog 54 := ⟨_, Tryz.func54, by kernel_rfl, rfl⟩
theorem fn_59 : FnOf Tryz.prog 59 := ⟨_, Tryz.func59, by kernel_rfl, rfl⟩
theorem fn_37 : FnOf Tryz.prog 37 := ⟨_, Tryz.func37, by kernel_rfl, rfl⟩
theorem fn_16 : FnOf Tryz.prog 16 := ⟨_, Tryz.func16, by kernel_rfl, rfl⟩
theorem fn_18 : FnOf Tryz.prog 18 := ⟨_, Tryz.func18, by kernel_rfl, rfl⟩
theorem fn_38 : FnOf Tryz.prog 38 := ⟨_, Tryz.func38, by kernel_rfl, rfl⟩
theorem fn_39 : FnOf Tryz.prog 39 := ⟨_, Tryz.func39, by kernel_rfl, rfl⟩
theorem fa_86_0 : FaOf Tryz.prog 86 0 0 := fa_of (sz := 0) Tryz.underlying86 rfl rfl (by kernel_rfl)
theorem fn_8 : FnOf Tryz.prog 8 := ⟨_, Tryz.func8, by kernel_rfl, rfl⟩
theorem fn_41 : FnOf Tryz.prog 41 := ⟨_, Tryz.func41, by kernel_rfl, rfl⟩
theorem el_134 : ElOf Tryz.prog 134 18 112 := el_of (z := .agg #[.string (ByteArray.mk #[]), .int .u64 0, .int .i64 0, .string (ByteArray.mk #[]), .int .i64 0, .int .i32 0, .int .i32 0, .int .i32 0, .int .i32 0, .int .i32 0, .int .i32 0, .int .i32 0, .int .i32 0, .int .i32 0, .int .i32 0, .int .i32 0, .int .i32 0, .int .i32 0]) (by kernel_rfl) rfl
theorem zr_134 : ZrOf Tryz.prog 134 [.string (ByteArray.mk #[]), .int .u64 0, .int .i64 0, .string (ByteArray.mk #[]), .int .i64 0, .int .i32 0, .int .i32 0, .int .i32 0, .int .i32 0, .int .i32 0, .int .i32 0, .int .i32 0, .int .i32 0, .int .i32 0, .int .i32 0, .int .i32 0, .int .i32 0, .int .i32 0] := zr_of (z := .agg #[.string (ByteArray.mk #[]), .int .u64 0, .int .i64 0, .string (ByteArray.mk #[]), .int .i64 0, .int .i32 0, .int .i32 0, .int .i32 0, .int .i32 0, .int .i32 0, .int .i32 0, .int .i32 0, .int .i32 0, .int .i32 0, .int .i32 0, .int .i32 0, .int .i32 0, .int .i32 0]) (by kernel_rfl) rfl
theorem fn_42 : FnOf Tryz.prog 42 := ⟨_, Tryz.func42, by kernel_rfl, rfl⟩
theorem fn_76 : FnOf Tryz.prog 76 := ⟨_, Tryz.func76, by kernel_rfl, rfl⟩
theorem fa_76_2 : FaOf Tryz.prog 76 2 2 := fa_of (sz := 0) Tryz.underlying76 rfl rfl (by kernel_rfl)
theorem eqn_46 (n : Nat) (x y : Entry) (w : World) : (Op.equalIn (n + 2) 46 (.agg (Entry.enc x).toArray) (.agg (Entry.enc y).toArray)).run Tryz.prog w = .ok (Entry.eqb x y) w := eqA_of Tryz.underlying46 (by kernel_rfl) (fun w => eqf_step rfl Tryz.underlying9 rfl rfl rfl (fun w => eqIn_str _ _ _ _ Tryz.underlying9 w) (eqf_step rfl Tryz.underlying27 rfl rfl rfl (fun w => eqIn_int _ _ _ _ Tryz.underlying27 w) (eqf_step rfl Tryz.underlying3 rfl rfl rfl (fun w => eqIn_int _ _ _ _ Tryz.underlying3 w) (eqf_step rfl Tryz.underlying9 rfl rfl rfl (fun w => eqIn_str _ _ _ _ Tryz.underlying9 w) (eqf_nil))))) w
theorem eqof_46 : EqOf Tryz.prog 46 Entry.enc Entry.eqb := ⟨by kernel_rfl, fun x y w => eqn_46 9998 x y w⟩
theorem bsI {α β : Type} {o : Option α} {f : α → Option β} {b : β} (h : o.bind f = some b) : ∃ a, o = some a ∧ f a = some b := Option.bind_eq_some_iff.1 h
theorem bfI {b : Bool} (h : ¬ b = true) : b = false := Bool.eq_false_iff.2 h
theorem tv : True := True.intro
theorem oi {α : Type} {x y : α} (h : some x = some y) : x = y := Option.some.inj h
abbrev tn := @then_normal
abbrev te := @then_exit
abbrev xi := @x_indexAddr
abbrev xm := @x_move
abbrev xb := @x_loadB
abbrev sh := @shut_sh
abbrev wG := @wq_region_t
abbrev wl := @wl_join0
abbrev wc := @wq_cut
abbrev sb := @sub_sh
abbrev wT := @wq_condT
abbrev wF := @wq_condF
abbrev wR := @wq_region_lit
abbrev wS := @wq_seq
end Go.Proofs.YtbaemhkfmddakaaGreat.Mo
