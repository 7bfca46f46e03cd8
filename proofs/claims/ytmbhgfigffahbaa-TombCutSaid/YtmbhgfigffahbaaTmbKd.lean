/- Printed by gen.py: kinds of data; facts on types and functions of the translation. -/
import Derived.Test.YtmbhgfigffahbaaTmbTw
import Derived.Test.YtmbhgfigffahbaaProg
set_option linter.unusedVariables false
set_option linter.unusedSimpArgs false
set_option maxRecDepth 100000
namespace Go.Proofs.Ytmbhgfigffahbaa.Mo
open Go Go.Proofs.Ytmbhgfigffahbaa.Sy
open Go.Proofs
def k_Tomb : Kd Tomb := Kd.flat 3 Tomb.enc (fun _ => rfl) (fun x u hu => by simp only [Tomb.enc, List.mem_cons, List.not_mem_nil, or_false] at hu; rcases hu with h | h | h <;> subst h <;> rfl)
def k_L09_Ask : Kd L09_Ask := Kd.flat 5 L09_Ask.enc (fun _ => rfl) (fun x u hu => by simp only [L09_Ask.enc, List.mem_cons, List.not_mem_nil, or_false] at hu; rcases hu with h | h | h | h | h <;> subst h <;> rfl)
theorem fa_30_0 : FaOf Try.prog 30 0 0 := fa_of (sz := 0) Try.underlying30 rfl rfl (by kernel_rfl)
theorem sc_9 : ScOf Try.prog 9 := sc_of Try.underlying9 rfl (by kernel_rfl)
theorem fa_30_1 : FaOf Try.prog 30 1 1 := fa_of (sz := 0) Try.underlying30 rfl rfl (by kernel_rfl)
theorem fa_30_2 : FaOf Try.prog 30 2 2 := fa_of (sz := 0) Try.underlying30 rfl rfl (by kernel_rfl)
theorem sc_23 : ScOf Try.prog 23 := sc_of Try.underlying23 rfl (by kernel_rfl)
theorem ag_30 : AgOf Try.prog 30 3 := ⟨_, Try.underlying30, rfl, by kernel_rfl⟩
theorem zr_30 : ZrOf Try.prog 30 [.string (ByteArray.mk #[]), .string (ByteArray.mk #[]), .int .u64 0] := zr_of (z := .agg #[.string (ByteArray.mk #[]), .string (ByteArray.mk #[]), .int .u64 0]) (by kernel_rfl) rfl
theorem el_30 : ElOf Try.prog 30 3 40 := el_of (z := .agg #[.string (ByteArray.mk #[]), .string (ByteArray.mk #[]), .int .u64 0]) (by kernel_rfl) rfl
theorem fn_9 : FnOf Try.prog 9 := ⟨_, Try.func9, by kernel_rfl, rfl⟩
theorem fn_19 : FnOf Try.prog 19 := ⟨_, Try.func19, by kernel_rfl, rfl⟩
theorem fo : Try.prog.follows .mixedOrders = true := by kernel_rfl
theorem fa_25_2 : FaOf Try.prog 25 2 2 := fa_of (sz := 0) Try.underlying25 rfl rfl (by kernel_rfl)
theorem fa_25_3 : FaOf Try.prog 25 3 3 := fa_of (sz := 0) Try.underlying25 rfl rfl (by kernel_rfl)
theorem fa_25_0 : FaOf Try.prog 25 0 0 := fa_of (sz := 0) Try.underlying25 rfl rfl (by kernel_rfl)
theorem fa_25_1 : FaOf Try.prog 25 1 1 := fa_of (sz := 0) Try.underlying25 rfl rfl (by kernel_rfl)
theorem fn_7 : FnOf Try.prog 7 := ⟨_, Try.func7, by kernel_rfl, rfl⟩
theorem fn_8 : FnOf Try.prog 8 := ⟨_, Try.func8, by kernel_rfl, rfl⟩
theorem eqn_30 (n : Nat) (x y : Tomb) (w : World) : (Op.equalIn (n + 5) 30 (.agg (Tomb.enc x).toArray) (.agg (Tomb.enc y).toArray)).run Try.prog w = .ok (Tomb.eqb x y) w := eqA_of Try.underlying30 (by kernel_rfl) (fun w => eqf_step rfl Try.underlying9 rfl rfl rfl (fun w => eqIn_str _ _ _ _ Try.underlying9 w) (eqf_step rfl Try.underlying9 rfl rfl rfl (fun w => eqIn_str _ _ _ _ Try.underlying9 w) (eqf_step rfl Try.underlying23 rfl rfl rfl (fun w => eqIn_int _ _ _ _ Try.underlying23 w) (eqf_nil)))) w
theorem eqof_30 : EqOf Try.prog 30 Tomb.enc Tomb.eqb := ⟨by kernel_rfl, fun x y w => eqn_30 9995 x y w⟩
end Go.Proofs.Ytmbhgfigffahbaa.Mo
