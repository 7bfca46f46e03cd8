/- Printed by gen.py: contracts. -/
import Derived.Test.YtlhmchndcilifaaVwCa0
set_option linter.unusedVariables false
set_option linter.unusedSectionVars false
set_option linter.unusedSimpArgs false
set_option maxRecDepth 100000
set_option maxHeartbeats 4000000
namespace Go.Proofs.Ytlhmchndcilifaa.Mo
open Go Go.Proofs.Ytlhmchndcilifaa.Sy
open Go.Proofs
theorem slices_nextPowerOfTwo.calls (w : World) (a0 : Int) (r : Int) (h : slices_nextPowerOfTwo a0 = some r) :
    Calls Try.prog 75 ([.int .i64 a0] : List Value).toArray w fun e w' => e = .returned (.int .u64 r) ∧ SH (fun _ => False) w w' [] := by
 have H := h; clear h
 unfold slices_nextPowerOfTwo at H
 refine calls_enter Try.func75 rfl rfl ?_; intro a t; have s := SH.zero (fun _ => False) w; refine ws (.inl rfl) ?_; refine ta t rfl rfl fun a t => wn ?_; refine ws (.inl rfl) ?_; refine tm t rfl rfl fun a t => r_t t tv rfl (x_convI t Try.underlying3 Try.underlying90 rfl) ?_; intro a t; obtain ⟨r1, hr1, H⟩ := bsI H; refine r_callD t tv rfl fn_52 rfl (math_bits_Len.calls _ (wu64 a0) r1 hr1) ?_; rintro e w2 ⟨rfl, hc⟩; replace s := s.call0 hc; clear hc; refine ⟨_, rfl, fun a t => ?_⟩; obtain ⟨n3, hn4, H⟩ := bsI H; refine r_t t tv rfl (x_shlO t rfl rfl hn4) fun a t => ta t rfl rfl fun a t => wn ?_; refine wq_ret ?_; obtain rfl := oi H; exact ret1 t rfl rfl ⟨rfl, s.pick []⟩

theorem slices_xorshift_Next.calls (w : World) (GG : Nat → Prop) (ga0 : Nat) (a0 : Int) (hsep : Sep GG w [Box ga0 [.int .u64 a0] 121]) (r : (Int × Int)) (h : slices_xorshift_Next a0 = some r) :
    Calls Try.prog 76 ([.pointer (some ⟨ga0, 0, none⟩)] : List Value).toArray w fun e w' => e = .returned (.int .u64 r.1) ∧ SH GG w w' [Box ga0 [.int .u64 r.2] 121] := by
 have H := h; clear h
 unfold slices_xorshift_Next at H
 refine calls_enter Try.func76 rfl rfl ?_; intro a t; have s := SH.start hsep; refine ws (.inl rfl) ?_; refine ta t rfl rfl fun a t => wn ?_; refine wS ?_; refine wG (.inl rfl) (.fin [(3, 0), (0, 1), (0, 2), (3, 3), (0, 4), (0, 5), (3, 6), (3, 7), (0, 8), (2, 9)]) (fun w' => SH GG w w' []) (fun w' => SH GG w w' [Box ga0 [.int .u64 a0] 121]) (fun w' => SH GG w w' [Box ga0 [.int .u64 a0] 121]) (sh _ _ _) (sh _ _ _) (sh _ _ _) (sb [] rfl) (sb [0] rfl) s.drew fo (by kernel_rfl) ?_; refine t_fin ?_; refine m_p t tv rfl (fun _ => xm t rfl) fun a t => m_t t tv rfl (fun _ s => x_nilCheck t rfl) fun a t => m_t t tv rfl (fun _ s => xb (i := 0) t s sc_121 rfl rfl rfl) fun a t => m_p t tv rfl (fun _ => xm t rfl) fun a t => m_t t tv rfl (fun _ s => x_nilCheck t rfl) fun a t => m_t t tv rfl (fun _ s => xb (i := 0) t s sc_121 rfl rfl rfl) fun a t => m_p t tv rfl (fun _ => x_shl t rfl rfl (by decide) (by decide)) fun a t => m_p t tv rfl (fun _ => x_arI (r := (bits .xor .u64 a0 (wu64 (a0 * 2 ^ (Int.toNat 13))))) t rfl rfl rfl) fun a t => m_t t tv rfl (fun _ s => x_nilCheck t rfl) fun a t => m_loud (.inr rfl) ?_; intro w1 s; refine r_storeB (i := 0) (cs' := [.int .u64 (bits .xor .u64 a0 (wu64 (a0 * 2 ^ (Int.toNat 13))))]) t s tv sc_121 rfl rfl rfl rfl rfl rfl ?_; intro a w2 s t; refine m_turn s (sb [] rfl) ?_; refine m_nil ?_; intro w3 s; refine qn_normal ?_; refine tn ?_; refine wS ?_; refine wG (.inl rfl) (.fin [(3, 0), (0, 1), (0, 2), (3, 3), (0, 4), (0, 5), (3, 6), (3, 7), (0, 8), (2, 9)]) (fun w' => SH GG w w' []) (fun w' => SH GG w w' [Box ga0 [.int .u64 (bits .xor .u64 a0 (wu64 (a0 * 2 ^ (Int.toNat 13))))] 121]) (fun w' => SH GG w w' [Box ga0 [.int .u64 (bits .xor .u64 a0 (wu64 (a0 * 2 ^ (Int.toNat 13))))] 121]) (sh _ _ _) (sh _ _ _) (sh _ _ _) (sb [] rfl) (sb [0] rfl) s.drew fo (by kernel_rfl) ?_
 refine t_fin ?_; refine m_p t tv rfl (fun _ => xm t rfl) fun a t => m_t t tv rfl (fun _ s => x_nilCheck t rfl) fun a t => m_t t tv rfl (fun _ s => xb (i := 0) t s sc_121 rfl rfl rfl) fun a t => m_p t tv rfl (fun _ => xm t rfl) fun a t => m_t t tv rfl (fun _ s => x_nilCheck t rfl) fun a t => m_t t tv rfl (fun _ s => xb (i := 0) t s sc_121 rfl rfl rfl) fun a t => m_p t tv rfl (fun _ => x_shr t rfl rfl (by decide) (by decide)) fun a t => m_p t tv rfl (fun _ => x_arI (r := (bits .xor .u64 (bits .xor .u64 a0 (wu64 (a0 * 2 ^ (Int.toNat 13)))) ((bits .xor .u64 a0 (wu64 (a0 * 2 ^ (Int.toNat 13)))) / 2 ^ (Int.toNat 7)))) t rfl rfl rfl) fun a t => m_t t tv rfl (fun _ s => x_nilCheck t rfl) fun a t => m_loud (.inr rfl) ?_; intro w4 s; refine r_storeB (i := 0) (cs' := [.int .u64 (bits .xor .u64 (bits .xor .u64 a0 (wu64 (a0 * 2 ^ (Int.toNat 13)))) ((bits .xor .u64 a0 (wu64 (a0 * 2 ^ (Int.toNat 13)))) / 2 ^ (Int.toNat 7)))]) t s tv sc_121 rfl rfl rfl rfl rfl rfl ?_; intro a w5 s t; refine m_turn s (sb [] rfl) ?_; refine m_nil ?_; intro w6 s; refine qn_normal ?_; refine tn ?_; refine wS ?_; refine wG (.inl rfl) (.fin [(3, 0), (0, 1), (0, 2), (3, 3), (0, 4), (0, 5), (3, 6), (3, 7), (0, 8), (2, 9)]) (fun w' => SH GG w w' []) (fun w' => SH GG w w' [Box ga0 [.int .u64 (bits .xor .u64 (bits .xor .u64 a0 (wu64 (a0 * 2 ^ (Int.toNat 13)))) ((bits .xor .u64 a0 (wu64 (a0 * 2 ^ (Int.toNat 13)))) / 2 ^ (Int.toNat 7)))] 121]) (fun w' => SH GG w w' [Box ga0 [.int .u64 (bits .xor .u64 (bits .xor .u64 a0 (wu64 (a0 * 2 ^ (Int.toNat 13)))) ((bits .xor .u64 a0 (wu64 (a0 * 2 ^ (Int.toNat 13)))) / 2 ^ (Int.toNat 7)))] 121]) (sh _ _ _) (sh _ _ _) (sh _ _ _) (sb [] rfl) (sb [0] rfl) s.drew fo (by kernel_rfl) ?_
 refine t_fin ?_; refine m_p t tv rfl (fun _ => xm t rfl) fun a t => m_t t tv rfl (fun _ s => x_nilCheck t rfl) fun a t => m_t t tv rfl (fun _ s => xb (i := 0) t s sc_121 rfl rfl rfl) fun a t => m_p t tv rfl (fun _ => xm t rfl) fun a t => m_t t tv rfl (fun _ s => x_nilCheck t rfl) fun a t => m_t t tv rfl (fun _ s => xb (i := 0) t s sc_121 rfl rfl rfl) fun a t => m_p t tv rfl (fun _ => x_shl t rfl rfl (by decide) (by decide)) fun a t => m_p t tv rfl (fun _ => x_arI (r := (bits .xor .u64 (bits .xor .u64 (bits .xor .u64 a0 (wu64 (a0 * 2 ^ (Int.toNat 13)))) ((bits .xor .u64 a0 (wu64 (a0 * 2 ^ (Int.toNat 13)))) / 2 ^ (Int.toNat 7))) (wu64 ((bits .xor .u64 (bits .xor .u64 a0 (wu64 (a0 * 2 ^ (Int.toNat 13)))) ((bits .xor .u64 a0 (wu64 (a0 * 2 ^ (Int.toNat 13)))) / 2 ^ (Int.toNat 7))) * 2 ^ (Int.toNat 17))))) t rfl rfl rfl) fun a t => m_t t tv rfl (fun _ s => x_nilCheck t rfl) fun a t => m_loud (.inr rfl) ?_; intro w7 s; refine r_storeB (i := 0) (cs' := [.int .u64 (bits .xor .u64 (bits .xor .u64 (bits .xor .u64 a0 (wu64 (a0 * 2 ^ (Int.toNat 13)))) ((bits .xor .u64 a0 (wu64 (a0 * 2 ^ (Int.toNat 13)))) / 2 ^ (Int.toNat 7))) (wu64 ((bits .xor .u64 (bits .xor .u64 a0 (wu64 (a0 * 2 ^ (Int.toNat 13)))) ((bits .xor .u64 a0 (wu64 (a0 * 2 ^ (Int.toNat 13)))) / 2 ^ (Int.toNat 7))) * 2 ^ (Int.toNat 17))))]) t s tv sc_121 rfl rfl rfl rfl rfl rfl ?_; intro a w9 s t; refine m_turn s (sb [] rfl) ?_; refine m_nil ?_; intro w10 s; refine qn_normal ?_; refine tn ?_; refine ws (.inl rfl) ?_; refine tm t rfl rfl fun a t => r_t t tv rfl (x_nilCheck t rfl) fun a t => r_t t tv rfl (xb (i := 0) t s sc_121 rfl rfl rfl) fun a t => ta t rfl rfl fun a t => ?_
 refine wn ?_; refine wq_ret ?_; obtain rfl := oi H; exact ret1 t rfl rfl ⟨rfl, s.pick [0]⟩

def lays190_ren : Go.Shelf.Ren := ⟨fun | 190 => 47 | 125 => 52 | 258 => 51 | 128 => 63 | 129 => 64 | 302 => 54 | 303 => 55 | 304 => 56 | 305 => 57 | 306 => 58 | 307 => 59 | 308 => 60 | 309 => 61 | 310 => 62 | 333 => 74 | 329 => 75 | 330 => 76 | 334 => 77 | 335 => 78 | 336 => 79 | 344 => 83 | n => n, fun | 31 => 94 | 9 => 9 | 3 => 3 | 46 => 90 | 0 => 0 | 51 => 113 | 53 => 26 | 4 => 4 | 183 => 105 | 182 => 104 | 131 => 110 | 5 => 5 | 218 => 121 | 222 => 125 | 228 => 130 | 229 => 131 | n => n, fun | n => n⟩
theorem lays190 : Go.Proofs.Lays.n190 Try.prog lays190_ren := {
  mixed := by kernel_rfl
  f125 := Try.func52.trans (congrArg some (by kernel_rfl))
  f128 := Try.func63.trans (congrArg some (by kernel_rfl))
  f129 := Try.func64.trans (congrArg some (by kernel_rfl))
  f190 := Try.func47.trans (congrArg some (by kernel_rfl))
  f258 := Try.func51.trans (congrArg some (by kernel_rfl))
  f302 := Try.func54.trans (congrArg some (by kernel_rfl))
  f303 := Try.func55.trans (congrArg some (by kernel_rfl))
  f304 := Try.func56.trans (congrArg some (by kernel_rfl))
  f305 := Try.func57.trans (congrArg some (by kernel_rfl))
  f306 := Try.func58.trans (congrArg some (by kernel_rfl))
  f307 := Try.func59.trans (congrArg some (by kernel_rfl))
  f308 := Try.func60.trans (congrArg some (by kernel_rfl))
  f309 := Try.func61.trans (congrArg some (by kernel_rfl))
  f310 := Try.func62.trans (congrArg some (by kernel_rfl))
  f329 := Try.func75.trans (congrArg some (by kernel_rfl))
  f330 := Try.func76.trans (congrArg some (by kernel_rfl))
  f333 := Try.func74.trans (congrArg some (by kernel_rfl))
  f334 := Try.func77.trans (congrArg some (by kernel_rfl))
  f335 := Try.func78.trans (congrArg some (by kernel_rfl))
  f336 := Try.func79.trans (congrArg some (by kernel_rfl))
  f344 := Try.func83.trans (congrArg some (by kernel_rfl))
  t0 := Try.underlying0
  a0 := Try.isAgg0
  z0 := Try.sizeOf0
  v0 := Try.zeroValue0
  t3 := Try.underlying3
  a3 := Try.isAgg3
  z3 := Try.sizeOf3
  v3 := Try.zeroValue3
  t4 := Try.underlying4
  a4 := Try.isAgg4
  z4 := Try.sizeOf4
  v4 := Try.zeroValue4
  t5 := Try.underlying5
  a5 := Try.isAgg5
  z5 := Try.sizeOf5
  v5 := Try.zeroValue5
  t9 := Try.underlying9
  a9 := Try.isAgg9
  z9 := Try.sizeOf9
  v9 := Try.zeroValue9
  t31 := Try.underlying94
  a31 := Try.isAgg94
  z31 := Try.sizeOf94
  v31 := Try.zeroValue94
  t46 := Try.underlying90
  a46 := Try.isAgg90
  z46 := Try.sizeOf90
  v46 := Try.zeroValue90
  t51 := Try.underlying113
  a51 := Try.isAgg113
  z51 := Try.sizeOf113
  v51 := Try.zeroValue113
  t53 := Try.underlying26
  a53 := Try.isAgg26
  z53 := Try.sizeOf26
  v53 := Try.zeroValue26
  t131 := Try.underlying110
  a131 := Try.isAgg110
  z131 := Try.sizeOf110
  v131 := Try.zeroValue110
  t182 := Try.underlying104
  a182 := Try.isAgg104
  z182 := Try.sizeOf104
  v182 := Try.zeroValue104
  t183 := Try.underlying105
  a183 := Try.isAgg105
  z183 := Try.sizeOf105
  v183 := Try.zeroValue105
  t218 := Try.underlying121
  a218 := Try.isAgg121
  z218 := Try.sizeOf121
  v218 := Try.zeroValue121
  t222 := Try.underlying125
  a222 := Try.isAgg125
  z222 := Try.sizeOf125
  v222 := Try.zeroValue125
  t228 := Try.underlying130
  a228 := Try.isAgg130
  z228 := Try.sizeOf130
  v228 := Try.zeroValue130
  t229 := Try.underlying131
  a229 := Try.isAgg131
  z229 := Try.sizeOf131
  v229 := Try.zeroValue131 }
theorem slices_Sort_string.calls (k : Nat) (w : World) (GG : Nat → Prop) (va0 : Value) (a0 : (List ByteArray)) (hsep : Sep GG w [Row Kd.str 9 va0 a0]) (r : (List ByteArray)) (h : slices_Sort_string k a0 = some r) :
    Calls Try.prog 47 ([va0] : List Value).toArray w fun e w' => e = .returned (.tuple #[]) ∧ SH GG w w' [Row Kd.str 9 va0 r] := by
 unfold slices_Sort_string at h
 split at h
 · rename_i hl; cases h; rw [sortI_eq]; exact sort_str lays190 w GG 9 va0 a0 hsep hl
 · cases h
end Go.Proofs.Ytlhmchndcilifaa.Mo
