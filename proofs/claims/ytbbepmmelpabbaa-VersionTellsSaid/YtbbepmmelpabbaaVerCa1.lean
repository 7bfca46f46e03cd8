/- Printed by gen.py: contracts. -/
import Derived.Test.YtbbepmmelpabbaaVerCa0
set_option linter.unusedVariables false
set_option linter.unusedSectionVars false
set_option linter.unusedSimpArgs false
set_option maxRecDepth 100000
namespace Go.Proofs.Ytbbepmmelpabbaa.Mo
open Go Go.Proofs.Ytbbepmmelpabbaa.Sy
open Go.Proofs
set_option maxHeartbeats 4000000 in
set_option maxRecDepth 100000 in
theorem slices_heapSortOrdered_int.calls (k : Nat) (w : World) (GG : Nat → Prop) (va0 : Value) (a0 : (List Int)) (a1 : Int) (a2 : Int) (hsep : Sep GG w [Row (Kd.int .i64) 3 va0 a0]) (r : (List Int)) (h : slices_heapSortOrdered_int k a0 a1 a2 = some r) :
    Calls Try.prog 71 ([va0, .int .i64 a1, .int .i64 a2] : List Value).toArray w fun e w' => e = .returned (.tuple #[]) ∧ SH GG w w' [Row (Kd.int .i64) 3 va0 r] := by
 have H := h
 clear h
 unfold slices_heapSortOrdered_int at H
 refine calls_enter Try.func71 rfl rfl ?_
 intro a hst
 have hsh := SH.start hsep
 refine wq_seq ?_
 refine wq_region_lit (.inl rfl) ?_
 refine r_t hst trivial rfl (x_move hst rfl) ?_; intro a hst
 refine r_t hst trivial rfl (x_assign hst rfl) ?_; intro a hst
 refine wpL_nil ?_
 refine then_normal ?_
 refine wq_seq ?_
 refine wq_region_lit (.inl rfl) ?_
 refine r_t hst trivial rfl (x_assign hst rfl) ?_; intro a hst
 refine wpL_nil ?_
 refine then_normal ?_
 refine wq_seq ?_
 refine wq_region_lit (.inl rfl) ?_
 refine r_t hst trivial rfl (x_move hst rfl) ?_; intro a hst
 refine r_t hst trivial rfl (x_move hst rfl) ?_; intro a hst
 refine r_t hst trivial rfl (x_arI (r := w64 (a2 - a1)) hst rfl rfl rfl) ?_; intro a hst
 refine r_t hst trivial rfl (x_assign hst rfl) ?_; intro a hst
 refine wpL_nil ?_
 refine then_normal ?_
 refine wq_seq ?_
 refine wq_seq ?_
 refine wq_region_lit (.inl rfl) ?_
 refine r_t hst trivial rfl (x_move hst rfl) ?_; intro a hst
 refine r_t hst trivial rfl (x_arI (r := w64 ((w64 (a2 - a1)) - 1)) hst rfl rfl rfl) ?_; intro a hst
 refine r_t hst trivial rfl (x_quo hst rfl rfl (by decide)) ?_; intro a hst
 refine r_t hst trivial rfl (x_assign hst rfl) ?_; intro a hst
 refine wpL_nil ?_
 refine then_normal ?_
 refine wq_block ?_
 refine wq_loop_fuel (fun k_32 a w' => ∃ (l_24 : (List Int)), ∃ (i_25 : Int), ∃ (i_26 : Int), slices_heapSortOrdered_int.l0 a1 k_32 l_24 i_25 i_26 = some r ∧ ST [] Try.f71.ntmps a [(0, va0), (6, .int .i64 a1), (7, .int .i64 0), (8, .int .i64 i_25), (9, .int .i64 i_26)] ∧ SH GG w w' [Row (Kd.int .i64) 3 va0 l_24]) k ?_ ?_
 · exact ⟨a0, (w64 (a2 - a1)), (w64 (Int.tdiv (w64 ((w64 (a2 - a1)) - 1)) 2)), H, hst.keep _ ⟨rfl, rfl, rfl, rfl, rfl, trivial⟩, hsh.pick [0]⟩
 · rintro k_32 a W_27 ⟨l_24, i_25, i_26, H, hst, hsh⟩
   cases k_32 with
   | zero => rw [slices_heapSortOrdered_int.l0] at H; cases H
   | succ k_32 =>
    rw [slices_heapSortOrdered_int.l0] at H
    refine wq_seq ?_
    refine wq_seq ?_
    refine wq_region_lit (.inl rfl) ?_
    refine r_t hst trivial rfl (x_move hst rfl) ?_; intro a hst
    refine r_t hst trivial rfl (x_cmpI (b := decide (0 ≤ i_26)) hst rfl rfl rfl) ?_; intro a hst
    refine wpL_nil ?_
    refine then_normal ?_
    by_cases c42 : (decide (0 ≤ i_26)) = true
    · rw [if_pos c42] at H
      refine wq_condT hst rfl c42 ?_
      refine wq_skip ?_
      refine then_normal ?_
      refine wq_seq ?_
      refine wq_block ?_
      refine wq_region_lit (.inl rfl) ?_
      refine r_t hst trivial rfl (x_move hst rfl) ?_; intro a hst
      refine r_t hst trivial rfl (x_move hst rfl) ?_; intro a hst
      refine r_t hst trivial rfl (x_move hst rfl) ?_; intro a hst
      refine r_t hst trivial rfl (x_move hst rfl) ?_; intro a hst
      replace hsh := hsh.pick [0]
      obtain ⟨GG48, hsp, hG, hbx, hfx, hk⟩ := SH.callD (L1 := [Row (Kd.int .i64) 3 va0 l_24]) (L2 := []) hsh
      obtain ⟨r46, hr46, H⟩ := Option.bind_eq_some_iff.1 H
      refine r_callD hst trivial rfl fn_83 rfl (slices_siftDownOrdered_int.calls k_32 _ GG48 _ l_24 i_26 i_25 a1 hsp r46 hr46) ?_
      rintro e w47 ⟨rfl, hc⟩
      replace hsh := hk _ _ hc
      clear hc
      refine ⟨_, rfl, fun a hst => ?_⟩
      refine wpL_nil ?_
      refine block_normal ?_
      refine then_normal ?_
      refine wq_region_lit (.inl rfl) ?_
      refine r_t hst trivial rfl (x_move hst rfl) ?_; intro a hst
      refine r_t hst trivial rfl (x_arI (r := w64 (i_26 - 1)) hst rfl rfl rfl) ?_; intro a hst
      refine r_t hst trivial rfl (x_assign hst rfl) ?_; intro a hst
      refine wpL_nil ?_
      refine then_normal ?_
      exact ⟨k_32, Nat.lt_succ_self _, r46, i_25, (w64 (i_26 - 1)), H, hst.keep _ ⟨rfl, rfl, rfl, rfl, rfl, trivial⟩, hsh.pick [0]⟩
    · rw [if_neg c42] at H
      replace c42 := Bool.eq_false_iff.2 c42
      refine wq_condF hst rfl c42 ?_
      refine wq_exit ?_
      refine then_exit ?_
      refine then_exit ?_
      refine block_hit ?_
      refine then_normal ?_
      refine wq_seq ?_
      refine wq_region_lit (.inl rfl) ?_
      refine r_t hst trivial rfl (x_move hst rfl) ?_; intro a hst
      refine r_t hst trivial rfl (x_arI (r := w64 (i_25 - 1)) hst rfl rfl rfl) ?_; intro a hst
      refine r_t hst trivial rfl (x_assign hst rfl) ?_; intro a hst
      refine wpL_nil ?_
      refine then_normal ?_
      refine wq_block ?_
      refine wq_loop_fuel (fun k_44 a w' => ∃ (l_38 : (List Int)), ∃ (i_39 : Int), slices_heapSortOrdered_int.l1 a1 k_44 l_38 i_39 = some r ∧ ST [] Try.f71.ntmps a [(0, va0), (6, .int .i64 a1), (7, .int .i64 0), (10, .int .i64 i_39)] ∧ SH GG w w' [Row (Kd.int .i64) 3 va0 l_38]) k_32 ?_ ?_
      · exact ⟨l_24, (w64 (i_25 - 1)), H, hst.keep _ ⟨rfl, rfl, rfl, rfl, trivial⟩, hsh.pick [0]⟩
      · rintro k_44 a W_40 ⟨l_38, i_39, H, hst, hsh⟩
        cases k_44 with
        | zero => rw [slices_heapSortOrdered_int.l1] at H; cases H
        | succ k_44 =>
         rw [slices_heapSortOrdered_int.l1] at H
         refine wq_seq ?_
         refine wq_seq ?_
         refine wq_region_lit (.inl rfl) ?_
         refine r_t hst trivial rfl (x_move hst rfl) ?_; intro a hst
         refine r_t hst trivial rfl (x_cmpI (b := decide (0 ≤ i_39)) hst rfl rfl rfl) ?_; intro a hst
         refine wpL_nil ?_
         refine then_normal ?_
         by_cases c110 : (decide (0 ≤ i_39)) = true
         · rw [if_pos c110] at H
           refine wq_condT hst rfl c110 ?_
           refine wq_skip ?_
           refine then_normal ?_
           refine wq_seq ?_
           refine wq_block ?_
           refine wq_seq ?_
           have hw124_0 := hsh.row 0 rfl
           refine wq_region_t (.inl rfl) (.fin [(3, 0), (3, 1), (3, 2), (3, 3), (3, 4), (3, 5), (3, 6), (3, 7), (3, 8), (3, 9), (3, 10), (0, 11), (3, 12), (3, 13), (3, 14), (0, 15), (3, 16), (2, 17), (0, 18), (2, 19)]) (fun w' => SH GG w w' []) (fun w' => SH GG w w' [Row (Kd.int .i64) 3 va0 l_38]) (fun w' => SH GG w w' [Row (Kd.int .i64) 3 va0 l_38]) (shut_sh _ _ _) (shut_sh _ _ _) (shut_sh _ _ _) (sub_sh [] rfl) (sub_sh [0] rfl) hsh.drew fo (by kernel_rfl) ?_
           refine t_fin ?_
           refine m_p hst trivial rfl (fun _ => x_move hst rfl) ?_; intro a hst
           refine m_p hst trivial rfl (fun _ => x_move hst rfl) ?_; intro a hst
           refine m_p hst trivial rfl (fun _ => x_move hst rfl) ?_; intro a hst
           refine m_p hst trivial rfl (fun _ => x_move hst rfl) ?_; intro a hst
           refine m_p hst trivial rfl (fun _ => x_move hst rfl) ?_; intro a hst
           refine m_p hst trivial rfl (fun _ => x_arI (r := w64 (a1 + i_39)) hst rfl rfl rfl) ?_; intro a hst
           refine m_p hst trivial rfl (fun _ => x_move hst rfl) ?_; intro a hst
           refine m_p hst trivial rfl (fun _ => x_move hst rfl) ?_; intro a hst
           refine m_p hst trivial rfl (fun _ => x_move hst rfl) ?_; intro a hst
           refine m_p hst trivial rfl (fun _ => x_arI (r := w64 (a1 + i_39)) hst rfl rfl rfl) ?_; intro a hst
           obtain ⟨x125, hx125, H⟩ := Option.bind_eq_some_iff.1 H
           refine m_p hst trivial rfl (fun _ => x_indexAddr hst Try.underlying56 el_3 rfl rfl hw124_0 hx125) ?_; intro a hst
           refine m_t hst trivial rfl (fun _ hsh => x_loadEF (j := 0) (cs := [.int .i64 x125]) hst sc_3 rfl (hsh.row 0 rfl) (Same.refl _ _) hx125 rfl (fun _ h => h) rfl) ?_; intro a hst
           refine m_p hst trivial rfl (fun _ => x_move hst rfl) ?_; intro a hst
           refine m_p hst trivial rfl (fun _ => x_move hst rfl) ?_; intro a hst
           obtain ⟨x126, hx126, H⟩ := Option.bind_eq_some_iff.1 H
           refine m_p hst trivial rfl (fun _ => x_indexAddr hst Try.underlying56 el_3 rfl rfl hw124_0 hx126) ?_; intro a hst
           refine m_t hst trivial rfl (fun _ hsh => x_loadEF (j := 0) (cs := [.int .i64 x126]) hst sc_3 rfl (hsh.row 0 rfl) (Same.refl _ _) hx126 rfl (fun _ h => h) rfl) ?_; intro a hst
           obtain ⟨x127, hx127, H⟩ := Option.bind_eq_some_iff.1 H
           refine m_p hst trivial rfl (fun _ => x_indexAddr hst Try.underlying56 el_3 rfl rfl hw124_0 hx127) ?_; intro a hst
           refine m_loud (.inr rfl) ?_
           intro w128 hsh
           obtain ⟨l129, hl129, H⟩ := Option.bind_eq_some_iff.1 H
           refine r_storeE (i := 0) (off := 0) (new := x125) (cs' := [.int .i64 x125]) hst hsh trivial sc_3 rfl rfl rfl hx127 rfl (Nat.le_of_ble_eq_true rfl) rfl (fun _ _ _ h => by rw [h]; rfl) (fun _ _ => rfl) ?_; intro a w130 hsh hst
           rw [← upd_some hl129] at hsh
           refine m_turn hsh (sub_sh [] rfl) ?_
           obtain ⟨x131, hx131, H⟩ := Option.bind_eq_some_iff.1 H
           refine m_t hst trivial rfl (fun _ hsh => x_indexAddr hst Try.underlying56 el_3 rfl rfl (hsh.row 0 rfl) hx131) ?_; intro a hst
           refine m_loud (.inr rfl) ?_
           intro w132 hsh
           obtain ⟨l133, hl133, H⟩ := Option.bind_eq_some_iff.1 H
           refine r_storeE (i := 0) (off := 0) (new := x126) (cs' := [.int .i64 x126]) hst hsh trivial sc_3 rfl rfl rfl hx131 rfl (Nat.le_of_ble_eq_true rfl) rfl (fun _ _ _ h => by rw [h]; rfl) (fun _ _ => rfl) ?_; intro a w134 hsh hst
           rw [← upd_some hl133] at hsh
           refine m_turn hsh (sub_sh [] rfl) ?_
           refine m_nil ?_
           intro w135 hsh
           refine qn_normal ?_
           refine then_normal ?_
           refine wq_region_lit (.inl rfl) ?_
           refine r_t hst trivial rfl (x_move hst rfl) ?_; intro a hst
           refine r_t hst trivial rfl (x_move hst rfl) ?_; intro a hst
           refine r_t hst trivial rfl (x_move hst rfl) ?_; intro a hst
           refine r_t hst trivial rfl (x_move hst rfl) ?_; intro a hst
           replace hsh := hsh.pick [0]
           obtain ⟨GG138, hsp, hG, hbx, hfx, hk⟩ := SH.callD (L1 := [Row (Kd.int .i64) 3 va0 l133]) (L2 := []) hsh
           obtain ⟨r136, hr136, H⟩ := Option.bind_eq_some_iff.1 H
           refine r_callD hst trivial rfl fn_83 rfl (slices_siftDownOrdered_int.calls k_44 _ GG138 _ l133 0 i_39 a1 hsp r136 hr136) ?_
           rintro e w137 ⟨rfl, hc⟩
           replace hsh := hk _ _ hc
           clear hc
           refine ⟨_, rfl, fun a hst => ?_⟩
           refine wpL_nil ?_
           refine block_normal ?_
           refine then_normal ?_
           refine wq_region_lit (.inl rfl) ?_
           refine r_t hst trivial rfl (x_move hst rfl) ?_; intro a hst
           refine r_t hst trivial rfl (x_arI (r := w64 (i_39 - 1)) hst rfl rfl rfl) ?_; intro a hst
           refine r_t hst trivial rfl (x_assign hst rfl) ?_; intro a hst
           refine wpL_nil ?_
           refine then_normal ?_
           exact ⟨k_44, Nat.lt_succ_self _, r136, (w64 (i_39 - 1)), H, hst.keep _ ⟨rfl, rfl, rfl, rfl, trivial⟩, hsh.pick [0]⟩
         · rw [if_neg c110] at H
           replace c110 := Bool.eq_false_iff.2 c110
           refine wq_condF hst rfl c110 ?_
           refine wq_exit ?_
           refine then_exit ?_
           refine then_exit ?_
           refine block_hit ?_
           obtain rfl := Option.some.inj H
           exact end0 hst rfl ⟨rfl, hsh.pick [0]⟩

set_option maxHeartbeats 4000000 in
set_option maxRecDepth 100000 in
theorem slices_nextPowerOfTwo.calls (w : World) (a0 : Int) (r : Int) (h : slices_nextPowerOfTwo a0 = some r) :
    Calls Try.prog 84 ([.int .i64 a0] : List Value).toArray w fun e w' => e = .returned (.int .u64 r) ∧ SH (fun _ => False) w w' [] := by
 have H := h
 clear h
 unfold slices_nextPowerOfTwo at H
 refine calls_enter Try.func84 rfl rfl ?_
 intro a hst
 have hsh := SH.zero (fun _ => False) w
 refine wq_seq ?_
 refine wq_region_lit (.inl rfl) ?_
 refine r_t hst trivial rfl (x_assign hst rfl) ?_; intro a hst
 refine wpL_nil ?_
 refine then_normal ?_
 refine wq_seq ?_
 refine wq_region_lit (.inl rfl) ?_
 refine r_t hst trivial rfl (x_move hst rfl) ?_; intro a hst
 refine r_t hst trivial rfl (x_convI hst Try.underlying3 Try.underlying88 rfl) ?_; intro a hst
 obtain ⟨r1, hr1, H⟩ := Option.bind_eq_some_iff.1 H
 refine r_callD hst trivial rfl fn_66 rfl (math_bits_Len.calls _ (wu64 a0) r1 hr1) ?_
 rintro e w2 ⟨rfl, hc⟩
 replace hsh := hsh.call0 hc
 clear hc
 refine ⟨_, rfl, fun a hst => ?_⟩
 obtain ⟨n3, hn4, H⟩ := Option.bind_eq_some_iff.1 H
 refine r_t hst trivial rfl (x_shlO hst rfl rfl hn4) ?_; intro a hst
 refine r_t hst trivial rfl (x_assign hst rfl) ?_; intro a hst
 refine wpL_nil ?_
 refine then_normal ?_
 refine wq_ret ?_
 obtain rfl := Option.some.inj H
 exact ret1 hst rfl rfl ⟨rfl, hsh.pick []⟩

set_option maxHeartbeats 4000000 in
set_option maxRecDepth 100000 in
theorem slices_xorshift_Next.calls (w : World) (GG : Nat → Prop) (ga0 : Nat) (a0 : Int) (hsep : Sep GG w [Box ga0 [.int .u64 a0] 107]) (r : (Int × Int)) (h : slices_xorshift_Next a0 = some r) :
    Calls Try.prog 85 ([.pointer (some ⟨ga0, 0, none⟩)] : List Value).toArray w fun e w' => e = .returned (.int .u64 r.1) ∧ SH GG w w' [Box ga0 [.int .u64 r.2] 107] := by
 have H := h
 clear h
 unfold slices_xorshift_Next at H
 refine calls_enter Try.func85 rfl rfl ?_
 intro a hst
 have hsh := SH.start hsep
 refine wq_seq ?_
 refine wq_region_lit (.inl rfl) ?_
 refine r_t hst trivial rfl (x_assign hst rfl) ?_; intro a hst
 refine wpL_nil ?_
 refine then_normal ?_
 refine wq_seq ?_
 refine wq_region_t (.inl rfl) (.fin [(3, 0), (0, 1), (0, 2), (3, 3), (0, 4), (0, 5), (3, 6), (3, 7), (0, 8), (2, 9)]) (fun w' => SH GG w w' []) (fun w' => SH GG w w' [Box ga0 [.int .u64 a0] 107]) (fun w' => SH GG w w' [Box ga0 [.int .u64 a0] 107]) (shut_sh _ _ _) (shut_sh _ _ _) (shut_sh _ _ _) (sub_sh [] rfl) (sub_sh [0] rfl) hsh.drew fo (by kernel_rfl) ?_
 refine t_fin ?_
 refine m_p hst trivial rfl (fun _ => x_move hst rfl) ?_; intro a hst
 refine m_t hst trivial rfl (fun _ hsh => x_nilCheck hst rfl) ?_; intro a hst
 refine m_t hst trivial rfl (fun _ hsh => x_loadB (i := 0) hst hsh sc_107 rfl rfl rfl) ?_; intro a hst
 refine m_p hst trivial rfl (fun _ => x_move hst rfl) ?_; intro a hst
 refine m_t hst trivial rfl (fun _ hsh => x_nilCheck hst rfl) ?_; intro a hst
 refine m_t hst trivial rfl (fun _ hsh => x_loadB (i := 0) hst hsh sc_107 rfl rfl rfl) ?_; intro a hst
 refine m_p hst trivial rfl (fun _ => x_shl hst rfl rfl (by decide) (by decide)) ?_; intro a hst
 refine m_p hst trivial rfl (fun _ => x_arI (r := (bits .xor .u64 a0 (wu64 (a0 * 2 ^ (Int.toNat 13))))) hst rfl rfl rfl) ?_; intro a hst
 refine m_t hst trivial rfl (fun _ hsh => x_nilCheck hst rfl) ?_; intro a hst
 refine m_loud (.inr rfl) ?_
 intro w1 hsh
 refine r_storeB (i := 0) (cs' := [.int .u64 (bits .xor .u64 a0 (wu64 (a0 * 2 ^ (Int.toNat 13))))]) hst hsh trivial sc_107 rfl rfl rfl rfl rfl rfl ?_; intro a w2 hsh hst
 refine m_turn hsh (sub_sh [] rfl) ?_
 refine m_nil ?_
 intro w3 hsh
 refine qn_normal ?_
 refine then_normal ?_
 refine wq_seq ?_
 refine wq_region_t (.inl rfl) (.fin [(3, 0), (0, 1), (0, 2), (3, 3), (0, 4), (0, 5), (3, 6), (3, 7), (0, 8), (2, 9)]) (fun w' => SH GG w w' []) (fun w' => SH GG w w' [Box ga0 [.int .u64 (bits .xor .u64 a0 (wu64 (a0 * 2 ^ (Int.toNat 13))))] 107]) (fun w' => SH GG w w' [Box ga0 [.int .u64 (bits .xor .u64 a0 (wu64 (a0 * 2 ^ (Int.toNat 13))))] 107]) (shut_sh _ _ _) (shut_sh _ _ _) (shut_sh _ _ _) (sub_sh [] rfl) (sub_sh [0] rfl) hsh.drew fo (by kernel_rfl) ?_
 refine t_fin ?_
 refine m_p hst trivial rfl (fun _ => x_move hst rfl) ?_; intro a hst
 refine m_t hst trivial rfl (fun _ hsh => x_nilCheck hst rfl) ?_; intro a hst
 refine m_t hst trivial rfl (fun _ hsh => x_loadB (i := 0) hst hsh sc_107 rfl rfl rfl) ?_; intro a hst
 refine m_p hst trivial rfl (fun _ => x_move hst rfl) ?_; intro a hst
 refine m_t hst trivial rfl (fun _ hsh => x_nilCheck hst rfl) ?_; intro a hst
 refine m_t hst trivial rfl (fun _ hsh => x_loadB (i := 0) hst hsh sc_107 rfl rfl rfl) ?_; intro a hst
 refine m_p hst trivial rfl (fun _ => x_shr hst rfl rfl (by decide) (by decide)) ?_; intro a hst
 refine m_p hst trivial rfl (fun _ => x_arI (r := (bits .xor .u64 (bits .xor .u64 a0 (wu64 (a0 * 2 ^ (Int.toNat 13)))) ((bits .xor .u64 a0 (wu64 (a0 * 2 ^ (Int.toNat 13)))) / 2 ^ (Int.toNat 7)))) hst rfl rfl rfl) ?_; intro a hst
 refine m_t hst trivial rfl (fun _ hsh => x_nilCheck hst rfl) ?_; intro a hst
 refine m_loud (.inr rfl) ?_
 intro w4 hsh
 refine r_storeB (i := 0) (cs' := [.int .u64 (bits .xor .u64 (bits .xor .u64 a0 (wu64 (a0 * 2 ^ (Int.toNat 13)))) ((bits .xor .u64 a0 (wu64 (a0 * 2 ^ (Int.toNat 13)))) / 2 ^ (Int.toNat 7)))]) hst hsh trivial sc_107 rfl rfl rfl rfl rfl rfl ?_; intro a w5 hsh hst
 refine m_turn hsh (sub_sh [] rfl) ?_
 refine m_nil ?_
 intro w6 hsh
 refine qn_normal ?_
 refine then_normal ?_
 refine wq_seq ?_
 refine wq_region_t (.inl rfl) (.fin [(3, 0), (0, 1), (0, 2), (3, 3), (0, 4), (0, 5), (3, 6), (3, 7), (0, 8), (2, 9)]) (fun w' => SH GG w w' []) (fun w' => SH GG w w' [Box ga0 [.int .u64 (bits .xor .u64 (bits .xor .u64 a0 (wu64 (a0 * 2 ^ (Int.toNat 13)))) ((bits .xor .u64 a0 (wu64 (a0 * 2 ^ (Int.toNat 13)))) / 2 ^ (Int.toNat 7)))] 107]) (fun w' => SH GG w w' [Box ga0 [.int .u64 (bits .xor .u64 (bits .xor .u64 a0 (wu64 (a0 * 2 ^ (Int.toNat 13)))) ((bits .xor .u64 a0 (wu64 (a0 * 2 ^ (Int.toNat 13)))) / 2 ^ (Int.toNat 7)))] 107]) (shut_sh _ _ _) (shut_sh _ _ _) (shut_sh _ _ _) (sub_sh [] rfl) (sub_sh [0] rfl) hsh.drew fo (by kernel_rfl) ?_
 refine t_fin ?_
 refine m_p hst trivial rfl (fun _ => x_move hst rfl) ?_; intro a hst
 refine m_t hst trivial rfl (fun _ hsh => x_nilCheck hst rfl) ?_; intro a hst
 refine m_t hst trivial rfl (fun _ hsh => x_loadB (i := 0) hst hsh sc_107 rfl rfl rfl) ?_; intro a hst
 refine m_p hst trivial rfl (fun _ => x_move hst rfl) ?_; intro a hst
 refine m_t hst trivial rfl (fun _ hsh => x_nilCheck hst rfl) ?_; intro a hst
 refine m_t hst trivial rfl (fun _ hsh => x_loadB (i := 0) hst hsh sc_107 rfl rfl rfl) ?_; intro a hst
 refine m_p hst trivial rfl (fun _ => x_shl hst rfl rfl (by decide) (by decide)) ?_; intro a hst
 refine m_p hst trivial rfl (fun _ => x_arI (r := (bits .xor .u64 (bits .xor .u64 (bits .xor .u64 a0 (wu64 (a0 * 2 ^ (Int.toNat 13)))) ((bits .xor .u64 a0 (wu64 (a0 * 2 ^ (Int.toNat 13)))) / 2 ^ (Int.toNat 7))) (wu64 ((bits .xor .u64 (bits .xor .u64 a0 (wu64 (a0 * 2 ^ (Int.toNat 13)))) ((bits .xor .u64 a0 (wu64 (a0 * 2 ^ (Int.toNat 13)))) / 2 ^ (Int.toNat 7))) * 2 ^ (Int.toNat 17))))) hst rfl rfl rfl) ?_; intro a hst
 refine m_t hst trivial rfl (fun _ hsh => x_nilCheck hst rfl) ?_; intro a hst
 refine m_loud (.inr rfl) ?_
 intro w7 hsh
 refine r_storeB (i := 0) (cs' := [.int .u64 (bits .xor .u64 (bits .xor .u64 (bits .xor .u64 a0 (wu64 (a0 * 2 ^ (Int.toNat 13)))) ((bits .xor .u64 a0 (wu64 (a0 * 2 ^ (Int.toNat 13)))) / 2 ^ (Int.toNat 7))) (wu64 ((bits .xor .u64 (bits .xor .u64 a0 (wu64 (a0 * 2 ^ (Int.toNat 13)))) ((bits .xor .u64 a0 (wu64 (a0 * 2 ^ (Int.toNat 13)))) / 2 ^ (Int.toNat 7))) * 2 ^ (Int.toNat 17))))]) hst hsh trivial sc_107 rfl rfl rfl rfl rfl rfl ?_; intro a w8 hsh hst
 refine m_turn hsh (sub_sh [] rfl) ?_
 refine m_nil ?_
 intro w9 hsh
 refine qn_normal ?_
 refine then_normal ?_
 refine wq_seq ?_
 refine wq_region_lit (.inl rfl) ?_
 refine r_t hst trivial rfl (x_move hst rfl) ?_; intro a hst
 refine r_t hst trivial rfl (x_nilCheck hst rfl) ?_; intro a hst
 refine r_t hst trivial rfl (x_loadB (i := 0) hst hsh sc_107 rfl rfl rfl) ?_; intro a hst
 refine r_t hst trivial rfl (x_assign hst rfl) ?_; intro a hst
 refine wpL_nil ?_
 refine then_normal ?_
 refine wq_ret ?_
 obtain rfl := Option.some.inj H
 exact ret1 hst rfl rfl ⟨rfl, hsh.pick [0]⟩

set_option maxHeartbeats 4000000 in
set_option maxRecDepth 100000 in
theorem slices_breakPatternsOrdered_int.calls (k : Nat) (w : World) (GG : Nat → Prop) (va0 : Value) (a0 : (List Int)) (a1 : Int) (a2 : Int) (hsep : Sep GG w [Row (Kd.int .i64) 3 va0 a0]) (r : (List Int)) (h : slices_breakPatternsOrdered_int k a0 a1 a2 = some r) :
    Calls Try.prog 72 ([va0, .int .i64 a1, .int .i64 a2] : List Value).toArray w fun e w' => e = .returned (.tuple #[]) ∧ SH GG w w' [Row (Kd.int .i64) 3 va0 r] := by
 have H := h
 clear h
 unfold slices_breakPatternsOrdered_int at H
 refine calls_enter Try.func72 rfl rfl ?_
 intro a hst
 have hsh := SH.start hsep
 refine wq_seq ?_
 refine wq_region_lit (.inl rfl) ?_
 refine r_t hst trivial rfl (x_move hst rfl) ?_; intro a hst
 refine r_t hst trivial rfl (x_move hst rfl) ?_; intro a hst
 refine r_t hst trivial rfl (x_arI (r := w64 (a2 - a1)) hst rfl rfl rfl) ?_; intro a hst
 refine r_t hst trivial rfl (x_assign hst rfl) ?_; intro a hst
 refine wpL_nil ?_
 refine then_normal ?_
 refine wq_seq ?_
 refine wq_region_lit (.inl rfl) ?_
 refine r_t hst trivial rfl (x_move hst rfl) ?_; intro a hst
 refine r_t hst trivial rfl (x_cmpI (b := decide (8 ≤ (w64 (a2 - a1)))) hst rfl rfl rfl) ?_; intro a hst
 refine wpL_nil ?_
 refine then_normal ?_
 by_cases c1 : (decide (8 ≤ (w64 (a2 - a1)))) = true
 · rw [if_pos c1] at H
   refine wq_condT hst rfl c1 ?_
   refine wq_seq ?_
   refine wq_region_lit (.inl rfl) ?_
   refine r_t hst trivial rfl (x_move hst rfl) ?_; intro a hst
   refine r_t hst trivial rfl (x_convI hst Try.underlying3 Try.underlying107 rfl) ?_; intro a hst
   refine r_alloc hst hsh trivial rfl zr_107 ?_
   intro g2 a w3 hgg2 hsh hst
   refine r_storeB (i := 0) (cs' := [.int .u64 (wu64 (w64 (a2 - a1)))]) hst hsh trivial sc_107 rfl rfl rfl rfl rfl rfl ?_; intro a w4 hsh hst
   refine wpL_nil ?_
   refine then_normal ?_
   refine wq_seq ?_
   refine wq_region_lit (.inl rfl) ?_
   refine r_t hst trivial rfl (x_move hst rfl) ?_; intro a hst
   obtain ⟨r5, hr5, H⟩ := Option.bind_eq_some_iff.1 H
   refine r_callD hst trivial rfl fn_84 rfl (slices_nextPowerOfTwo.calls _ (w64 (a2 - a1)) r5 hr5) ?_
   rintro e w6 ⟨rfl, hc⟩
   replace hsh := hsh.call0 hc
   clear hc
   refine ⟨_, rfl, fun a hst => ?_⟩
   refine r_t hst trivial rfl (x_assign hst rfl) ?_; intro a hst
   refine wpL_nil ?_
   refine then_normal ?_
   refine wq_seq ?_
   refine wq_region_lit (.inl rfl) ?_
   refine r_t hst trivial rfl (x_move hst rfl) ?_; intro a hst
   refine r_t hst trivial rfl (x_move hst rfl) ?_; intro a hst
   refine r_t hst trivial rfl (x_quo hst rfl rfl (by decide)) ?_; intro a hst
   refine r_t hst trivial rfl (x_arI (r := w64 ((w64 (Int.tdiv (w64 (a2 - a1)) 4)) * 2)) hst rfl rfl rfl) ?_; intro a hst
   refine r_t hst trivial rfl (x_arI (r := w64 (a1 + (w64 ((w64 (Int.tdiv (w64 (a2 - a1)) 4)) * 2)))) hst rfl rfl rfl) ?_; intro a hst
   refine r_t hst trivial rfl (x_arI (r := w64 ((w64 (a1 + (w64 ((w64 (Int.tdiv (w64 (a2 - a1)) 4)) * 2)))) - 1)) hst rfl rfl rfl) ?_; intro a hst
   refine r_t hst trivial rfl (x_assign hst rfl) ?_; intro a hst
   refine wpL_nil ?_
   refine then_normal ?_
   refine wq_block ?_
   refine wq_loop_fuel (fun k_32 a w' => ∃ (l_16 : (List Int)), ∃ (i_17 : Int), ∃ (i_18 : Int), ∃ (i_19 : Int), slices_breakPatternsOrdered_int.l0 a1 r5 k_32 l_16 i_17 i_18 i_19 = some r ∧ ST [] Try.f72.ntmps a [(0, va0), (1, .int .i64 a1), (6, .int .i64 i_17), (7, .pointer (some ⟨g2, 0, none⟩)), (8, .int .u64 r5), (9, .int .i64 i_19)] ∧ SH GG w w' [Row (Kd.int .i64) 3 va0 l_16, Box g2 [.int .u64 i_18] 107]) k ?_ ?_
   · exact ⟨a0, (w64 (a2 - a1)), (wu64 (w64 (a2 - a1))), (w64 ((w64 (a1 + (w64 ((w64 (Int.tdiv (w64 (a2 - a1)) 4)) * 2)))) - 1)), H, hst.keep _ ⟨rfl, rfl, rfl, rfl, rfl, rfl, trivial⟩, hsh.pick [1, 0]⟩
   · rintro k_32 a W_20 ⟨l_16, i_17, i_18, i_19, H, hst, hsh⟩
     cases k_32 with
     | zero => rw [slices_breakPatternsOrdered_int.l0] at H; cases H
     | succ k_32 =>
      rw [slices_breakPatternsOrdered_int.l0] at H
      refine wq_seq ?_
      refine wq_seq ?_
      refine wq_region_lit (.inl rfl) ?_
      refine r_t hst trivial rfl (x_move hst rfl) ?_; intro a hst
      refine r_t hst trivial rfl (x_move hst rfl) ?_; intro a hst
      refine r_t hst trivial rfl (x_move hst rfl) ?_; intro a hst
      refine r_t hst trivial rfl (x_quo hst rfl rfl (by decide)) ?_; intro a hst
      refine r_t hst trivial rfl (x_arI (r := w64 ((w64 (Int.tdiv i_17 4)) * 2)) hst rfl rfl rfl) ?_; intro a hst
      refine r_t hst trivial rfl (x_arI (r := w64 (a1 + (w64 ((w64 (Int.tdiv i_17 4)) * 2)))) hst rfl rfl rfl) ?_; intro a hst
      refine r_t hst trivial rfl (x_arI (r := w64 ((w64 (a1 + (w64 ((w64 (Int.tdiv i_17 4)) * 2)))) + 1)) hst rfl rfl rfl) ?_; intro a hst
      refine r_t hst trivial rfl (x_cmpI (b := decide (i_19 ≤ (w64 ((w64 (a1 + (w64 ((w64 (Int.tdiv i_17 4)) * 2)))) + 1)))) hst rfl rfl rfl) ?_; intro a hst
      refine wpL_nil ?_
      refine then_normal ?_
      by_cases c76 : (decide (i_19 ≤ (w64 ((w64 (a1 + (w64 ((w64 (Int.tdiv i_17 4)) * 2)))) + 1)))) = true
      · rw [if_pos c76] at H
        refine wq_condT hst rfl c76 ?_
        refine wq_skip ?_
        refine then_normal ?_
        refine wq_seq ?_
        refine wq_block ?_
        refine wq_seq ?_
        refine wq_region_lit (.inl rfl) ?_
        replace hsh := hsh.pick [1, 0]
        obtain ⟨GG95, hsp, hG, hbx, hfx, hk⟩ := SH.callD (L1 := [Box g2 [.int .u64 i_18] 107]) (L2 := [Row (Kd.int .i64) 3 va0 l_16]) hsh
        obtain ⟨r93, hr93, H⟩ := Option.bind_eq_some_iff.1 H
        refine r_callD hst trivial rfl fn_85 rfl (slices_xorshift_Next.calls _ GG95 g2 i_18 hsp r93 hr93) ?_
        rintro e w94 ⟨rfl, hc⟩
        replace hsh := hk _ _ hc
        clear hc
        refine ⟨_, rfl, fun a hst => ?_⟩
        refine r_t hst trivial rfl (x_move hst rfl) ?_; intro a hst
        refine r_t hst trivial rfl (x_arI (r := wu64 (r5 - 1)) hst rfl rfl rfl) ?_; intro a hst
        refine r_t hst trivial rfl (x_arI (r := (bits .and .u64 r93.1 (wu64 (r5 - 1)))) hst rfl rfl rfl) ?_; intro a hst
        refine r_t hst trivial rfl (x_convI hst Try.underlying88 Try.underlying3 rfl) ?_; intro a hst
        refine r_t hst trivial rfl (x_assign hst rfl) ?_; intro a hst
        refine wpL_nil ?_
        refine then_normal ?_
        obtain ⟨J_38, hJ_38, H⟩ := Jn.elim H
        refine wq_cut (fun a w' => ∃ (i_36 : Int), J_38 i_36 = some r ∧ ST [] Try.f72.ntmps a [(0, va0), (1, .int .i64 a1), (6, .int .i64 i_17), (7, .pointer (some ⟨g2, 0, none⟩)), (8, .int .u64 r5), (9, .int .i64 i_19), (10, .int .i64 i_36)] ∧ SH GG w w' [Row (Kd.int .i64) 3 va0 l_16, Box g2 [.int .u64 r93.2] 107]) ?_ ?_
        · rintro a W_37 ⟨i_36, H, hst, hsh⟩
          subst hJ_38
          dsimp only at H
          have hw96_0 := hsh.row 0 rfl
          refine wq_region_t (.inl rfl) (.fin [(3, 0), (3, 1), (3, 2), (3, 3), (3, 4), (3, 5), (3, 6), (3, 7), (3, 8), (3, 9), (3, 10), (0, 11), (3, 12), (3, 13), (3, 14), (0, 15), (3, 16), (2, 17), (0, 18), (2, 19)]) (fun w' => SH GG w w' [Box g2 [.int .u64 r93.2] 107]) (fun w' => SH GG w w' [Row (Kd.int .i64) 3 va0 l_16, Box g2 [.int .u64 r93.2] 107]) (fun w' => SH GG w w' [Row (Kd.int .i64) 3 va0 l_16, Box g2 [.int .u64 r93.2] 107]) (shut_sh _ _ _) (shut_sh _ _ _) (shut_sh _ _ _) (sub_sh [1] rfl) (sub_sh [0, 0] rfl) hsh.drew fo (by kernel_rfl) ?_
          refine t_fin ?_
          refine m_p hst trivial rfl (fun _ => x_move hst rfl) ?_; intro a hst
          refine m_p hst trivial rfl (fun _ => x_move hst rfl) ?_; intro a hst
          refine m_p hst trivial rfl (fun _ => x_move hst rfl) ?_; intro a hst
          refine m_p hst trivial rfl (fun _ => x_move hst rfl) ?_; intro a hst
          refine m_p hst trivial rfl (fun _ => x_move hst rfl) ?_; intro a hst
          refine m_p hst trivial rfl (fun _ => x_arI (r := w64 (a1 + i_36)) hst rfl rfl rfl) ?_; intro a hst
          refine m_p hst trivial rfl (fun _ => x_move hst rfl) ?_; intro a hst
          refine m_p hst trivial rfl (fun _ => x_move hst rfl) ?_; intro a hst
          refine m_p hst trivial rfl (fun _ => x_move hst rfl) ?_; intro a hst
          refine m_p hst trivial rfl (fun _ => x_arI (r := w64 (a1 + i_36)) hst rfl rfl rfl) ?_; intro a hst
          obtain ⟨x97, hx97, H⟩ := Option.bind_eq_some_iff.1 H
          refine m_p hst trivial rfl (fun _ => x_indexAddr hst Try.underlying56 el_3 rfl rfl hw96_0 hx97) ?_; intro a hst
          refine m_t hst trivial rfl (fun _ hsh => x_loadEF (j := 0) (cs := [.int .i64 x97]) hst sc_3 rfl (hsh.row 0 rfl) (Same.refl _ _) hx97 rfl (fun _ h => h) rfl) ?_; intro a hst
          refine m_p hst trivial rfl (fun _ => x_move hst rfl) ?_; intro a hst
          refine m_p hst trivial rfl (fun _ => x_move hst rfl) ?_; intro a hst
          obtain ⟨x98, hx98, H⟩ := Option.bind_eq_some_iff.1 H
          refine m_p hst trivial rfl (fun _ => x_indexAddr hst Try.underlying56 el_3 rfl rfl hw96_0 hx98) ?_; intro a hst
          refine m_t hst trivial rfl (fun _ hsh => x_loadEF (j := 0) (cs := [.int .i64 x98]) hst sc_3 rfl (hsh.row 0 rfl) (Same.refl _ _) hx98 rfl (fun _ h => h) rfl) ?_; intro a hst
          obtain ⟨x99, hx99, H⟩ := Option.bind_eq_some_iff.1 H
          refine m_p hst trivial rfl (fun _ => x_indexAddr hst Try.underlying56 el_3 rfl rfl hw96_0 hx99) ?_; intro a hst
          refine m_loud (.inr rfl) ?_
          intro w100 hsh
          obtain ⟨l101, hl101, H⟩ := Option.bind_eq_some_iff.1 H
          refine r_storeE (i := 0) (off := 0) (new := x97) (cs' := [.int .i64 x97]) hst hsh trivial sc_3 rfl rfl rfl hx99 rfl (Nat.le_of_ble_eq_true rfl) rfl (fun _ _ _ h => by rw [h]; rfl) (fun _ _ => rfl) ?_; intro a w102 hsh hst
          rw [← upd_some hl101] at hsh
          refine m_turn hsh (sub_sh [1] rfl) ?_
          obtain ⟨x103, hx103, H⟩ := Option.bind_eq_some_iff.1 H
          refine m_t hst trivial rfl (fun _ hsh => x_indexAddr hst Try.underlying56 el_3 rfl rfl (hsh.row 0 rfl) hx103) ?_; intro a hst
          refine m_loud (.inr rfl) ?_
          intro w104 hsh
          obtain ⟨l105, hl105, H⟩ := Option.bind_eq_some_iff.1 H
          refine r_storeE (i := 0) (off := 0) (new := x98) (cs' := [.int .i64 x98]) hst hsh trivial sc_3 rfl rfl rfl hx103 rfl (Nat.le_of_ble_eq_true rfl) rfl (fun _ _ _ h => by rw [h]; rfl) (fun _ _ => rfl) ?_; intro a w106 hsh hst
          rw [← upd_some hl105] at hsh
          refine m_turn hsh (sub_sh [1] rfl) ?_
          refine m_nil ?_
          intro w107 hsh
          refine qn_normal ?_
          refine block_normal ?_
          refine then_normal ?_
          refine wq_region_lit (.inl rfl) ?_
          refine r_t hst trivial rfl (x_move hst rfl) ?_; intro a hst
          refine r_t hst trivial rfl (x_arI (r := w64 (i_19 + 1)) hst rfl rfl rfl) ?_; intro a hst
          refine r_t hst trivial rfl (x_assign hst rfl) ?_; intro a hst
          refine wpL_nil ?_
          refine then_normal ?_
          exact ⟨k_32, Nat.lt_succ_self _, l105, i_17, r93.2, (w64 (i_19 + 1)), H, hst.keep _ ⟨rfl, rfl, rfl, rfl, rfl, rfl, trivial⟩, hsh.pick [0, 0]⟩
        · refine wq_seq ?_
          refine wq_region_lit (.inl rfl) ?_
          refine r_t hst trivial rfl (x_move hst rfl) ?_; intro a hst
          refine r_t hst trivial rfl (x_move hst rfl) ?_; intro a hst
          refine r_t hst trivial rfl (x_cmpI (b := decide (i_17 ≤ (w64 (bits .and .u64 r93.1 (wu64 (r5 - 1)))))) hst rfl rfl rfl) ?_; intro a hst
          refine wpL_nil ?_
          refine then_normal ?_
          by_cases c108 : (decide (i_17 ≤ (w64 (bits .and .u64 r93.1 (wu64 (r5 - 1)))))) = true
          · rw [if_pos c108] at H
            refine wq_condT hst rfl c108 ?_
            refine wq_region_lit (.inl rfl) ?_
            refine r_t hst trivial rfl (x_move hst rfl) ?_; intro a hst
            refine r_t hst trivial rfl (x_move hst rfl) ?_; intro a hst
            refine r_t hst trivial rfl (x_arI (r := w64 ((w64 (bits .and .u64 r93.1 (wu64 (r5 - 1)))) - i_17)) hst rfl rfl rfl) ?_; intro a hst
            refine r_t hst trivial rfl (x_assign hst rfl) ?_; intro a hst
            refine wpL_nil ?_
            refine then_normal ?_
            exact ⟨(w64 ((w64 (bits .and .u64 r93.1 (wu64 (r5 - 1)))) - i_17)), H, hst.keep _ ⟨rfl, rfl, rfl, rfl, rfl, rfl, rfl, trivial⟩, hsh.pick [1, 0]⟩
          · rw [if_neg c108] at H
            replace c108 := Bool.eq_false_iff.2 c108
            refine wq_condF hst rfl c108 ?_
            refine wq_skip ?_
            refine then_normal ?_
            exact ⟨(w64 (bits .and .u64 r93.1 (wu64 (r5 - 1)))), H, hst.keep _ ⟨rfl, rfl, rfl, rfl, rfl, rfl, rfl, trivial⟩, hsh.pick [1, 0]⟩
      · rw [if_neg c76] at H
        replace c76 := Bool.eq_false_iff.2 c76
        refine wq_condF hst rfl c76 ?_
        refine wq_exit ?_
        refine then_exit ?_
        refine then_exit ?_
        refine block_hit ?_
        obtain rfl := Option.some.inj H
        exact end0 hst rfl ⟨rfl, hsh.pick [0]⟩
 · rw [if_neg c1] at H
   replace c1 := Bool.eq_false_iff.2 c1
   refine wq_condF hst rfl c1 ?_
   refine wq_skip ?_
   obtain rfl := Option.some.inj H
   exact end0 hst rfl ⟨rfl, hsh.pick [0]⟩

set_option maxHeartbeats 4000000 in
set_option maxRecDepth 100000 in
theorem slices_order2Ordered_int.calls (w : World) (GG : Nat → Prop) (va0 : Value) (Za0 : Nat → Prop) (wra0 : World) (hsa0 : Same Za0 wra0 w) (hda0 : ∀ k, Za0 k → k < wra0.heap.size → ¬ GG k) (a0 : (List Int)) (hra0 : RD (Kd.int .i64) Za0 wra0 va0 a0) (a1 : Int) (a2 : Int) (ga3 : Nat) (a3 : Int) (hsep : Sep GG w [Box ga3 [.int .i64 a3] 3]) (r : (Int × Int × Int)) (h : slices_order2Ordered_int a0 a1 a2 a3 = some r) :
    Calls Try.prog 89 ([va0, .int .i64 a1, .int .i64 a2, .pointer (some ⟨ga3, 0, none⟩)] : List Value).toArray w fun e w' => e = .returned (.tuple #[.int .i64 r.1, .int .i64 r.2.1]) ∧ SH GG w w' [Box ga3 [.int .i64 r.2.2] 3] := by
 have H := h
 clear h
 unfold slices_order2Ordered_int at H
 refine calls_enter Try.func89 rfl rfl ?_
 intro a hst
 have hsh := SH.start hsep
 refine wq_seq ?_
 refine wq_region_lit (.inl rfl) ?_
 refine r_t hst trivial rfl (x_assign hst rfl) ?_; intro a hst
 refine r_t hst trivial rfl (x_assign hst rfl) ?_; intro a hst
 refine wpL_nil ?_
 refine then_normal ?_
 refine wq_seq ?_
 refine wq_seq ?_
 refine wq_region_q (.inl rfl) (fun w' => SH GG w w' [Box ga3 [.int .i64 a3] 3]) (shut_sh _ _ _) hsh.drew fo (by kernel_rfl) ?_
 refine q_t hst trivial rfl (fun _ hsh => x_move hst rfl) ?_; intro a hst
 refine q_t hst trivial rfl (fun _ hsh => x_move hst rfl) ?_; intro a hst
 obtain ⟨x8, hx8, H⟩ := Option.bind_eq_some_iff.1 H
 refine q_t hst trivial rfl (fun _ hsh => x_indexAddr hst Try.underlying56 el_3 rfl rfl hra0 hx8) ?_; intro a hst
 refine q_t hst trivial rfl (fun _ hsh => x_loadEF (j := 0) (cs := [.int .i64 x8]) hst sc_3 rfl hra0 (Same.sh2 hsa0 hda0 hsh) hx8 rfl (fun _ h => h) rfl) ?_; intro a hst
 refine q_t hst trivial rfl (fun _ hsh => x_move hst rfl) ?_; intro a hst
 refine q_t hst trivial rfl (fun _ hsh => x_move hst rfl) ?_; intro a hst
 obtain ⟨x9, hx9, H⟩ := Option.bind_eq_some_iff.1 H
 refine q_t hst trivial rfl (fun _ hsh => x_indexAddr hst Try.underlying56 el_3 rfl rfl hra0 hx9) ?_; intro a hst
 refine q_t hst trivial rfl (fun _ hsh => x_loadEF (j := 0) (cs := [.int .i64 x9]) hst sc_3 rfl hra0 (Same.sh2 hsa0 hda0 hsh) hx9 rfl (fun _ h => h) rfl) ?_; intro a hst
 obtain ⟨r10, hr10, H⟩ := Option.bind_eq_some_iff.1 H
 refine q_call hst trivial rfl fn_76 rfl (fun w9 hsh => cmp_Less_int.calls _ x8 x9 r10 hr10) ?_; intro a hst
 refine q_nil ?_
 intro w12 hsh
 refine then_normal ?_
 by_cases c13 : r10 = true
 · rw [if_pos c13] at H
   refine wq_condT hst rfl c13 ?_
   refine wq_seq ?_
   refine wq_region_lit (.inl rfl) ?_
   refine r_t hst trivial rfl (x_move hst rfl) ?_; intro a hst
   refine r_t hst trivial rfl (x_nilCheck hst rfl) ?_; intro a hst
   refine r_t hst trivial rfl (x_loadB (i := 0) hst hsh sc_3 rfl rfl rfl) ?_; intro a hst
   refine r_t hst trivial rfl (x_arI (r := w64 (a3 + 1)) hst rfl rfl rfl) ?_; intro a hst
   refine r_t hst trivial rfl (x_nilCheck hst rfl) ?_; intro a hst
   refine r_storeB (i := 0) (cs' := [.int .i64 (w64 (a3 + 1))]) hst hsh trivial sc_3 rfl rfl rfl rfl rfl rfl ?_; intro a w14 hsh hst
   refine wpL_nil ?_
   refine then_normal ?_
   refine wq_seq ?_
   refine wq_region_lit (.inl rfl) ?_
   refine r_t hst trivial rfl (x_move hst rfl) ?_; intro a hst
   refine r_t hst trivial rfl (x_move hst rfl) ?_; intro a hst
   refine r_t hst trivial rfl (x_assign hst rfl) ?_; intro a hst
   refine r_t hst trivial rfl (x_assign hst rfl) ?_; intro a hst
   refine wpL_nil ?_
   refine then_normal ?_
   refine wq_ret ?_
   refine then_ret ?_
   obtain rfl := Option.some.inj H
   exact ret2 hst rfl rfl rfl ⟨rfl, hsh.pick [0]⟩
 · rw [if_neg c13] at H
   replace c13 := Bool.eq_false_iff.2 c13
   refine wq_condF hst rfl c13 ?_
   refine wq_skip ?_
   refine then_normal ?_
   refine wq_seq ?_
   refine wq_region_lit (.inl rfl) ?_
   refine r_t hst trivial rfl (x_move hst rfl) ?_; intro a hst
   refine r_t hst trivial rfl (x_move hst rfl) ?_; intro a hst
   refine r_t hst trivial rfl (x_assign hst rfl) ?_; intro a hst
   refine r_t hst trivial rfl (x_assign hst rfl) ?_; intro a hst
   refine wpL_nil ?_
   refine then_normal ?_
   refine wq_ret ?_
   obtain rfl := Option.some.inj H
   exact ret2 hst rfl rfl rfl ⟨rfl, hsh.pick [0]⟩

set_option maxHeartbeats 4000000 in
set_option maxRecDepth 100000 in
theorem slices_medianOrdered_int.calls (w : World) (GG : Nat → Prop) (va0 : Value) (Za0 : Nat → Prop) (wra0 : World) (hsa0 : Same Za0 wra0 w) (hda0 : ∀ k, Za0 k → k < wra0.heap.size → ¬ GG k) (a0 : (List Int)) (hra0 : RD (Kd.int .i64) Za0 wra0 va0 a0) (a1 : Int) (a2 : Int) (a3 : Int) (ga4 : Nat) (a4 : Int) (hsep : Sep GG w [Box ga4 [.int .i64 a4] 3]) (r : (Int × Int)) (h : slices_medianOrdered_int a0 a1 a2 a3 a4 = some r) :
    Calls Try.prog 87 ([va0, .int .i64 a1, .int .i64 a2, .int .i64 a3, .pointer (some ⟨ga4, 0, none⟩)] : List Value).toArray w fun e w' => e = .returned (.int .i64 r.1) ∧ SH GG w w' [Box ga4 [.int .i64 r.2] 3] := by
 have H := h
 clear h
 unfold slices_medianOrdered_int at H
 refine calls_enter Try.func87 rfl rfl ?_
 intro a hst
 have hsh := SH.start hsep
 refine wq_seq ?_
 refine wq_region_lit (.inl rfl) ?_
 refine r_t hst trivial rfl (x_assign hst rfl) ?_; intro a hst
 refine wpL_nil ?_
 refine then_normal ?_
 refine wq_seq ?_
 refine wq_region_lit (.inl rfl) ?_
 refine r_t hst trivial rfl (x_move hst rfl) ?_; intro a hst
 refine r_t hst trivial rfl (x_move hst rfl) ?_; intro a hst
 refine r_t hst trivial rfl (x_move hst rfl) ?_; intro a hst
 refine r_t hst trivial rfl (x_move hst rfl) ?_; intro a hst
 replace hsh := hsh.pick [0]
 obtain ⟨GG3, hsp, hG, hbx, hfx, hk⟩ := SH.callD (L1 := [Box ga4 [.int .i64 a4] 3]) (L2 := []) hsh
 obtain ⟨r1, hr1, H⟩ := Option.bind_eq_some_iff.1 H
 refine r_callD hst trivial rfl fn_89 rfl (slices_order2Ordered_int.calls _ GG3 _ _ _ (Same.sh2 hsa0 hda0 hsh) (disj_own hsa0 hda0 hG) _ hra0 a1 a2 ga4 a4 hsp r1 hr1) ?_
 rintro e w2 ⟨rfl, hc⟩
 replace hsh := hk _ _ hc
 clear hc
 refine ⟨_, rfl, fun a hst => ?_⟩
 refine r_t hst trivial rfl (x_move hst rfl) ?_; intro a hst
 refine r_t hst trivial rfl (x_extract hst rfl rfl) ?_; intro a hst
 refine r_t hst trivial rfl (x_extract hst rfl rfl) ?_; intro a hst
 refine r_t hst trivial rfl (x_assign hst rfl) ?_; intro a hst
 refine r_t hst trivial rfl (x_assign hst rfl) ?_; intro a hst
 refine wpL_nil ?_
 refine then_normal ?_
 refine wq_seq ?_
 refine wq_region_lit (.inl rfl) ?_
 refine r_t hst trivial rfl (x_move hst rfl) ?_; intro a hst
 refine r_t hst trivial rfl (x_move hst rfl) ?_; intro a hst
 refine r_t hst trivial rfl (x_move hst rfl) ?_; intro a hst
 refine r_t hst trivial rfl (x_move hst rfl) ?_; intro a hst
 replace hsh := hsh.pick [0]
 obtain ⟨GG6, hsp, hG, hbx, hfx, hk⟩ := SH.callD (L1 := [Box ga4 [.int .i64 r1.2.2] 3]) (L2 := []) hsh
 obtain ⟨r4, hr4, H⟩ := Option.bind_eq_some_iff.1 H
 refine r_callD hst trivial rfl fn_89 rfl (slices_order2Ordered_int.calls _ GG6 _ _ _ (Same.sh2 hsa0 hda0 hsh) (disj_own hsa0 hda0 hG) _ hra0 r1.2.1 a3 ga4 r1.2.2 hsp r4 hr4) ?_
 rintro e w5 ⟨rfl, hc⟩
 replace hsh := hk _ _ hc
 clear hc
 refine ⟨_, rfl, fun a hst => ?_⟩
 refine r_t hst trivial rfl (x_move hst rfl) ?_; intro a hst
 refine r_t hst trivial rfl (x_extract hst rfl rfl) ?_; intro a hst
 refine r_t hst trivial rfl (x_extract hst rfl rfl) ?_; intro a hst
 refine r_t hst trivial rfl (x_assign hst rfl) ?_; intro a hst
 refine r_t hst trivial rfl (x_assign hst rfl) ?_; intro a hst
 refine wpL_nil ?_
 refine then_normal ?_
 refine wq_seq ?_
 refine wq_region_lit (.inl rfl) ?_
 refine r_t hst trivial rfl (x_move hst rfl) ?_; intro a hst
 refine r_t hst trivial rfl (x_move hst rfl) ?_; intro a hst
 refine r_t hst trivial rfl (x_move hst rfl) ?_; intro a hst
 refine r_t hst trivial rfl (x_move hst rfl) ?_; intro a hst
 replace hsh := hsh.pick [0]
 obtain ⟨GG9, hsp, hG, hbx, hfx, hk⟩ := SH.callD (L1 := [Box ga4 [.int .i64 r4.2.2] 3]) (L2 := []) hsh
 obtain ⟨r7, hr7, H⟩ := Option.bind_eq_some_iff.1 H
 refine r_callD hst trivial rfl fn_89 rfl (slices_order2Ordered_int.calls _ GG9 _ _ _ (Same.sh2 hsa0 hda0 hsh) (disj_own hsa0 hda0 hG) _ hra0 r1.1 r4.1 ga4 r4.2.2 hsp r7 hr7) ?_
 rintro e w8 ⟨rfl, hc⟩
 replace hsh := hk _ _ hc
 clear hc
 refine ⟨_, rfl, fun a hst => ?_⟩
 refine r_t hst trivial rfl (x_move hst rfl) ?_; intro a hst
 refine r_t hst trivial rfl (x_extract hst rfl rfl) ?_; intro a hst
 refine r_t hst trivial rfl (x_extract hst rfl rfl) ?_; intro a hst
 refine r_t hst trivial rfl (x_assign hst rfl) ?_; intro a hst
 refine r_t hst trivial rfl (x_assign hst rfl) ?_; intro a hst
 refine wpL_nil ?_
 refine then_normal ?_
 refine wq_seq ?_
 refine wq_region_lit (.inl rfl) ?_
 refine r_t hst trivial rfl (x_move hst rfl) ?_; intro a hst
 refine r_t hst trivial rfl (x_assign hst rfl) ?_; intro a hst
 refine wpL_nil ?_
 refine then_normal ?_
 refine wq_ret ?_
 obtain rfl := Option.some.inj H
 exact ret1 hst rfl rfl ⟨rfl, hsh.pick [0]⟩

set_option maxHeartbeats 4000000 in
set_option maxRecDepth 100000 in
theorem slices_medianAdjacentOrdered_int.calls (w : World) (GG : Nat → Prop) (va0 : Value) (Za0 : Nat → Prop) (wra0 : World) (hsa0 : Same Za0 wra0 w) (hda0 : ∀ k, Za0 k → k < wra0.heap.size → ¬ GG k) (a0 : (List Int)) (hra0 : RD (Kd.int .i64) Za0 wra0 va0 a0) (a1 : Int) (ga2 : Nat) (a2 : Int) (hsep : Sep GG w [Box ga2 [.int .i64 a2] 3]) (r : (Int × Int)) (h : slices_medianAdjacentOrdered_int a0 a1 a2 = some r) :
    Calls Try.prog 86 ([va0, .int .i64 a1, .pointer (some ⟨ga2, 0, none⟩)] : List Value).toArray w fun e w' => e = .returned (.int .i64 r.1) ∧ SH GG w w' [Box ga2 [.int .i64 r.2] 3] := by
 have H := h
 clear h
 unfold slices_medianAdjacentOrdered_int at H
 refine calls_enter Try.func86 rfl rfl ?_
 intro a hst
 have hsh := SH.start hsep
 refine wq_seq ?_
 refine wq_region_lit (.inl rfl) ?_
 refine r_t hst trivial rfl (x_assign hst rfl) ?_; intro a hst
 refine wpL_nil ?_
 refine then_normal ?_
 refine wq_seq ?_
 refine wq_region_lit (.inl rfl) ?_
 refine r_t hst trivial rfl (x_move hst rfl) ?_; intro a hst
 refine r_t hst trivial rfl (x_move hst rfl) ?_; intro a hst
 refine r_t hst trivial rfl (x_arI (r := w64 (a1 - 1)) hst rfl rfl rfl) ?_; intro a hst
 refine r_t hst trivial rfl (x_move hst rfl) ?_; intro a hst
 refine r_t hst trivial rfl (x_move hst rfl) ?_; intro a hst
 refine r_t hst trivial rfl (x_arI (r := w64 (a1 + 1)) hst rfl rfl rfl) ?_; intro a hst
 refine r_t hst trivial rfl (x_move hst rfl) ?_; intro a hst
 replace hsh := hsh.pick [0]
 obtain ⟨GG3, hsp, hG, hbx, hfx, hk⟩ := SH.callD (L1 := [Box ga2 [.int .i64 a2] 3]) (L2 := []) hsh
 obtain ⟨r1, hr1, H⟩ := Option.bind_eq_some_iff.1 H
 refine r_callD hst trivial rfl fn_87 rfl (slices_medianOrdered_int.calls _ GG3 _ _ _ (Same.sh2 hsa0 hda0 hsh) (disj_own hsa0 hda0 hG) _ hra0 (w64 (a1 - 1)) a1 (w64 (a1 + 1)) ga2 a2 hsp r1 hr1) ?_
 rintro e w2 ⟨rfl, hc⟩
 replace hsh := hk _ _ hc
 clear hc
 refine ⟨_, rfl, fun a hst => ?_⟩
 refine r_t hst trivial rfl (x_assign hst rfl) ?_; intro a hst
 refine wpL_nil ?_
 refine then_normal ?_
 refine wq_ret ?_
 obtain rfl := Option.some.inj H
 exact ret1 hst rfl rfl ⟨rfl, hsh.pick [0]⟩

set_option maxHeartbeats 4000000 in
set_option maxRecDepth 100000 in
theorem slices_choosePivotOrdered_int.calls (w : World) (va0 : Value) (Za0 : Nat → Prop) (wra0 : World) (hsa0 : Same Za0 wra0 w) (a0 : (List Int)) (hra0 : RD (Kd.int .i64) Za0 wra0 va0 a0) (a1 : Int) (a2 : Int) (r : (Int × Int)) (h : slices_choosePivotOrdered_int a0 a1 a2 = some r) :
    Calls Try.prog 73 ([va0, .int .i64 a1, .int .i64 a2] : List Value).toArray w fun e w' => e = .returned (.tuple #[.int .i64 r.1, .int .i64 r.2]) ∧ SH (fun _ => False) w w' [] := by
 have H := h
 clear h
 unfold slices_choosePivotOrdered_int at H
 refine calls_enter Try.func73 rfl rfl ?_
 intro a hst
 have hsh := SH.zero (fun _ => False) w
 refine wq_seq ?_
 refine wq_region_lit (.inl rfl) ?_
 refine r_t hst trivial rfl (x_assign hst rfl) ?_; intro a hst
 refine r_t hst trivial rfl (x_assign hst rfl) ?_; intro a hst
 refine wpL_nil ?_
 refine then_normal ?_
 refine wq_seq ?_
 refine wq_region_lit (.inl rfl) ?_
 refine r_t hst trivial rfl (x_move hst rfl) ?_; intro a hst
 refine r_t hst trivial rfl (x_move hst rfl) ?_; intro a hst
 refine r_t hst trivial rfl (x_arI (r := w64 (a2 - a1)) hst rfl rfl rfl) ?_; intro a hst
 refine r_t hst trivial rfl (x_assign hst rfl) ?_; intro a hst
 refine wpL_nil ?_
 refine then_normal ?_
 refine wq_seq ?_
 refine wq_region_lit (.inl rfl) ?_
 refine r_alloc hst hsh trivial rfl zr_3 ?_
 intro g1 a w2 hgg1 hsh hst
 refine wpL_nil ?_
 refine then_normal ?_
 refine wq_seq ?_
 refine wq_region_lit (.inl rfl) ?_
 refine r_t hst trivial rfl (x_move hst rfl) ?_; intro a hst
 refine r_t hst trivial rfl (x_move hst rfl) ?_; intro a hst
 refine r_t hst trivial rfl (x_quo hst rfl rfl (by decide)) ?_; intro a hst
 refine r_t hst trivial rfl (x_arI (r := w64 ((w64 (Int.tdiv (w64 (a2 - a1)) 4)) * 1)) hst rfl rfl rfl) ?_; intro a hst
 refine r_t hst trivial rfl (x_arI (r := w64 (a1 + (w64 ((w64 (Int.tdiv (w64 (a2 - a1)) 4)) * 1)))) hst rfl rfl rfl) ?_; intro a hst
 refine r_t hst trivial rfl (x_assign hst rfl) ?_; intro a hst
 refine wpL_nil ?_
 refine then_normal ?_
 refine wq_seq ?_
 refine wq_region_lit (.inl rfl) ?_
 refine r_t hst trivial rfl (x_move hst rfl) ?_; intro a hst
 refine r_t hst trivial rfl (x_move hst rfl) ?_; intro a hst
 refine r_t hst trivial rfl (x_quo hst rfl rfl (by decide)) ?_; intro a hst
 refine r_t hst trivial rfl (x_arI (r := w64 ((w64 (Int.tdiv (w64 (a2 - a1)) 4)) * 2)) hst rfl rfl rfl) ?_; intro a hst
 refine r_t hst trivial rfl (x_arI (r := w64 (a1 + (w64 ((w64 (Int.tdiv (w64 (a2 - a1)) 4)) * 2)))) hst rfl rfl rfl) ?_; intro a hst
 refine r_t hst trivial rfl (x_assign hst rfl) ?_; intro a hst
 refine wpL_nil ?_
 refine then_normal ?_
 refine wq_seq ?_
 refine wq_region_lit (.inl rfl) ?_
 refine r_t hst trivial rfl (x_move hst rfl) ?_; intro a hst
 refine r_t hst trivial rfl (x_move hst rfl) ?_; intro a hst
 refine r_t hst trivial rfl (x_quo hst rfl rfl (by decide)) ?_; intro a hst
 refine r_t hst trivial rfl (x_arI (r := w64 ((w64 (Int.tdiv (w64 (a2 - a1)) 4)) * 3)) hst rfl rfl rfl) ?_; intro a hst
 refine r_t hst trivial rfl (x_arI (r := w64 (a1 + (w64 ((w64 (Int.tdiv (w64 (a2 - a1)) 4)) * 3)))) hst rfl rfl rfl) ?_; intro a hst
 refine r_t hst trivial rfl (x_assign hst rfl) ?_; intro a hst
 refine wpL_nil ?_
 refine then_normal ?_
 obtain ⟨J_10, hJ_10, H⟩ := Jn.elim H
 refine wq_cut (fun a w' => ∃ (i_7 : Int), ∃ (i_8 : Int), J_10 i_7 i_8 = some r ∧ ST [] Try.f73.ntmps a [(6, .int .i64 0), (7, .int .i64 0), (9, .pointer (some ⟨g1, 0, none⟩)), (11, .int .i64 i_8)] ∧ SH (fun _ => False) w w' [Box g1 [.int .i64 i_7] 3]) ?_ ?_
 · rintro a W_9 ⟨i_7, i_8, H, hst, hsh⟩
   subst hJ_10
   dsimp only at H
   refine wq_seq ?_
   refine wq_region_lit (.inl rfl) ?_
   refine r_t hst trivial rfl (x_loadB (i := 0) hst hsh sc_3 rfl rfl rfl) ?_; intro a hst
   refine wpL_nil ?_
   refine then_normal ?_
   refine wq_block ?_
   refine wq_seq ?_
   refine wq_region_lit (.inl rfl) ?_
   refine r_t hst trivial rfl (x_cmpI (b := (i_7 == 0)) hst rfl rfl rfl) ?_; intro a hst
   refine r_t hst trivial rfl (x_assign hst rfl) ?_; intro a hst
   refine wpL_nil ?_
   refine then_normal ?_
   by_cases c27 : (i_7 == 0) = true
   · rw [if_pos c27] at H
     refine wq_condT hst rfl c27 ?_
     refine wq_seq ?_
     refine wq_region_lit (.inl rfl) ?_
     refine r_t hst trivial rfl (x_move hst rfl) ?_; intro a hst
     refine r_t hst trivial rfl (x_assign hst rfl) ?_; intro a hst
     refine r_t hst trivial rfl (x_assign hst rfl) ?_; intro a hst
     refine wpL_nil ?_
     refine then_normal ?_
     refine wq_ret ?_
     refine block_ret ?_
     obtain rfl := Option.some.inj H
     exact ret2 hst rfl rfl rfl ⟨rfl, hsh.pick []⟩
   · rw [if_neg c27] at H
     replace c27 := Bool.eq_false_iff.2 c27
     refine wq_condF hst rfl c27 ?_
     refine wq_seq ?_
     refine wq_region_lit (.inl rfl) ?_
     refine r_t hst trivial rfl (x_cmpI (b := (i_7 == 12)) hst rfl rfl rfl) ?_; intro a hst
     refine r_t hst trivial rfl (x_assign hst rfl) ?_; intro a hst
     refine wpL_nil ?_
     refine then_normal ?_
     by_cases c28 : (i_7 == 12) = true
     · rw [if_pos c28] at H
       refine wq_condT hst rfl c28 ?_
       refine wq_seq ?_
       refine wq_region_lit (.inl rfl) ?_
       refine r_t hst trivial rfl (x_move hst rfl) ?_; intro a hst
       refine r_t hst trivial rfl (x_assign hst rfl) ?_; intro a hst
       refine r_t hst trivial rfl (x_assign hst rfl) ?_; intro a hst
       refine wpL_nil ?_
       refine then_normal ?_
       refine wq_ret ?_
       refine block_ret ?_
       obtain rfl := Option.some.inj H
       exact ret2 hst rfl rfl rfl ⟨rfl, hsh.pick []⟩
     · rw [if_neg c28] at H
       replace c28 := Bool.eq_false_iff.2 c28
       refine wq_condF hst rfl c28 ?_
       refine wq_seq ?_
       refine wq_region_lit (.inl rfl) ?_
       refine r_t hst trivial rfl (x_move hst rfl) ?_; intro a hst
       refine r_t hst trivial rfl (x_assign hst rfl) ?_; intro a hst
       refine r_t hst trivial rfl (x_assign hst rfl) ?_; intro a hst
       refine wpL_nil ?_
       refine then_normal ?_
       refine wq_ret ?_
       refine block_ret ?_
       obtain rfl := Option.some.inj H
       exact ret2 hst rfl rfl rfl ⟨rfl, hsh.pick []⟩
 · refine wq_seq ?_
   refine wq_region_lit (.inl rfl) ?_
   refine r_t hst trivial rfl (x_move hst rfl) ?_; intro a hst
   refine r_t hst trivial rfl (x_cmpI (b := decide (8 ≤ (w64 (a2 - a1)))) hst rfl rfl rfl) ?_; intro a hst
   refine wpL_nil ?_
   refine then_normal ?_
   by_cases c29 : (decide (8 ≤ (w64 (a2 - a1)))) = true
   · rw [if_pos c29] at H
     refine wq_condT hst rfl c29 ?_
     obtain ⟨J_16, hJ_16, H⟩ := Jn.elim H
     refine wq_cut (fun a w' => ∃ (i_11 : Int), ∃ (i_12 : Int), ∃ (i_13 : Int), ∃ (i_14 : Int), J_16 i_11 i_12 i_13 i_14 = some r ∧ ST [] Try.f73.ntmps a [(0, va0), (6, .int .i64 0), (7, .int .i64 0), (9, .pointer (some ⟨g1, 0, none⟩)), (10, .int .i64 i_12), (11, .int .i64 i_13), (12, .int .i64 i_14)] ∧ SH (fun _ => False) w w' [Box g1 [.int .i64 i_11] 3]) ?_ ?_
     · rintro a W_15 ⟨i_11, i_12, i_13, i_14, H, hst, hsh⟩
       subst hJ_16
       dsimp only at H
       refine wq_region_lit (.inl rfl) ?_
       refine r_t hst trivial rfl (x_move hst rfl) ?_; intro a hst
       refine r_t hst trivial rfl (x_move hst rfl) ?_; intro a hst
       refine r_t hst trivial rfl (x_move hst rfl) ?_; intro a hst
       refine r_t hst trivial rfl (x_move hst rfl) ?_; intro a hst
       replace hsh := hsh.pick [0]
       obtain ⟨GG42, hsp, hG, hbx, hfx, hk⟩ := SH.callD (L1 := [Box g1 [.int .i64 i_11] 3]) (L2 := []) hsh
       obtain ⟨r40, hr40, H⟩ := Option.bind_eq_some_iff.1 H
       refine r_callD hst trivial rfl fn_87 rfl (slices_medianOrdered_int.calls _ GG42 _ _ _ (Same.sh0 hsa0 hsh) (disj_new hsa0 hG) _ hra0 i_12 i_13 i_14 g1 i_11 hsp r40 hr40) ?_
       rintro e w41 ⟨rfl, hc⟩
       replace hsh := hk _ _ hc
       clear hc
       refine ⟨_, rfl, fun a hst => ?_⟩
       refine r_t hst trivial rfl (x_assign hst rfl) ?_; intro a hst
       refine wpL_nil ?_
       refine then_normal ?_
       exact ⟨r40.2, r40.1, H, hst.keep _ ⟨rfl, rfl, rfl, rfl, trivial⟩, hsh.pick [0]⟩
     · refine wq_seq ?_
       refine wq_region_lit (.inl rfl) ?_
       refine r_t hst trivial rfl (x_move hst rfl) ?_; intro a hst
       refine r_t hst trivial rfl (x_cmpI (b := decide (50 ≤ (w64 (a2 - a1)))) hst rfl rfl rfl) ?_; intro a hst
       refine wpL_nil ?_
       refine then_normal ?_
       by_cases c43 : (decide (50 ≤ (w64 (a2 - a1)))) = true
       · rw [if_pos c43] at H
         refine wq_condT hst rfl c43 ?_
         refine wq_seq ?_
         refine wq_region_lit (.inl rfl) ?_
         refine r_t hst trivial rfl (x_move hst rfl) ?_; intro a hst
         refine r_t hst trivial rfl (x_move hst rfl) ?_; intro a hst
         replace hsh := hsh.pick [0]
         obtain ⟨GG46, hsp, hG, hbx, hfx, hk⟩ := SH.callD (L1 := [Box g1 [.int .i64 0] 3]) (L2 := []) hsh
         obtain ⟨r44, hr44, H⟩ := Option.bind_eq_some_iff.1 H
         refine r_callD hst trivial rfl fn_86 rfl (slices_medianAdjacentOrdered_int.calls _ GG46 _ _ _ (Same.sh0 hsa0 hsh) (disj_new hsa0 hG) _ hra0 (w64 (a1 + (w64 ((w64 (Int.tdiv (w64 (a2 - a1)) 4)) * 1)))) g1 0 hsp r44 hr44) ?_
         rintro e w45 ⟨rfl, hc⟩
         replace hsh := hk _ _ hc
         clear hc
         refine ⟨_, rfl, fun a hst => ?_⟩
         refine r_t hst trivial rfl (x_assign hst rfl) ?_; intro a hst
         refine wpL_nil ?_
         refine then_normal ?_
         refine wq_seq ?_
         refine wq_region_lit (.inl rfl) ?_
         refine r_t hst trivial rfl (x_move hst rfl) ?_; intro a hst
         refine r_t hst trivial rfl (x_move hst rfl) ?_; intro a hst
         replace hsh := hsh.pick [0]
         obtain ⟨GG49, hsp, hG, hbx, hfx, hk⟩ := SH.callD (L1 := [Box g1 [.int .i64 r44.2] 3]) (L2 := []) hsh
         obtain ⟨r47, hr47, H⟩ := Option.bind_eq_some_iff.1 H
         refine r_callD hst trivial rfl fn_86 rfl (slices_medianAdjacentOrdered_int.calls _ GG49 _ _ _ (Same.sh0 hsa0 hsh) (disj_new hsa0 hG) _ hra0 (w64 (a1 + (w64 ((w64 (Int.tdiv (w64 (a2 - a1)) 4)) * 2)))) g1 r44.2 hsp r47 hr47) ?_
         rintro e w48 ⟨rfl, hc⟩
         replace hsh := hk _ _ hc
         clear hc
         refine ⟨_, rfl, fun a hst => ?_⟩
         refine r_t hst trivial rfl (x_assign hst rfl) ?_; intro a hst
         refine wpL_nil ?_
         refine then_normal ?_
         refine wq_region_lit (.inl rfl) ?_
         refine r_t hst trivial rfl (x_move hst rfl) ?_; intro a hst
         refine r_t hst trivial rfl (x_move hst rfl) ?_; intro a hst
         replace hsh := hsh.pick [0]
         obtain ⟨GG52, hsp, hG, hbx, hfx, hk⟩ := SH.callD (L1 := [Box g1 [.int .i64 r47.2] 3]) (L2 := []) hsh
         obtain ⟨r50, hr50, H⟩ := Option.bind_eq_some_iff.1 H
         refine r_callD hst trivial rfl fn_86 rfl (slices_medianAdjacentOrdered_int.calls _ GG52 _ _ _ (Same.sh0 hsa0 hsh) (disj_new hsa0 hG) _ hra0 (w64 (a1 + (w64 ((w64 (Int.tdiv (w64 (a2 - a1)) 4)) * 3)))) g1 r47.2 hsp r50 hr50) ?_
         rintro e w51 ⟨rfl, hc⟩
         replace hsh := hk _ _ hc
         clear hc
         refine ⟨_, rfl, fun a hst => ?_⟩
         refine r_t hst trivial rfl (x_assign hst rfl) ?_; intro a hst
         refine wpL_nil ?_
         refine then_normal ?_
         exact ⟨r50.2, r44.1, r47.1, r50.1, H, hst.keep _ ⟨rfl, rfl, rfl, rfl, rfl, rfl, rfl, trivial⟩, hsh.pick [0]⟩
       · rw [if_neg c43] at H
         replace c43 := Bool.eq_false_iff.2 c43
         refine wq_condF hst rfl c43 ?_
         refine wq_skip ?_
         refine then_normal ?_
         exact ⟨0, (w64 (a1 + (w64 ((w64 (Int.tdiv (w64 (a2 - a1)) 4)) * 1)))), (w64 (a1 + (w64 ((w64 (Int.tdiv (w64 (a2 - a1)) 4)) * 2)))), (w64 (a1 + (w64 ((w64 (Int.tdiv (w64 (a2 - a1)) 4)) * 3)))), H, hst.keep _ ⟨rfl, rfl, rfl, rfl, rfl, rfl, rfl, trivial⟩, hsh.pick [0]⟩
   · rw [if_neg c29] at H
     replace c29 := Bool.eq_false_iff.2 c29
     refine wq_condF hst rfl c29 ?_
     refine wq_skip ?_
     refine then_normal ?_
     exact ⟨0, (w64 (a1 + (w64 ((w64 (Int.tdiv (w64 (a2 - a1)) 4)) * 2)))), H, hst.keep _ ⟨rfl, rfl, rfl, rfl, trivial⟩, hsh.pick [0]⟩

set_option maxHeartbeats 4000000 in
set_option maxRecDepth 100000 in
theorem slices_reverseRangeOrdered_int.calls (k : Nat) (w : World) (GG : Nat → Prop) (va0 : Value) (a0 : (List Int)) (a1 : Int) (a2 : Int) (hsep : Sep GG w [Row (Kd.int .i64) 3 va0 a0]) (r : (List Int)) (h : slices_reverseRangeOrdered_int k a0 a1 a2 = some r) :
    Calls Try.prog 74 ([va0, .int .i64 a1, .int .i64 a2] : List Value).toArray w fun e w' => e = .returned (.tuple #[]) ∧ SH GG w w' [Row (Kd.int .i64) 3 va0 r] := by
 have H := h
 clear h
 unfold slices_reverseRangeOrdered_int at H
 refine calls_enter Try.func74 rfl rfl ?_
 intro a hst
 have hsh := SH.start hsep
 refine wq_seq ?_
 refine wq_region_lit (.inl rfl) ?_
 refine r_t hst trivial rfl (x_move hst rfl) ?_; intro a hst
 refine r_t hst trivial rfl (x_assign hst rfl) ?_; intro a hst
 refine wpL_nil ?_
 refine then_normal ?_
 refine wq_seq ?_
 refine wq_region_lit (.inl rfl) ?_
 refine r_t hst trivial rfl (x_move hst rfl) ?_; intro a hst
 refine r_t hst trivial rfl (x_arI (r := w64 (a2 - 1)) hst rfl rfl rfl) ?_; intro a hst
 refine r_t hst trivial rfl (x_assign hst rfl) ?_; intro a hst
 refine wpL_nil ?_
 refine then_normal ?_
 refine wq_block ?_
 refine wq_loop_fuel (fun k_15 a w' => ∃ (l_7 : (List Int)), ∃ (i_8 : Int), ∃ (i_9 : Int), slices_reverseRangeOrdered_int.l0 k_15 l_7 i_8 i_9 = some r ∧ ST [] Try.f74.ntmps a [(0, va0), (6, .int .i64 i_8), (7, .int .i64 i_9)] ∧ SH GG w w' [Row (Kd.int .i64) 3 va0 l_7]) k ?_ ?_
 · exact ⟨a0, a1, (w64 (a2 - 1)), H, hst.keep _ ⟨rfl, rfl, rfl, trivial⟩, hsh.pick [0]⟩
 · rintro k_15 a W_10 ⟨l_7, i_8, i_9, H, hst, hsh⟩
   cases k_15 with
   | zero => rw [slices_reverseRangeOrdered_int.l0] at H; cases H
   | succ k_15 =>
    rw [slices_reverseRangeOrdered_int.l0] at H
    refine wq_seq ?_
    refine wq_seq ?_
    refine wq_region_lit (.inl rfl) ?_
    refine r_t hst trivial rfl (x_move hst rfl) ?_; intro a hst
    refine r_t hst trivial rfl (x_move hst rfl) ?_; intro a hst
    refine r_t hst trivial rfl (x_cmpI (b := decide (i_8 < i_9)) hst rfl rfl rfl) ?_; intro a hst
    refine wpL_nil ?_
    refine then_normal ?_
    by_cases c28 : (decide (i_8 < i_9)) = true
    · rw [if_pos c28] at H
      refine wq_condT hst rfl c28 ?_
      refine wq_skip ?_
      refine then_normal ?_
      refine wq_block ?_
      refine wq_seq ?_
      have hw28_0 := hsh.row 0 rfl
      refine wq_region_t (.inl rfl) (.fin [(3, 0), (3, 1), (3, 2), (3, 3), (3, 4), (3, 5), (3, 6), (0, 7), (3, 8), (3, 9), (3, 10), (0, 11), (3, 12), (2, 13), (0, 14), (2, 15)]) (fun w' => SH GG w w' []) (fun w' => SH GG w w' [Row (Kd.int .i64) 3 va0 l_7]) (fun w' => SH GG w w' [Row (Kd.int .i64) 3 va0 l_7]) (shut_sh _ _ _) (shut_sh _ _ _) (shut_sh _ _ _) (sub_sh [] rfl) (sub_sh [0] rfl) hsh.drew fo (by kernel_rfl) ?_
      refine t_fin ?_
      refine m_p hst trivial rfl (fun _ => x_move hst rfl) ?_; intro a hst
      refine m_p hst trivial rfl (fun _ => x_move hst rfl) ?_; intro a hst
      refine m_p hst trivial rfl (fun _ => x_move hst rfl) ?_; intro a hst
      refine m_p hst trivial rfl (fun _ => x_move hst rfl) ?_; intro a hst
      refine m_p hst trivial rfl (fun _ => x_move hst rfl) ?_; intro a hst
      refine m_p hst trivial rfl (fun _ => x_move hst rfl) ?_; intro a hst
      obtain ⟨x29, hx29, H⟩ := Option.bind_eq_some_iff.1 H
      refine m_p hst trivial rfl (fun _ => x_indexAddr hst Try.underlying56 el_3 rfl rfl hw28_0 hx29) ?_; intro a hst
      refine m_t hst trivial rfl (fun _ hsh => x_loadEF (j := 0) (cs := [.int .i64 x29]) hst sc_3 rfl (hsh.row 0 rfl) (Same.refl _ _) hx29 rfl (fun _ h => h) rfl) ?_; intro a hst
      refine m_p hst trivial rfl (fun _ => x_move hst rfl) ?_; intro a hst
      refine m_p hst trivial rfl (fun _ => x_move hst rfl) ?_; intro a hst
      obtain ⟨x30, hx30, H⟩ := Option.bind_eq_some_iff.1 H
      refine m_p hst trivial rfl (fun _ => x_indexAddr hst Try.underlying56 el_3 rfl rfl hw28_0 hx30) ?_; intro a hst
      refine m_t hst trivial rfl (fun _ hsh => x_loadEF (j := 0) (cs := [.int .i64 x30]) hst sc_3 rfl (hsh.row 0 rfl) (Same.refl _ _) hx30 rfl (fun _ h => h) rfl) ?_; intro a hst
      obtain ⟨x31, hx31, H⟩ := Option.bind_eq_some_iff.1 H
      refine m_p hst trivial rfl (fun _ => x_indexAddr hst Try.underlying56 el_3 rfl rfl hw28_0 hx31) ?_; intro a hst
      refine m_loud (.inr rfl) ?_
      intro w32 hsh
      obtain ⟨l33, hl33, H⟩ := Option.bind_eq_some_iff.1 H
      refine r_storeE (i := 0) (off := 0) (new := x29) (cs' := [.int .i64 x29]) hst hsh trivial sc_3 rfl rfl rfl hx31 rfl (Nat.le_of_ble_eq_true rfl) rfl (fun _ _ _ h => by rw [h]; rfl) (fun _ _ => rfl) ?_; intro a w34 hsh hst
      rw [← upd_some hl33] at hsh
      refine m_turn hsh (sub_sh [] rfl) ?_
      obtain ⟨x35, hx35, H⟩ := Option.bind_eq_some_iff.1 H
      refine m_t hst trivial rfl (fun _ hsh => x_indexAddr hst Try.underlying56 el_3 rfl rfl (hsh.row 0 rfl) hx35) ?_; intro a hst
      refine m_loud (.inr rfl) ?_
      intro w36 hsh
      obtain ⟨l37, hl37, H⟩ := Option.bind_eq_some_iff.1 H
      refine r_storeE (i := 0) (off := 0) (new := x30) (cs' := [.int .i64 x30]) hst hsh trivial sc_3 rfl rfl rfl hx35 rfl (Nat.le_of_ble_eq_true rfl) rfl (fun _ _ _ h => by rw [h]; rfl) (fun _ _ => rfl) ?_; intro a w38 hsh hst
      rw [← upd_some hl37] at hsh
      refine m_turn hsh (sub_sh [] rfl) ?_
      refine m_nil ?_
      intro w39 hsh
      refine qn_normal ?_
      refine then_normal ?_
      refine wq_seq ?_
      refine wq_region_lit (.inl rfl) ?_
      refine r_t hst trivial rfl (x_move hst rfl) ?_; intro a hst
      refine r_t hst trivial rfl (x_arI (r := w64 (i_8 + 1)) hst rfl rfl rfl) ?_; intro a hst
      refine r_t hst trivial rfl (x_assign hst rfl) ?_; intro a hst
      refine wpL_nil ?_
      refine then_normal ?_
      refine wq_region_lit (.inl rfl) ?_
      refine r_t hst trivial rfl (x_move hst rfl) ?_; intro a hst
      refine r_t hst trivial rfl (x_arI (r := w64 (i_9 - 1)) hst rfl rfl rfl) ?_; intro a hst
      refine r_t hst trivial rfl (x_assign hst rfl) ?_; intro a hst
      refine wpL_nil ?_
      refine block_normal ?_
      refine then_normal ?_
      exact ⟨k_15, Nat.lt_succ_self _, l37, (w64 (i_8 + 1)), (w64 (i_9 - 1)), H, hst.keep _ ⟨rfl, rfl, rfl, trivial⟩, hsh.pick [0]⟩
    · rw [if_neg c28] at H
      replace c28 := Bool.eq_false_iff.2 c28
      refine wq_condF hst rfl c28 ?_
      refine wq_exit ?_
      refine then_exit ?_
      refine then_exit ?_
      refine block_hit ?_
      obtain rfl := Option.some.inj H
      exact end0 hst rfl ⟨rfl, hsh.pick [0]⟩

set_option maxHeartbeats 4000000 in
set_option maxRecDepth 100000 in
theorem slices_partialInsertionSortOrdered_int.calls (k : Nat) (w : World) (GG : Nat → Prop) (va0 : Value) (a0 : (List Int)) (a1 : Int) (a2 : Int) (hsep : Sep GG w [Row (Kd.int .i64) 3 va0 a0]) (r : (Bool × (List Int))) (h : slices_partialInsertionSortOrdered_int k a0 a1 a2 = some r) :
    Calls Try.prog 75 ([va0, .int .i64 a1, .int .i64 a2] : List Value).toArray w fun e w' => e = .returned (.bool r.1) ∧ SH GG w w' [Row (Kd.int .i64) 3 va0 r.2] := by
 have H := h
 clear h
 unfold slices_partialInsertionSortOrdered_int at H
 refine calls_enter Try.func75 rfl rfl ?_
 intro a hst
 have hsh := SH.start hsep
 refine wq_seq ?_
 refine wq_region_lit (.inl rfl) ?_
 refine r_t hst trivial rfl (x_assign hst rfl) ?_; intro a hst
 refine wpL_nil ?_
 refine then_normal ?_
 refine wq_seq ?_
 refine wq_region_lit (.inl rfl) ?_
 refine r_t hst trivial rfl (x_move hst rfl) ?_; intro a hst
 refine r_t hst trivial rfl (x_arI (r := w64 (a1 + 1)) hst rfl rfl rfl) ?_; intro a hst
 refine r_t hst trivial rfl (x_assign hst rfl) ?_; intro a hst
 refine wpL_nil ?_
 refine then_normal ?_
 refine wq_seq ?_
 refine wq_seq ?_
 refine wq_region_lit (.inl rfl) ?_
 refine r_t hst trivial rfl (x_assign hst rfl) ?_; intro a hst
 refine wpL_nil ?_
 refine then_normal ?_
 refine wq_block ?_
 refine wq_loop_fuel (fun k_959 a w' => ∃ (l_765 : (List Int)), ∃ (i_766 : Int), ∃ (i_767 : Int), slices_partialInsertionSortOrdered_int.l0 a1 a2 k_959 l_765 i_766 i_767 = some r ∧ ST [] Try.f75.ntmps a [(0, va0), (1, .int .i64 a1), (2, .int .i64 a2), (6, .bool false), (7, .int .i64 i_766), (8, .int .i64 i_767)] ∧ SH GG w w' [Row (Kd.int .i64) 3 va0 l_765]) k ?_ ?_
 · exact ⟨a0, (w64 (a1 + 1)), 0, H, hst.keep _ ⟨rfl, rfl, rfl, rfl, rfl, rfl, trivial⟩, hsh.pick [0]⟩
 · rintro k_959 a W_768 ⟨l_765, i_766, i_767, H, hst, hsh⟩
   cases k_959 with
   | zero => rw [slices_partialInsertionSortOrdered_int.l0] at H; cases H
   | succ k_959 =>
    rw [slices_partialInsertionSortOrdered_int.l0] at H
    refine wq_seq ?_
    refine wq_seq ?_
    refine wq_region_lit (.inl rfl) ?_
    refine r_t hst trivial rfl (x_move hst rfl) ?_; intro a hst
    refine r_t hst trivial rfl (x_cmpI (b := decide (i_767 < 5)) hst rfl rfl rfl) ?_; intro a hst
    refine wpL_nil ?_
    refine then_normal ?_
    by_cases c5832 : (decide (i_767 < 5)) = true
    · rw [if_pos c5832] at H
      refine wq_condT hst rfl c5832 ?_
      refine wq_skip ?_
      refine then_normal ?_
      obtain ⟨J_1054, hJ_1054, H⟩ := Jn.elim H
      refine wq_cut (fun a w' => ∃ (l_1051 : (List Int)), ∃ (i_1052 : Int), J_1054 l_1051 i_1052 = some r ∧ ST [] Try.f75.ntmps a [(0, va0), (1, .int .i64 a1), (2, .int .i64 a2), (6, .bool false), (7, .int .i64 i_1052), (8, .int .i64 i_767)] ∧ SH GG w w' [Row (Kd.int .i64) 3 va0 l_1051]) ?_ ?_
      · rintro a W_1053 ⟨l_1051, i_1052, H, hst, hsh⟩
        subst hJ_1054
        dsimp only at H
        refine wq_region_lit (.inl rfl) ?_
        refine r_t hst trivial rfl (x_move hst rfl) ?_; intro a hst
        refine r_t hst trivial rfl (x_arI (r := w64 (i_767 + 1)) hst rfl rfl rfl) ?_; intro a hst
        refine r_t hst trivial rfl (x_assign hst rfl) ?_; intro a hst
        refine wpL_nil ?_
        refine then_normal ?_
        exact ⟨k_959, Nat.lt_succ_self _, l_1051, i_1052, (w64 (i_767 + 1)), H, hst.keep _ ⟨rfl, rfl, rfl, rfl, rfl, rfl, trivial⟩, hsh.pick [0]⟩
      · refine wq_block ?_
        obtain ⟨J_1083, hJ_1083, H⟩ := Jn.elim H
        refine wq_cut (fun a w' => ∃ (i_1081 : Int), J_1083 i_1081 = some r ∧ ST [] Try.f75.ntmps a [(0, va0), (1, .int .i64 a1), (2, .int .i64 a2), (6, .bool false), (7, .int .i64 i_1081), (8, .int .i64 i_767)] ∧ SH GG w w' [Row (Kd.int .i64) 3 va0 l_765]) ?_ ?_
        · rintro a W_1082 ⟨i_1081, H, hst, hsh⟩
          subst hJ_1083
          dsimp only at H
          refine wq_seq ?_
          refine wq_seq ?_
          refine wq_region_lit (.inl rfl) ?_
          refine r_t hst trivial rfl (x_move hst rfl) ?_; intro a hst
          refine r_t hst trivial rfl (x_move hst rfl) ?_; intro a hst
          refine r_t hst trivial rfl (x_cmpI (b := (i_1081 == a2)) hst rfl rfl rfl) ?_; intro a hst
          refine wpL_nil ?_
          refine then_normal ?_
          by_cases c6482 : (i_1081 == a2) = true
          · rw [if_pos c6482] at H
            refine wq_condT hst rfl c6482 ?_
            refine wq_seq ?_
            refine wq_region_lit (.inl rfl) ?_
            refine r_t hst trivial rfl (x_assign hst rfl) ?_; intro a hst
            refine wpL_nil ?_
            refine then_normal ?_
            refine wq_ret ?_
            refine then_ret ?_
            refine block_ret ?_
            refine then_ret ?_
            refine then_ret ?_
            refine block_ret ?_
            refine then_ret ?_
            obtain rfl := Option.some.inj H
            exact ret1 hst rfl rfl ⟨rfl, hsh.pick [0]⟩
          · rw [if_neg c6482] at H
            replace c6482 := Bool.eq_false_iff.2 c6482
            refine wq_condF hst rfl c6482 ?_
            refine wq_skip ?_
            refine then_normal ?_
            refine wq_seq ?_
            refine wq_seq ?_
            refine wq_region_lit (.inl rfl) ?_
            refine r_t hst trivial rfl (x_move hst rfl) ?_; intro a hst
            refine r_t hst trivial rfl (x_move hst rfl) ?_; intro a hst
            refine r_t hst trivial rfl (x_arI (r := w64 (a2 - a1)) hst rfl rfl rfl) ?_; intro a hst
            refine r_t hst trivial rfl (x_cmpI (b := decide ((w64 (a2 - a1)) < 50)) hst rfl rfl rfl) ?_; intro a hst
            refine wpL_nil ?_
            refine then_normal ?_
            by_cases c6484 : (decide ((w64 (a2 - a1)) < 50)) = true
            · rw [if_pos c6484] at H
              refine wq_condT hst rfl c6484 ?_
              refine wq_seq ?_
              refine wq_region_lit (.inl rfl) ?_
              refine r_t hst trivial rfl (x_assign hst rfl) ?_; intro a hst
              refine wpL_nil ?_
              refine then_normal ?_
              refine wq_ret ?_
              refine then_ret ?_
              refine block_ret ?_
              refine then_ret ?_
              refine then_ret ?_
              refine block_ret ?_
              refine then_ret ?_
              obtain rfl := Option.some.inj H
              exact ret1 hst rfl rfl ⟨rfl, hsh.pick [0]⟩
            · rw [if_neg c6484] at H
              replace c6484 := Bool.eq_false_iff.2 c6484
              refine wq_condF hst rfl c6484 ?_
              refine wq_skip ?_
              refine then_normal ?_
              refine wq_seq ?_
              have hw6484_0 := hsh.row 0 rfl
              refine wq_region_t (.inl rfl) (.fin [(3, 0), (3, 1), (3, 2), (3, 3), (3, 4), (3, 5), (3, 6), (3, 7), (3, 8), (0, 9), (3, 10), (3, 11), (3, 12), (0, 13), (3, 14), (2, 15), (0, 16), (2, 17)]) (fun w' => SH GG w w' []) (fun w' => SH GG w w' [Row (Kd.int .i64) 3 va0 l_765]) (fun w' => SH GG w w' [Row (Kd.int .i64) 3 va0 l_765]) (shut_sh _ _ _) (shut_sh _ _ _) (shut_sh _ _ _) (sub_sh [] rfl) (sub_sh [0] rfl) hsh.drew fo (by kernel_rfl) ?_
              refine t_fin ?_
              refine m_p hst trivial rfl (fun _ => x_move hst rfl) ?_; intro a hst
              refine m_p hst trivial rfl (fun _ => x_move hst rfl) ?_; intro a hst
              refine m_p hst trivial rfl (fun _ => x_move hst rfl) ?_; intro a hst
              refine m_p hst trivial rfl (fun _ => x_move hst rfl) ?_; intro a hst
              refine m_p hst trivial rfl (fun _ => x_arI (r := w64 (i_1081 - 1)) hst rfl rfl rfl) ?_; intro a hst
              refine m_p hst trivial rfl (fun _ => x_move hst rfl) ?_; intro a hst
              refine m_p hst trivial rfl (fun _ => x_move hst rfl) ?_; intro a hst
              refine m_p hst trivial rfl (fun _ => x_arI (r := w64 (i_1081 - 1)) hst rfl rfl rfl) ?_; intro a hst
              obtain ⟨x6485, hx6485, H⟩ := Option.bind_eq_some_iff.1 H
              refine m_p hst trivial rfl (fun _ => x_indexAddr hst Try.underlying56 el_3 rfl rfl hw6484_0 hx6485) ?_; intro a hst
              refine m_t hst trivial rfl (fun _ hsh => x_loadEF (j := 0) (cs := [.int .i64 x6485]) hst sc_3 rfl (hsh.row 0 rfl) (Same.refl _ _) hx6485 rfl (fun _ h => h) rfl) ?_; intro a hst
              refine m_p hst trivial rfl (fun _ => x_move hst rfl) ?_; intro a hst
              refine m_p hst trivial rfl (fun _ => x_move hst rfl) ?_; intro a hst
              obtain ⟨x6486, hx6486, H⟩ := Option.bind_eq_some_iff.1 H
              refine m_p hst trivial rfl (fun _ => x_indexAddr hst Try.underlying56 el_3 rfl rfl hw6484_0 hx6486) ?_; intro a hst
              refine m_t hst trivial rfl (fun _ hsh => x_loadEF (j := 0) (cs := [.int .i64 x6486]) hst sc_3 rfl (hsh.row 0 rfl) (Same.refl _ _) hx6486 rfl (fun _ h => h) rfl) ?_; intro a hst
              obtain ⟨x6487, hx6487, H⟩ := Option.bind_eq_some_iff.1 H
              refine m_p hst trivial rfl (fun _ => x_indexAddr hst Try.underlying56 el_3 rfl rfl hw6484_0 hx6487) ?_; intro a hst
              refine m_loud (.inr rfl) ?_
              intro w6488 hsh
              obtain ⟨l6489, hl6489, H⟩ := Option.bind_eq_some_iff.1 H
              refine r_storeE (i := 0) (off := 0) (new := x6485) (cs' := [.int .i64 x6485]) hst hsh trivial sc_3 rfl rfl rfl hx6487 rfl (Nat.le_of_ble_eq_true rfl) rfl (fun _ _ _ h => by rw [h]; rfl) (fun _ _ => rfl) ?_; intro a w6490 hsh hst
              rw [← upd_some hl6489] at hsh
              refine m_turn hsh (sub_sh [] rfl) ?_
              obtain ⟨x6491, hx6491, H⟩ := Option.bind_eq_some_iff.1 H
              refine m_t hst trivial rfl (fun _ hsh => x_indexAddr hst Try.underlying56 el_3 rfl rfl (hsh.row 0 rfl) hx6491) ?_; intro a hst
              refine m_loud (.inr rfl) ?_
              intro w6492 hsh
              obtain ⟨l6493, hl6493, H⟩ := Option.bind_eq_some_iff.1 H
              refine r_storeE (i := 0) (off := 0) (new := x6486) (cs' := [.int .i64 x6486]) hst hsh trivial sc_3 rfl rfl rfl hx6491 rfl (Nat.le_of_ble_eq_true rfl) rfl (fun _ _ _ h => by rw [h]; rfl) (fun _ _ => rfl) ?_; intro a w6494 hsh hst
              rw [← upd_some hl6493] at hsh
              refine m_turn hsh (sub_sh [] rfl) ?_
              refine m_nil ?_
              intro w6495 hsh
              refine qn_normal ?_
              refine then_normal ?_
              obtain ⟨J_1097, hJ_1097, H⟩ := Jn.elim H
              refine wq_cut (fun a w' => ∃ (l_1095 : (List Int)), J_1097 l_1095 = some r ∧ ST [] Try.f75.ntmps a [(0, va0), (1, .int .i64 a1), (2, .int .i64 a2), (6, .bool false), (7, .int .i64 i_1081), (8, .int .i64 i_767)] ∧ SH GG w w' [Row (Kd.int .i64) 3 va0 l_1095]) ?_ ?_
              · rintro a W_1096 ⟨l_1095, H, hst, hsh⟩
                subst hJ_1097
                dsimp only at H
                refine wq_seq ?_
                refine wq_region_lit (.inl rfl) ?_
                refine r_t hst trivial rfl (x_move hst rfl) ?_; intro a hst
                refine r_t hst trivial rfl (x_move hst rfl) ?_; intro a hst
                refine r_t hst trivial rfl (x_arI (r := w64 (a2 - i_1081)) hst rfl rfl rfl) ?_; intro a hst
                refine r_t hst trivial rfl (x_cmpI (b := decide (2 ≤ (w64 (a2 - i_1081)))) hst rfl rfl rfl) ?_; intro a hst
                refine wpL_nil ?_
                refine then_normal ?_
                by_cases c6641 : (decide (2 ≤ (w64 (a2 - i_1081)))) = true
                · rw [if_pos c6641] at H
                  refine wq_condT hst rfl c6641 ?_
                  refine wq_seq ?_
                  refine wq_region_lit (.inl rfl) ?_
                  refine r_t hst trivial rfl (x_move hst rfl) ?_; intro a hst
                  refine r_t hst trivial rfl (x_arI (r := w64 (i_1081 + 1)) hst rfl rfl rfl) ?_; intro a hst
                  refine r_t hst trivial rfl (x_assign hst rfl) ?_; intro a hst
                  refine wpL_nil ?_
                  refine then_normal ?_
                  refine wq_block ?_
                  refine wq_loop_fuel (fun k_1108 a w' => ∃ (l_1102 : (List Int)), ∃ (i_1103 : Int), slices_partialInsertionSortOrdered_int.l1 a2 J_1054 i_1081 k_1108 l_1102 i_1103 = some r ∧ ST [] Try.f75.ntmps a [(0, va0), (1, .int .i64 a1), (2, .int .i64 a2), (6, .bool false), (7, .int .i64 i_1081), (8, .int .i64 i_767), (10, .int .i64 i_1103)] ∧ SH GG w w' [Row (Kd.int .i64) 3 va0 l_1102]) k_959 ?_ ?_
                  · exact ⟨l_1095, (w64 (i_1081 + 1)), H, hst.keep _ ⟨rfl, rfl, rfl, rfl, rfl, rfl, rfl, trivial⟩, hsh.pick [0]⟩
                  · rintro k_1108 a W_1104 ⟨l_1102, i_1103, H, hst, hsh⟩
                    cases k_1108 with
                    | zero => rw [slices_partialInsertionSortOrdered_int.l1] at H; cases H
                    | succ k_1108 =>
                     rw [slices_partialInsertionSortOrdered_int.l1] at H
                     refine wq_seq ?_
                     refine wq_seq ?_
                     refine wq_region_lit (.inl rfl) ?_
                     refine r_t hst trivial rfl (x_move hst rfl) ?_; intro a hst
                     refine r_t hst trivial rfl (x_move hst rfl) ?_; intro a hst
                     refine r_t hst trivial rfl (x_cmpI (b := decide (i_1103 < a2)) hst rfl rfl rfl) ?_; intro a hst
                     refine wpL_nil ?_
                     refine then_normal ?_
                     by_cases c6739 : (decide (i_1103 < a2)) = true
                     · rw [if_pos c6739] at H
                       refine wq_condT hst rfl c6739 ?_
                       refine wq_skip ?_
                       refine then_normal ?_
                       refine wq_seq ?_
                       refine wq_block ?_
                       refine wq_seq ?_
                       refine wq_seq ?_
                       refine wq_region_q (.inl rfl) (fun w' => SH GG w w' [Row (Kd.int .i64) 3 va0 l_1102]) (shut_sh _ _ _) hsh.drew fo (by kernel_rfl) ?_
                       refine q_t hst trivial rfl (fun _ hsh => x_move hst rfl) ?_; intro a hst
                       refine q_t hst trivial rfl (fun _ hsh => x_move hst rfl) ?_; intro a hst
                       obtain ⟨x6769, hx6769, H⟩ := Option.bind_eq_some_iff.1 H
                       refine q_t hst trivial rfl (fun _ hsh => x_indexAddr hst Try.underlying56 el_3 rfl rfl (hsh.row 0 rfl) hx6769) ?_; intro a hst
                       refine q_t hst trivial rfl (fun _ hsh => x_loadEF (j := 0) (cs := [.int .i64 x6769]) hst sc_3 rfl (hsh.row 0 rfl) (Same.refl _ _) hx6769 rfl (fun _ h => h) rfl) ?_; intro a hst
                       refine q_t hst trivial rfl (fun _ hsh => x_move hst rfl) ?_; intro a hst
                       refine q_t hst trivial rfl (fun _ hsh => x_move hst rfl) ?_; intro a hst
                       refine q_t hst trivial rfl (fun _ hsh => x_arI (r := w64 (i_1103 - 1)) hst rfl rfl rfl) ?_; intro a hst
                       obtain ⟨x6770, hx6770, H⟩ := Option.bind_eq_some_iff.1 H
                       refine q_t hst trivial rfl (fun _ hsh => x_indexAddr hst Try.underlying56 el_3 rfl rfl (hsh.row 0 rfl) hx6770) ?_; intro a hst
                       refine q_t hst trivial rfl (fun _ hsh => x_loadEF (j := 0) (cs := [.int .i64 x6770]) hst sc_3 rfl (hsh.row 0 rfl) (Same.refl _ _) hx6770 rfl (fun _ h => h) rfl) ?_; intro a hst
                       obtain ⟨r6771, hr6771, H⟩ := Option.bind_eq_some_iff.1 H
                       refine q_call hst trivial rfl fn_76 rfl (fun w9 hsh => cmp_Less_int.calls _ x6769 x6770 r6771 hr6771) ?_; intro a hst
                       refine q_t hst trivial rfl (fun _ hsh => x_notB hst rfl) ?_; intro a hst
                       refine q_nil ?_
                       intro w6773 hsh
                       refine then_normal ?_
                       by_cases c6774 : (!r6771) = true
                       · rw [if_pos c6774] at H
                         refine wq_condT hst rfl c6774 ?_
                         refine wq_exit ?_
                         refine then_exit ?_
                         refine block_miss rfl ?_
                         refine then_exit ?_
                         refine then_exit ?_
                         refine block_hit ?_
                         refine block_normal ?_
                         refine then_normal ?_
                         exact ⟨l_1102, i_1081, H, hst.keep _ ⟨rfl, rfl, rfl, rfl, rfl, rfl, trivial⟩, hsh.pick [0]⟩
                       · rw [if_neg c6774] at H
                         replace c6774 := Bool.eq_false_iff.2 c6774
                         refine wq_condF hst rfl c6774 ?_
                         refine wq_skip ?_
                         refine then_normal ?_
                         have hw6774_0 := hsh.row 0 rfl
                         refine wq_region_t (.inl rfl) (.fin [(3, 0), (3, 1), (3, 2), (3, 3), (3, 4), (3, 5), (3, 6), (3, 7), (3, 8), (0, 9), (3, 10), (3, 11), (3, 12), (0, 13), (3, 14), (2, 15), (0, 16), (2, 17)]) (fun w' => SH GG w w' []) (fun w' => SH GG w w' [Row (Kd.int .i64) 3 va0 l_1102]) (fun w' => SH GG w w' [Row (Kd.int .i64) 3 va0 l_1102]) (shut_sh _ _ _) (shut_sh _ _ _) (shut_sh _ _ _) (sub_sh [] rfl) (sub_sh [0] rfl) hsh.drew fo (by kernel_rfl) ?_
                         refine t_fin ?_
                         refine m_p hst trivial rfl (fun _ => x_move hst rfl) ?_; intro a hst
                         refine m_p hst trivial rfl (fun _ => x_move hst rfl) ?_; intro a hst
                         refine m_p hst trivial rfl (fun _ => x_move hst rfl) ?_; intro a hst
                         refine m_p hst trivial rfl (fun _ => x_move hst rfl) ?_; intro a hst
                         refine m_p hst trivial rfl (fun _ => x_arI (r := w64 (i_1103 - 1)) hst rfl rfl rfl) ?_; intro a hst
                         refine m_p hst trivial rfl (fun _ => x_move hst rfl) ?_; intro a hst
                         refine m_p hst trivial rfl (fun _ => x_move hst rfl) ?_; intro a hst
                         refine m_p hst trivial rfl (fun _ => x_arI (r := w64 (i_1103 - 1)) hst rfl rfl rfl) ?_; intro a hst
                         obtain ⟨x6775, hx6775, H⟩ := Option.bind_eq_some_iff.1 H
                         refine m_p hst trivial rfl (fun _ => x_indexAddr hst Try.underlying56 el_3 rfl rfl hw6774_0 hx6775) ?_; intro a hst
                         refine m_t hst trivial rfl (fun _ hsh => x_loadEF (j := 0) (cs := [.int .i64 x6775]) hst sc_3 rfl (hsh.row 0 rfl) (Same.refl _ _) hx6775 rfl (fun _ h => h) rfl) ?_; intro a hst
                         refine m_p hst trivial rfl (fun _ => x_move hst rfl) ?_; intro a hst
                         refine m_p hst trivial rfl (fun _ => x_move hst rfl) ?_; intro a hst
                         obtain ⟨x6776, hx6776, H⟩ := Option.bind_eq_some_iff.1 H
                         refine m_p hst trivial rfl (fun _ => x_indexAddr hst Try.underlying56 el_3 rfl rfl hw6774_0 hx6776) ?_; intro a hst
                         refine m_t hst trivial rfl (fun _ hsh => x_loadEF (j := 0) (cs := [.int .i64 x6776]) hst sc_3 rfl (hsh.row 0 rfl) (Same.refl _ _) hx6776 rfl (fun _ h => h) rfl) ?_; intro a hst
                         obtain ⟨x6777, hx6777, H⟩ := Option.bind_eq_some_iff.1 H
                         refine m_p hst trivial rfl (fun _ => x_indexAddr hst Try.underlying56 el_3 rfl rfl hw6774_0 hx6777) ?_; intro a hst
                         refine m_loud (.inr rfl) ?_
                         intro w6778 hsh
                         obtain ⟨l6779, hl6779, H⟩ := Option.bind_eq_some_iff.1 H
                         refine r_storeE (i := 0) (off := 0) (new := x6775) (cs' := [.int .i64 x6775]) hst hsh trivial sc_3 rfl rfl rfl hx6777 rfl (Nat.le_of_ble_eq_true rfl) rfl (fun _ _ _ h => by rw [h]; rfl) (fun _ _ => rfl) ?_; intro a w6780 hsh hst
                         rw [← upd_some hl6779] at hsh
                         refine m_turn hsh (sub_sh [] rfl) ?_
                         obtain ⟨x6781, hx6781, H⟩ := Option.bind_eq_some_iff.1 H
                         refine m_t hst trivial rfl (fun _ hsh => x_indexAddr hst Try.underlying56 el_3 rfl rfl (hsh.row 0 rfl) hx6781) ?_; intro a hst
                         refine m_loud (.inr rfl) ?_
                         intro w6782 hsh
                         obtain ⟨l6783, hl6783, H⟩ := Option.bind_eq_some_iff.1 H
                         refine r_storeE (i := 0) (off := 0) (new := x6776) (cs' := [.int .i64 x6776]) hst hsh trivial sc_3 rfl rfl rfl hx6781 rfl (Nat.le_of_ble_eq_true rfl) rfl (fun _ _ _ h => by rw [h]; rfl) (fun _ _ => rfl) ?_; intro a w6784 hsh hst
                         rw [← upd_some hl6783] at hsh
                         refine m_turn hsh (sub_sh [] rfl) ?_
                         refine m_nil ?_
                         intro w6785 hsh
                         refine qn_normal ?_
                         refine block_normal ?_
                         refine then_normal ?_
                         refine wq_region_lit (.inl rfl) ?_
                         refine r_t hst trivial rfl (x_move hst rfl) ?_; intro a hst
                         refine r_t hst trivial rfl (x_arI (r := w64 (i_1103 + 1)) hst rfl rfl rfl) ?_; intro a hst
                         refine r_t hst trivial rfl (x_assign hst rfl) ?_; intro a hst
                         refine wpL_nil ?_
                         refine then_normal ?_
                         exact ⟨k_1108, Nat.lt_succ_self _, l6783, (w64 (i_1103 + 1)), H, hst.keep _ ⟨rfl, rfl, rfl, rfl, rfl, rfl, rfl, trivial⟩, hsh.pick [0]⟩
                     · rw [if_neg c6739] at H
                       replace c6739 := Bool.eq_false_iff.2 c6739
                       refine wq_condF hst rfl c6739 ?_
                       refine wq_exit ?_
                       refine then_exit ?_
                       refine then_exit ?_
                       refine block_hit ?_
                       refine block_normal ?_
                       refine then_normal ?_
                       exact ⟨l_1102, i_1081, H, hst.keep _ ⟨rfl, rfl, rfl, rfl, rfl, rfl, trivial⟩, hsh.pick [0]⟩
                · rw [if_neg c6641] at H
                  replace c6641 := Bool.eq_false_iff.2 c6641
                  refine wq_condF hst rfl c6641 ?_
                  refine wq_skip ?_
                  refine block_normal ?_
                  refine then_normal ?_
                  exact ⟨l_1095, i_1081, H, hst.keep _ ⟨rfl, rfl, rfl, rfl, rfl, rfl, trivial⟩, hsh.pick [0]⟩
              · refine wq_seq ?_
                refine wq_region_lit (.inl rfl) ?_
                refine r_t hst trivial rfl (x_move hst rfl) ?_; intro a hst
                refine r_t hst trivial rfl (x_move hst rfl) ?_; intro a hst
                refine r_t hst trivial rfl (x_arI (r := w64 (i_1081 - a1)) hst rfl rfl rfl) ?_; intro a hst
                refine r_t hst trivial rfl (x_cmpI (b := decide (2 ≤ (w64 (i_1081 - a1)))) hst rfl rfl rfl) ?_; intro a hst
                refine wpL_nil ?_
                refine then_normal ?_
                by_cases c6786 : (decide (2 ≤ (w64 (i_1081 - a1)))) = true
                · rw [if_pos c6786] at H
                  refine wq_condT hst rfl c6786 ?_
                  refine wq_seq ?_
                  refine wq_region_lit (.inl rfl) ?_
                  refine r_t hst trivial rfl (x_move hst rfl) ?_; intro a hst
                  refine r_t hst trivial rfl (x_arI (r := w64 (i_1081 - 1)) hst rfl rfl rfl) ?_; intro a hst
                  refine r_t hst trivial rfl (x_assign hst rfl) ?_; intro a hst
                  refine wpL_nil ?_
                  refine then_normal ?_
                  refine wq_block ?_
                  refine wq_loop_fuel (fun k_1119 a w' => ∃ (l_1113 : (List Int)), ∃ (i_1114 : Int), slices_partialInsertionSortOrdered_int.l2 J_1097 k_1119 l_1113 i_1114 = some r ∧ ST [] Try.f75.ntmps a [(0, va0), (1, .int .i64 a1), (2, .int .i64 a2), (6, .bool false), (7, .int .i64 i_1081), (8, .int .i64 i_767), (9, .int .i64 i_1114)] ∧ SH GG w w' [Row (Kd.int .i64) 3 va0 l_1113]) k_959 ?_ ?_
                  · exact ⟨l6493, (w64 (i_1081 - 1)), H, hst.keep _ ⟨rfl, rfl, rfl, rfl, rfl, rfl, rfl, trivial⟩, hsh.pick [0]⟩
                  · rintro k_1119 a W_1115 ⟨l_1113, i_1114, H, hst, hsh⟩
                    cases k_1119 with
                    | zero => rw [slices_partialInsertionSortOrdered_int.l2] at H; cases H
                    | succ k_1119 =>
                     rw [slices_partialInsertionSortOrdered_int.l2] at H
                     refine wq_seq ?_
                     refine wq_seq ?_
                     refine wq_region_lit (.inl rfl) ?_
                     refine r_t hst trivial rfl (x_move hst rfl) ?_; intro a hst
                     refine r_t hst trivial rfl (x_cmpI (b := decide (1 ≤ i_1114)) hst rfl rfl rfl) ?_; intro a hst
                     refine wpL_nil ?_
                     refine then_normal ?_
                     by_cases c6884 : (decide (1 ≤ i_1114)) = true
                     · rw [if_pos c6884] at H
                       refine wq_condT hst rfl c6884 ?_
                       refine wq_skip ?_
                       refine then_normal ?_
                       refine wq_seq ?_
                       refine wq_block ?_
                       refine wq_seq ?_
                       refine wq_seq ?_
                       refine wq_region_q (.inl rfl) (fun w' => SH GG w w' [Row (Kd.int .i64) 3 va0 l_1113]) (shut_sh _ _ _) hsh.drew fo (by kernel_rfl) ?_
                       refine q_t hst trivial rfl (fun _ hsh => x_move hst rfl) ?_; intro a hst
                       refine q_t hst trivial rfl (fun _ hsh => x_move hst rfl) ?_; intro a hst
                       obtain ⟨x6914, hx6914, H⟩ := Option.bind_eq_some_iff.1 H
                       refine q_t hst trivial rfl (fun _ hsh => x_indexAddr hst Try.underlying56 el_3 rfl rfl (hsh.row 0 rfl) hx6914) ?_; intro a hst
                       refine q_t hst trivial rfl (fun _ hsh => x_loadEF (j := 0) (cs := [.int .i64 x6914]) hst sc_3 rfl (hsh.row 0 rfl) (Same.refl _ _) hx6914 rfl (fun _ h => h) rfl) ?_; intro a hst
                       refine q_t hst trivial rfl (fun _ hsh => x_move hst rfl) ?_; intro a hst
                       refine q_t hst trivial rfl (fun _ hsh => x_move hst rfl) ?_; intro a hst
                       refine q_t hst trivial rfl (fun _ hsh => x_arI (r := w64 (i_1114 - 1)) hst rfl rfl rfl) ?_; intro a hst
                       obtain ⟨x6915, hx6915, H⟩ := Option.bind_eq_some_iff.1 H
                       refine q_t hst trivial rfl (fun _ hsh => x_indexAddr hst Try.underlying56 el_3 rfl rfl (hsh.row 0 rfl) hx6915) ?_; intro a hst
                       refine q_t hst trivial rfl (fun _ hsh => x_loadEF (j := 0) (cs := [.int .i64 x6915]) hst sc_3 rfl (hsh.row 0 rfl) (Same.refl _ _) hx6915 rfl (fun _ h => h) rfl) ?_; intro a hst
                       obtain ⟨r6916, hr6916, H⟩ := Option.bind_eq_some_iff.1 H
                       refine q_call hst trivial rfl fn_76 rfl (fun w9 hsh => cmp_Less_int.calls _ x6914 x6915 r6916 hr6916) ?_; intro a hst
                       refine q_t hst trivial rfl (fun _ hsh => x_notB hst rfl) ?_; intro a hst
                       refine q_nil ?_
                       intro w6918 hsh
                       refine then_normal ?_
                       by_cases c6919 : (!r6916) = true
                       · rw [if_pos c6919] at H
                         refine wq_condT hst rfl c6919 ?_
                         refine wq_exit ?_
                         refine then_exit ?_
                         refine block_miss rfl ?_
                         refine then_exit ?_
                         refine then_exit ?_
                         refine block_hit ?_
                         refine then_normal ?_
                         exact ⟨l_1113, H, hst.keep _ ⟨rfl, rfl, rfl, rfl, rfl, rfl, trivial⟩, hsh.pick [0]⟩
                       · rw [if_neg c6919] at H
                         replace c6919 := Bool.eq_false_iff.2 c6919
                         refine wq_condF hst rfl c6919 ?_
                         refine wq_skip ?_
                         refine then_normal ?_
                         have hw6919_0 := hsh.row 0 rfl
                         refine wq_region_t (.inl rfl) (.fin [(3, 0), (3, 1), (3, 2), (3, 3), (3, 4), (3, 5), (3, 6), (3, 7), (3, 8), (0, 9), (3, 10), (3, 11), (3, 12), (0, 13), (3, 14), (2, 15), (0, 16), (2, 17)]) (fun w' => SH GG w w' []) (fun w' => SH GG w w' [Row (Kd.int .i64) 3 va0 l_1113]) (fun w' => SH GG w w' [Row (Kd.int .i64) 3 va0 l_1113]) (shut_sh _ _ _) (shut_sh _ _ _) (shut_sh _ _ _) (sub_sh [] rfl) (sub_sh [0] rfl) hsh.drew fo (by kernel_rfl) ?_
                         refine t_fin ?_
                         refine m_p hst trivial rfl (fun _ => x_move hst rfl) ?_; intro a hst
                         refine m_p hst trivial rfl (fun _ => x_move hst rfl) ?_; intro a hst
                         refine m_p hst trivial rfl (fun _ => x_move hst rfl) ?_; intro a hst
                         refine m_p hst trivial rfl (fun _ => x_move hst rfl) ?_; intro a hst
                         refine m_p hst trivial rfl (fun _ => x_arI (r := w64 (i_1114 - 1)) hst rfl rfl rfl) ?_; intro a hst
                         refine m_p hst trivial rfl (fun _ => x_move hst rfl) ?_; intro a hst
                         refine m_p hst trivial rfl (fun _ => x_move hst rfl) ?_; intro a hst
                         refine m_p hst trivial rfl (fun _ => x_arI (r := w64 (i_1114 - 1)) hst rfl rfl rfl) ?_; intro a hst
                         obtain ⟨x6920, hx6920, H⟩ := Option.bind_eq_some_iff.1 H
                         refine m_p hst trivial rfl (fun _ => x_indexAddr hst Try.underlying56 el_3 rfl rfl hw6919_0 hx6920) ?_; intro a hst
                         refine m_t hst trivial rfl (fun _ hsh => x_loadEF (j := 0) (cs := [.int .i64 x6920]) hst sc_3 rfl (hsh.row 0 rfl) (Same.refl _ _) hx6920 rfl (fun _ h => h) rfl) ?_; intro a hst
                         refine m_p hst trivial rfl (fun _ => x_move hst rfl) ?_; intro a hst
                         refine m_p hst trivial rfl (fun _ => x_move hst rfl) ?_; intro a hst
                         obtain ⟨x6921, hx6921, H⟩ := Option.bind_eq_some_iff.1 H
                         refine m_p hst trivial rfl (fun _ => x_indexAddr hst Try.underlying56 el_3 rfl rfl hw6919_0 hx6921) ?_; intro a hst
                         refine m_t hst trivial rfl (fun _ hsh => x_loadEF (j := 0) (cs := [.int .i64 x6921]) hst sc_3 rfl (hsh.row 0 rfl) (Same.refl _ _) hx6921 rfl (fun _ h => h) rfl) ?_; intro a hst
                         obtain ⟨x6922, hx6922, H⟩ := Option.bind_eq_some_iff.1 H
                         refine m_p hst trivial rfl (fun _ => x_indexAddr hst Try.underlying56 el_3 rfl rfl hw6919_0 hx6922) ?_; intro a hst
                         refine m_loud (.inr rfl) ?_
                         intro w6923 hsh
                         obtain ⟨l6924, hl6924, H⟩ := Option.bind_eq_some_iff.1 H
                         refine r_storeE (i := 0) (off := 0) (new := x6920) (cs' := [.int .i64 x6920]) hst hsh trivial sc_3 rfl rfl rfl hx6922 rfl (Nat.le_of_ble_eq_true rfl) rfl (fun _ _ _ h => by rw [h]; rfl) (fun _ _ => rfl) ?_; intro a w6925 hsh hst
                         rw [← upd_some hl6924] at hsh
                         refine m_turn hsh (sub_sh [] rfl) ?_
                         obtain ⟨x6926, hx6926, H⟩ := Option.bind_eq_some_iff.1 H
                         refine m_t hst trivial rfl (fun _ hsh => x_indexAddr hst Try.underlying56 el_3 rfl rfl (hsh.row 0 rfl) hx6926) ?_; intro a hst
                         refine m_loud (.inr rfl) ?_
                         intro w6927 hsh
                         obtain ⟨l6928, hl6928, H⟩ := Option.bind_eq_some_iff.1 H
                         refine r_storeE (i := 0) (off := 0) (new := x6921) (cs' := [.int .i64 x6921]) hst hsh trivial sc_3 rfl rfl rfl hx6926 rfl (Nat.le_of_ble_eq_true rfl) rfl (fun _ _ _ h => by rw [h]; rfl) (fun _ _ => rfl) ?_; intro a w6929 hsh hst
                         rw [← upd_some hl6928] at hsh
                         refine m_turn hsh (sub_sh [] rfl) ?_
                         refine m_nil ?_
                         intro w6930 hsh
                         refine qn_normal ?_
                         refine block_normal ?_
                         refine then_normal ?_
                         refine wq_region_lit (.inl rfl) ?_
                         refine r_t hst trivial rfl (x_move hst rfl) ?_; intro a hst
                         refine r_t hst trivial rfl (x_arI (r := w64 (i_1114 - 1)) hst rfl rfl rfl) ?_; intro a hst
                         refine r_t hst trivial rfl (x_assign hst rfl) ?_; intro a hst
                         refine wpL_nil ?_
                         refine then_normal ?_
                         exact ⟨k_1119, Nat.lt_succ_self _, l6928, (w64 (i_1114 - 1)), H, hst.keep _ ⟨rfl, rfl, rfl, rfl, rfl, rfl, rfl, trivial⟩, hsh.pick [0]⟩
                     · rw [if_neg c6884] at H
                       replace c6884 := Bool.eq_false_iff.2 c6884
                       refine wq_condF hst rfl c6884 ?_
                       refine wq_exit ?_
                       refine then_exit ?_
                       refine then_exit ?_
                       refine block_hit ?_
                       refine then_normal ?_
                       exact ⟨l_1113, H, hst.keep _ ⟨rfl, rfl, rfl, rfl, rfl, rfl, trivial⟩, hsh.pick [0]⟩
                · rw [if_neg c6786] at H
                  replace c6786 := Bool.eq_false_iff.2 c6786
                  refine wq_condF hst rfl c6786 ?_
                  refine wq_skip ?_
                  refine then_normal ?_
                  exact ⟨l6493, H, hst.keep _ ⟨rfl, rfl, rfl, rfl, rfl, rfl, trivial⟩, hsh.pick [0]⟩
        · refine wq_block ?_
          refine wq_loop_fuel (fun k_1139 a w' => ∃ (i_1129 : Int), slices_partialInsertionSortOrdered_int.l3 a2 l_765 J_1083 k_1139 i_1129 = some r ∧ ST [] Try.f75.ntmps a [(0, va0), (1, .int .i64 a1), (2, .int .i64 a2), (6, .bool false), (7, .int .i64 i_1129), (8, .int .i64 i_767)] ∧ SH GG w w' [Row (Kd.int .i64) 3 va0 l_765]) k_959 ?_ ?_
          · exact ⟨i_766, H, hst.keep _ ⟨rfl, rfl, rfl, rfl, rfl, rfl, trivial⟩, hsh.pick [0]⟩
          · rintro k_1139 a W_1130 ⟨i_1129, H, hst, hsh⟩
            cases k_1139 with
            | zero => rw [slices_partialInsertionSortOrdered_int.l3] at H; cases H
            | succ k_1139 =>
             rw [slices_partialInsertionSortOrdered_int.l3] at H
             refine wq_seq ?_
             refine wq_seq ?_
             refine wq_region_q (.inl rfl) (fun w' => SH GG w w' [Row (Kd.int .i64) 3 va0 l_765]) (shut_sh _ _ _) hsh.drew fo (by kernel_rfl) ?_
             refine q_t hst trivial rfl (fun _ hsh => x_move hst rfl) ?_; intro a hst
             refine q_t hst trivial rfl (fun _ hsh => x_move hst rfl) ?_; intro a hst
             refine q_t hst trivial rfl (fun _ hsh => x_cmpI (b := decide (i_1129 < a2)) hst rfl rfl rfl) ?_; intro a hst
             refine q_t hst trivial rfl (fun _ hsh => x_move hst rfl) ?_; intro a hst
             obtain ⟨J_1144, hJ_1144, H⟩ := Jn.elim H
             refine q_join 16 (fun a => ∃ (b_1143 : Bool), J_1144 b_1143 = some r ∧ ST [] Try.f75.ntmps a [(0, va0), (1, .int .i64 a1), (2, .int .i64 a2), (6, .bool false), (7, .int .i64 i_1129), (8, .int .i64 i_767), (32, .bool b_1143)]) ?_ ?_
             · rintro a ⟨b_1143, H, hst⟩
               subst hJ_1144
               dsimp only at H
               refine q_nil ?_
               intro w6991 hsh
               refine then_normal ?_
               by_cases c6992 : b_1143 = true
               · rw [if_pos c6992] at H
                 refine wq_condT hst rfl c6992 ?_
                 refine wq_skip ?_
                 refine then_normal ?_
                 refine wq_block ?_
                 refine wq_region_lit (.inl rfl) ?_
                 refine r_t hst trivial rfl (x_move hst rfl) ?_; intro a hst
                 refine r_t hst trivial rfl (x_arI (r := w64 (i_1129 + 1)) hst rfl rfl rfl) ?_; intro a hst
                 refine r_t hst trivial rfl (x_assign hst rfl) ?_; intro a hst
                 refine wpL_nil ?_
                 refine block_normal ?_
                 refine then_normal ?_
                 exact ⟨k_1139, Nat.lt_succ_self _, (w64 (i_1129 + 1)), H, hst.keep _ ⟨rfl, rfl, rfl, rfl, rfl, rfl, trivial⟩, hsh.pick [0]⟩
               · rw [if_neg c6992] at H
                 replace c6992 := Bool.eq_false_iff.2 c6992
                 refine wq_condF hst rfl c6992 ?_
                 refine wq_exit ?_
                 refine then_exit ?_
                 refine then_exit ?_
                 refine block_hit ?_
                 refine then_normal ?_
                 exact ⟨i_1129, H, hst.keep _ ⟨rfl, rfl, rfl, rfl, rfl, rfl, trivial⟩, hsh.pick [0]⟩
             · intro hj
               by_cases c6986 : (decide (i_1129 < a2)) = true
               · rw [if_pos c6986] at H
                 refine q_t hst (wt_of 20 rfl rfl c6986) rfl (fun _ hsh => x_move hst rfl) ?_; intro a hst
                 refine q_t hst (wt_of 20 rfl rfl c6986) rfl (fun _ hsh => x_move hst rfl) ?_; intro a hst
                 obtain ⟨x6993, hx6993, H⟩ := Option.bind_eq_some_iff.1 H
                 refine q_t hst (wt_of 20 rfl rfl c6986) rfl (fun _ hsh => x_indexAddr hst Try.underlying56 el_3 rfl rfl (hsh.row 0 rfl) hx6993) ?_; intro a hst
                 refine q_t hst (wt_of 20 rfl rfl c6986) rfl (fun _ hsh => x_loadEF (j := 0) (cs := [.int .i64 x6993]) hst sc_3 rfl (hsh.row 0 rfl) (Same.refl _ _) hx6993 rfl (fun _ h => h) rfl) ?_; intro a hst
                 refine q_t hst (wt_of 20 rfl rfl c6986) rfl (fun _ hsh => x_move hst rfl) ?_; intro a hst
                 refine q_t hst (wt_of 20 rfl rfl c6986) rfl (fun _ hsh => x_move hst rfl) ?_; intro a hst
                 refine q_t hst (wt_of 20 rfl rfl c6986) rfl (fun _ hsh => x_arI (r := w64 (i_1129 - 1)) hst rfl rfl rfl) ?_; intro a hst
                 obtain ⟨x6994, hx6994, H⟩ := Option.bind_eq_some_iff.1 H
                 refine q_t hst (wt_of 20 rfl rfl c6986) rfl (fun _ hsh => x_indexAddr hst Try.underlying56 el_3 rfl rfl (hsh.row 0 rfl) hx6994) ?_; intro a hst
                 refine q_t hst (wt_of 20 rfl rfl c6986) rfl (fun _ hsh => x_loadEF (j := 0) (cs := [.int .i64 x6994]) hst sc_3 rfl (hsh.row 0 rfl) (Same.refl _ _) hx6994 rfl (fun _ h => h) rfl) ?_; intro a hst
                 obtain ⟨r6995, hr6995, H⟩ := Option.bind_eq_some_iff.1 H
                 refine q_call hst (wt_of 20 rfl rfl c6986) rfl fn_76 rfl (fun w9 hsh => cmp_Less_int.calls _ x6993 x6994 r6995 hr6995) ?_; intro a hst
                 refine q_t hst (wt_of 20 rfl rfl c6986) rfl (fun _ hsh => x_notB hst rfl) ?_; intro a hst
                 refine q_t hst trivial rfl (fun _ hsh => x_pickT hst rfl c6986 rfl) ?_; intro a hst
                 exact hj _ ⟨(!r6995), H, hst.keep _ ⟨rfl, rfl, rfl, rfl, rfl, rfl, rfl, trivial⟩⟩
               · rw [if_neg c6986] at H
                 replace c6986 := Bool.eq_false_iff.2 c6986
                 refine q_not hst 20 rfl rfl c6986 rfl ?_; intro a hst
                 refine q_not hst 20 rfl rfl c6986 rfl ?_; intro a hst
                 refine q_not hst 20 rfl rfl c6986 rfl ?_; intro a hst
                 refine q_not hst 20 rfl rfl c6986 rfl ?_; intro a hst
                 refine q_not hst 20 rfl rfl c6986 rfl ?_; intro a hst
                 refine q_not hst 20 rfl rfl c6986 rfl ?_; intro a hst
                 refine q_not hst 20 rfl rfl c6986 rfl ?_; intro a hst
                 refine q_not hst 20 rfl rfl c6986 rfl ?_; intro a hst
                 refine q_not hst 20 rfl rfl c6986 rfl ?_; intro a hst
                 refine q_not hst 20 rfl rfl c6986 rfl ?_; intro a hst
                 refine q_not hst 20 rfl rfl c6986 rfl ?_; intro a hst
                 refine q_t hst trivial rfl (fun _ hsh => x_pickF hst rfl c6986 rfl) ?_; intro a hst
                 exact hj _ ⟨false, H, hst.keep _ ⟨rfl, rfl, rfl, rfl, rfl, rfl, rfl, trivial⟩⟩
    · rw [if_neg c5832] at H
      replace c5832 := Bool.eq_false_iff.2 c5832
      refine wq_condF hst rfl c5832 ?_
      refine wq_exit ?_
      refine then_exit ?_
      refine then_exit ?_
      refine block_hit ?_
      refine then_normal ?_
      refine wq_seq ?_
      refine wq_region_lit (.inl rfl) ?_
      refine r_t hst trivial rfl (x_assign hst rfl) ?_; intro a hst
      refine wpL_nil ?_
      refine then_normal ?_
      refine wq_ret ?_
      obtain rfl := Option.some.inj H
      exact ret1 hst rfl rfl ⟨rfl, hsh.pick [0]⟩

set_option maxHeartbeats 4000000 in
set_option maxRecDepth 100000 in
theorem slices_partitionEqualOrdered_int.calls (k : Nat) (w : World) (GG : Nat → Prop) (va0 : Value) (a0 : (List Int)) (a1 : Int) (a2 : Int) (a3 : Int) (hsep : Sep GG w [Row (Kd.int .i64) 3 va0 a0]) (r : (Int × (List Int))) (h : slices_partitionEqualOrdered_int k a0 a1 a2 a3 = some r) :
    Calls Try.prog 77 ([va0, .int .i64 a1, .int .i64 a2, .int .i64 a3] : List Value).toArray w fun e w' => e = .returned (.int .i64 r.1) ∧ SH GG w w' [Row (Kd.int .i64) 3 va0 r.2] := by
 have H := h
 clear h
 unfold slices_partitionEqualOrdered_int at H
 refine calls_enter Try.func77 rfl rfl ?_
 intro a hst
 have hsh := SH.start hsep
 refine wq_seq ?_
 refine wq_region_lit (.inl rfl) ?_
 refine r_t hst trivial rfl (x_assign hst rfl) ?_; intro a hst
 refine wpL_nil ?_
 refine then_normal ?_
 refine wq_seq ?_
 have hw0_0 := hsh.row 0 rfl
 refine wq_region_t (.inl rfl) (.fin [(3, 0), (3, 1), (3, 2), (3, 3), (3, 4), (3, 5), (3, 6), (0, 7), (3, 8), (3, 9), (3, 10), (0, 11), (3, 12), (2, 13), (0, 14), (2, 15)]) (fun w' => SH GG w w' []) (fun w' => SH GG w w' [Row (Kd.int .i64) 3 va0 a0]) (fun w' => SH GG w w' [Row (Kd.int .i64) 3 va0 a0]) (shut_sh _ _ _) (shut_sh _ _ _) (shut_sh _ _ _) (sub_sh [] rfl) (sub_sh [0] rfl) hsh.drew fo (by kernel_rfl) ?_
 refine t_fin ?_
 refine m_p hst trivial rfl (fun _ => x_move hst rfl) ?_; intro a hst
 refine m_p hst trivial rfl (fun _ => x_move hst rfl) ?_; intro a hst
 refine m_p hst trivial rfl (fun _ => x_move hst rfl) ?_; intro a hst
 refine m_p hst trivial rfl (fun _ => x_move hst rfl) ?_; intro a hst
 refine m_p hst trivial rfl (fun _ => x_move hst rfl) ?_; intro a hst
 refine m_p hst trivial rfl (fun _ => x_move hst rfl) ?_; intro a hst
 obtain ⟨x1, hx1, H⟩ := Option.bind_eq_some_iff.1 H
 refine m_p hst trivial rfl (fun _ => x_indexAddr hst Try.underlying56 el_3 rfl rfl hw0_0 hx1) ?_; intro a hst
 refine m_t hst trivial rfl (fun _ hsh => x_loadEF (j := 0) (cs := [.int .i64 x1]) hst sc_3 rfl (hsh.row 0 rfl) (Same.refl _ _) hx1 rfl (fun _ h => h) rfl) ?_; intro a hst
 refine m_p hst trivial rfl (fun _ => x_move hst rfl) ?_; intro a hst
 refine m_p hst trivial rfl (fun _ => x_move hst rfl) ?_; intro a hst
 obtain ⟨x2, hx2, H⟩ := Option.bind_eq_some_iff.1 H
 refine m_p hst trivial rfl (fun _ => x_indexAddr hst Try.underlying56 el_3 rfl rfl hw0_0 hx2) ?_; intro a hst
 refine m_t hst trivial rfl (fun _ hsh => x_loadEF (j := 0) (cs := [.int .i64 x2]) hst sc_3 rfl (hsh.row 0 rfl) (Same.refl _ _) hx2 rfl (fun _ h => h) rfl) ?_; intro a hst
 obtain ⟨x3, hx3, H⟩ := Option.bind_eq_some_iff.1 H
 refine m_p hst trivial rfl (fun _ => x_indexAddr hst Try.underlying56 el_3 rfl rfl hw0_0 hx3) ?_; intro a hst
 refine m_loud (.inr rfl) ?_
 intro w4 hsh
 obtain ⟨l5, hl5, H⟩ := Option.bind_eq_some_iff.1 H
 refine r_storeE (i := 0) (off := 0) (new := x1) (cs' := [.int .i64 x1]) hst hsh trivial sc_3 rfl rfl rfl hx3 rfl (Nat.le_of_ble_eq_true rfl) rfl (fun _ _ _ h => by rw [h]; rfl) (fun _ _ => rfl) ?_; intro a w6 hsh hst
 rw [← upd_some hl5] at hsh
 refine m_turn hsh (sub_sh [] rfl) ?_
 obtain ⟨x7, hx7, H⟩ := Option.bind_eq_some_iff.1 H
 refine m_t hst trivial rfl (fun _ hsh => x_indexAddr hst Try.underlying56 el_3 rfl rfl (hsh.row 0 rfl) hx7) ?_; intro a hst
 refine m_loud (.inr rfl) ?_
 intro w8 hsh
 obtain ⟨l9, hl9, H⟩ := Option.bind_eq_some_iff.1 H
 refine r_storeE (i := 0) (off := 0) (new := x2) (cs' := [.int .i64 x2]) hst hsh trivial sc_3 rfl rfl rfl hx7 rfl (Nat.le_of_ble_eq_true rfl) rfl (fun _ _ _ h => by rw [h]; rfl) (fun _ _ => rfl) ?_; intro a w10 hsh hst
 rw [← upd_some hl9] at hsh
 refine m_turn hsh (sub_sh [] rfl) ?_
 refine m_nil ?_
 intro w11 hsh
 refine qn_normal ?_
 refine then_normal ?_
 refine wq_seq ?_
 refine wq_region_lit (.inl rfl) ?_
 refine r_t hst trivial rfl (x_move hst rfl) ?_; intro a hst
 refine r_t hst trivial rfl (x_arI (r := w64 (a1 + 1)) hst rfl rfl rfl) ?_; intro a hst
 refine r_t hst trivial rfl (x_move hst rfl) ?_; intro a hst
 refine r_t hst trivial rfl (x_arI (r := w64 (a2 - 1)) hst rfl rfl rfl) ?_; intro a hst
 refine r_t hst trivial rfl (x_assign hst rfl) ?_; intro a hst
 refine r_t hst trivial rfl (x_assign hst rfl) ?_; intro a hst
 refine wpL_nil ?_
 refine then_normal ?_
 refine wq_seq ?_
 refine wq_block ?_
 refine wq_loop_fuel (fun k_580 a w' => ∃ (l_462 : (List Int)), ∃ (i_463 : Int), ∃ (i_464 : Int), slices_partitionEqualOrdered_int.l0 a1 k_580 l_462 i_463 i_464 = some r ∧ ST [] Try.f77.ntmps a [(0, va0), (1, .int .i64 a1), (8, .int .i64 0), (9, .int .i64 i_463), (10, .int .i64 i_464)] ∧ SH GG w w' [Row (Kd.int .i64) 3 va0 l_462]) k ?_ ?_
 · exact ⟨l9, (w64 (a1 + 1)), (w64 (a2 - 1)), H, hst.keep _ ⟨rfl, rfl, rfl, rfl, rfl, trivial⟩, hsh.pick [0]⟩
 · rintro k_580 a W_465 ⟨l_462, i_463, i_464, H, hst, hsh⟩
   cases k_580 with
   | zero => rw [slices_partitionEqualOrdered_int.l0] at H; cases H
   | succ k_580 =>
    rw [slices_partitionEqualOrdered_int.l0] at H
    refine wq_block ?_
    obtain ⟨J_609, hJ_609, H⟩ := Jn.elim H
    refine wq_cut (fun a w' => ∃ (i_607 : Int), J_609 i_607 = some r ∧ ST [] Try.f77.ntmps a [(0, va0), (1, .int .i64 a1), (8, .int .i64 0), (9, .int .i64 i_607), (10, .int .i64 i_464)] ∧ SH GG w w' [Row (Kd.int .i64) 3 va0 l_462]) ?_ ?_
    · rintro a W_608 ⟨i_607, H, hst, hsh⟩
      subst hJ_609
      dsimp only at H
      obtain ⟨J_638, hJ_638, H⟩ := Jn.elim H
      refine wq_cut (fun a w' => ∃ (i_636 : Int), J_638 i_636 = some r ∧ ST [] Try.f77.ntmps a [(0, va0), (1, .int .i64 a1), (8, .int .i64 0), (9, .int .i64 i_607), (10, .int .i64 i_636)] ∧ SH GG w w' [Row (Kd.int .i64) 3 va0 l_462]) ?_ ?_
      · rintro a W_637 ⟨i_636, H, hst, hsh⟩
        subst hJ_638
        dsimp only at H
        refine wq_seq ?_
        refine wq_seq ?_
        refine wq_region_lit (.inl rfl) ?_
        refine r_t hst trivial rfl (x_move hst rfl) ?_; intro a hst
        refine r_t hst trivial rfl (x_move hst rfl) ?_; intro a hst
        refine r_t hst trivial rfl (x_cmpI (b := decide (i_636 < i_607)) hst rfl rfl rfl) ?_; intro a hst
        refine wpL_nil ?_
        refine then_normal ?_
        by_cases c1530 : (decide (i_636 < i_607)) = true
        · rw [if_pos c1530] at H
          refine wq_condT hst rfl c1530 ?_
          refine wq_exit ?_
          refine then_exit ?_
          refine block_miss rfl ?_
          refine then_exit ?_
          refine block_hit ?_
          refine then_normal ?_
          refine wq_seq ?_
          refine wq_region_lit (.inl rfl) ?_
          refine r_t hst trivial rfl (x_move hst rfl) ?_; intro a hst
          refine r_t hst trivial rfl (x_assign hst rfl) ?_; intro a hst
          refine wpL_nil ?_
          refine then_normal ?_
          refine wq_ret ?_
          obtain rfl := Option.some.inj H
          exact ret1 hst rfl rfl ⟨rfl, hsh.pick [0]⟩
        · rw [if_neg c1530] at H
          replace c1530 := Bool.eq_false_iff.2 c1530
          refine wq_condF hst rfl c1530 ?_
          refine wq_skip ?_
          refine then_normal ?_
          refine wq_seq ?_
          have hw1530_0 := hsh.row 0 rfl
          refine wq_region_t (.inl rfl) (.fin [(3, 0), (3, 1), (3, 2), (3, 3), (3, 4), (3, 5), (3, 6), (0, 7), (3, 8), (3, 9), (3, 10), (0, 11), (3, 12), (2, 13), (0, 14), (2, 15)]) (fun w' => SH GG w w' []) (fun w' => SH GG w w' [Row (Kd.int .i64) 3 va0 l_462]) (fun w' => SH GG w w' [Row (Kd.int .i64) 3 va0 l_462]) (shut_sh _ _ _) (shut_sh _ _ _) (shut_sh _ _ _) (sub_sh [] rfl) (sub_sh [0] rfl) hsh.drew fo (by kernel_rfl) ?_
          refine t_fin ?_
          refine m_p hst trivial rfl (fun _ => x_move hst rfl) ?_; intro a hst
          refine m_p hst trivial rfl (fun _ => x_move hst rfl) ?_; intro a hst
          refine m_p hst trivial rfl (fun _ => x_move hst rfl) ?_; intro a hst
          refine m_p hst trivial rfl (fun _ => x_move hst rfl) ?_; intro a hst
          refine m_p hst trivial rfl (fun _ => x_move hst rfl) ?_; intro a hst
          refine m_p hst trivial rfl (fun _ => x_move hst rfl) ?_; intro a hst
          obtain ⟨x1531, hx1531, H⟩ := Option.bind_eq_some_iff.1 H
          refine m_p hst trivial rfl (fun _ => x_indexAddr hst Try.underlying56 el_3 rfl rfl hw1530_0 hx1531) ?_; intro a hst
          refine m_t hst trivial rfl (fun _ hsh => x_loadEF (j := 0) (cs := [.int .i64 x1531]) hst sc_3 rfl (hsh.row 0 rfl) (Same.refl _ _) hx1531 rfl (fun _ h => h) rfl) ?_; intro a hst
          refine m_p hst trivial rfl (fun _ => x_move hst rfl) ?_; intro a hst
          refine m_p hst trivial rfl (fun _ => x_move hst rfl) ?_; intro a hst
          obtain ⟨x1532, hx1532, H⟩ := Option.bind_eq_some_iff.1 H
          refine m_p hst trivial rfl (fun _ => x_indexAddr hst Try.underlying56 el_3 rfl rfl hw1530_0 hx1532) ?_; intro a hst
          refine m_t hst trivial rfl (fun _ hsh => x_loadEF (j := 0) (cs := [.int .i64 x1532]) hst sc_3 rfl (hsh.row 0 rfl) (Same.refl _ _) hx1532 rfl (fun _ h => h) rfl) ?_; intro a hst
          obtain ⟨x1533, hx1533, H⟩ := Option.bind_eq_some_iff.1 H
          refine m_p hst trivial rfl (fun _ => x_indexAddr hst Try.underlying56 el_3 rfl rfl hw1530_0 hx1533) ?_; intro a hst
          refine m_loud (.inr rfl) ?_
          intro w1534 hsh
          obtain ⟨l1535, hl1535, H⟩ := Option.bind_eq_some_iff.1 H
          refine r_storeE (i := 0) (off := 0) (new := x1531) (cs' := [.int .i64 x1531]) hst hsh trivial sc_3 rfl rfl rfl hx1533 rfl (Nat.le_of_ble_eq_true rfl) rfl (fun _ _ _ h => by rw [h]; rfl) (fun _ _ => rfl) ?_; intro a w1536 hsh hst
          rw [← upd_some hl1535] at hsh
          refine m_turn hsh (sub_sh [] rfl) ?_
          obtain ⟨x1537, hx1537, H⟩ := Option.bind_eq_some_iff.1 H
          refine m_t hst trivial rfl (fun _ hsh => x_indexAddr hst Try.underlying56 el_3 rfl rfl (hsh.row 0 rfl) hx1537) ?_; intro a hst
          refine m_loud (.inr rfl) ?_
          intro w1538 hsh
          obtain ⟨l1539, hl1539, H⟩ := Option.bind_eq_some_iff.1 H
          refine r_storeE (i := 0) (off := 0) (new := x1532) (cs' := [.int .i64 x1532]) hst hsh trivial sc_3 rfl rfl rfl hx1537 rfl (Nat.le_of_ble_eq_true rfl) rfl (fun _ _ _ h => by rw [h]; rfl) (fun _ _ => rfl) ?_; intro a w1540 hsh hst
          rw [← upd_some hl1539] at hsh
          refine m_turn hsh (sub_sh [] rfl) ?_
          refine m_nil ?_
          intro w1541 hsh
          refine qn_normal ?_
          refine then_normal ?_
          refine wq_seq ?_
          refine wq_region_lit (.inl rfl) ?_
          refine r_t hst trivial rfl (x_move hst rfl) ?_; intro a hst
          refine r_t hst trivial rfl (x_arI (r := w64 (i_607 + 1)) hst rfl rfl rfl) ?_; intro a hst
          refine r_t hst trivial rfl (x_assign hst rfl) ?_; intro a hst
          refine wpL_nil ?_
          refine then_normal ?_
          refine wq_region_lit (.inl rfl) ?_
          refine r_t hst trivial rfl (x_move hst rfl) ?_; intro a hst
          refine r_t hst trivial rfl (x_arI (r := w64 (i_636 - 1)) hst rfl rfl rfl) ?_; intro a hst
          refine r_t hst trivial rfl (x_assign hst rfl) ?_; intro a hst
          refine wpL_nil ?_
          refine block_normal ?_
          refine then_normal ?_
          exact ⟨k_580, Nat.lt_succ_self _, l1539, (w64 (i_607 + 1)), (w64 (i_636 - 1)), H, hst.keep _ ⟨rfl, rfl, rfl, rfl, rfl, trivial⟩, hsh.pick [0]⟩
      · refine wq_block ?_
        refine wq_loop_fuel (fun k_658 a w' => ∃ (i_648 : Int), slices_partitionEqualOrdered_int.l1 a1 l_462 i_607 J_638 k_658 i_648 = some r ∧ ST [] Try.f77.ntmps a [(0, va0), (1, .int .i64 a1), (8, .int .i64 0), (9, .int .i64 i_607), (10, .int .i64 i_648)] ∧ SH GG w w' [Row (Kd.int .i64) 3 va0 l_462]) k_580 ?_ ?_
        · exact ⟨i_464, H, hst.keep _ ⟨rfl, rfl, rfl, rfl, rfl, trivial⟩, hsh.pick [0]⟩
        · rintro k_658 a W_649 ⟨i_648, H, hst, hsh⟩
          cases k_658 with
          | zero => rw [slices_partitionEqualOrdered_int.l1] at H; cases H
          | succ k_658 =>
           rw [slices_partitionEqualOrdered_int.l1] at H
           refine wq_seq ?_
           refine wq_seq ?_
           refine wq_region_q (.inl rfl) (fun w' => SH GG w w' [Row (Kd.int .i64) 3 va0 l_462]) (shut_sh _ _ _) hsh.drew fo (by kernel_rfl) ?_
           refine q_t hst trivial rfl (fun _ hsh => x_move hst rfl) ?_; intro a hst
           refine q_t hst trivial rfl (fun _ hsh => x_move hst rfl) ?_; intro a hst
           refine q_t hst trivial rfl (fun _ hsh => x_cmpI (b := decide (i_607 ≤ i_648)) hst rfl rfl rfl) ?_; intro a hst
           refine q_t hst trivial rfl (fun _ hsh => x_move hst rfl) ?_; intro a hst
           obtain ⟨J_663, hJ_663, H⟩ := Jn.elim H
           refine q_join 14 (fun a => ∃ (b_662 : Bool), J_663 b_662 = some r ∧ ST [] Try.f77.ntmps a [(0, va0), (1, .int .i64 a1), (8, .int .i64 0), (9, .int .i64 i_607), (10, .int .i64 i_648), (59, .bool b_662)]) ?_ ?_
           · rintro a ⟨b_662, H, hst⟩
             subst hJ_663
             dsimp only at H
             refine q_nil ?_
             intro w1602 hsh
             refine then_normal ?_
             by_cases c1603 : b_662 = true
             · rw [if_pos c1603] at H
               refine wq_condT hst rfl c1603 ?_
               refine wq_skip ?_
               refine then_normal ?_
               refine wq_block ?_
               refine wq_region_lit (.inl rfl) ?_
               refine r_t hst trivial rfl (x_move hst rfl) ?_; intro a hst
               refine r_t hst trivial rfl (x_arI (r := w64 (i_648 - 1)) hst rfl rfl rfl) ?_; intro a hst
               refine r_t hst trivial rfl (x_assign hst rfl) ?_; intro a hst
               refine wpL_nil ?_
               refine block_normal ?_
               refine then_normal ?_
               exact ⟨k_658, Nat.lt_succ_self _, (w64 (i_648 - 1)), H, hst.keep _ ⟨rfl, rfl, rfl, rfl, rfl, trivial⟩, hsh.pick [0]⟩
             · rw [if_neg c1603] at H
               replace c1603 := Bool.eq_false_iff.2 c1603
               refine wq_condF hst rfl c1603 ?_
               refine wq_exit ?_
               refine then_exit ?_
               refine then_exit ?_
               refine block_hit ?_
               refine then_normal ?_
               exact ⟨i_648, H, hst.keep _ ⟨rfl, rfl, rfl, rfl, rfl, trivial⟩, hsh.pick [0]⟩
           · intro hj
             by_cases c1597 : (decide (i_607 ≤ i_648)) = true
             · rw [if_pos c1597] at H
               refine q_t hst (wt_of 49 rfl rfl c1597) rfl (fun _ hsh => x_move hst rfl) ?_; intro a hst
               refine q_t hst (wt_of 49 rfl rfl c1597) rfl (fun _ hsh => x_move hst rfl) ?_; intro a hst
               obtain ⟨x1604, hx1604, H⟩ := Option.bind_eq_some_iff.1 H
               refine q_t hst (wt_of 49 rfl rfl c1597) rfl (fun _ hsh => x_indexAddr hst Try.underlying56 el_3 rfl rfl (hsh.row 0 rfl) hx1604) ?_; intro a hst
               refine q_t hst (wt_of 49 rfl rfl c1597) rfl (fun _ hsh => x_loadEF (j := 0) (cs := [.int .i64 x1604]) hst sc_3 rfl (hsh.row 0 rfl) (Same.refl _ _) hx1604 rfl (fun _ h => h) rfl) ?_; intro a hst
               refine q_t hst (wt_of 49 rfl rfl c1597) rfl (fun _ hsh => x_move hst rfl) ?_; intro a hst
               refine q_t hst (wt_of 49 rfl rfl c1597) rfl (fun _ hsh => x_move hst rfl) ?_; intro a hst
               obtain ⟨x1605, hx1605, H⟩ := Option.bind_eq_some_iff.1 H
               refine q_t hst (wt_of 49 rfl rfl c1597) rfl (fun _ hsh => x_indexAddr hst Try.underlying56 el_3 rfl rfl (hsh.row 0 rfl) hx1605) ?_; intro a hst
               refine q_t hst (wt_of 49 rfl rfl c1597) rfl (fun _ hsh => x_loadEF (j := 0) (cs := [.int .i64 x1605]) hst sc_3 rfl (hsh.row 0 rfl) (Same.refl _ _) hx1605 rfl (fun _ h => h) rfl) ?_; intro a hst
               obtain ⟨r1606, hr1606, H⟩ := Option.bind_eq_some_iff.1 H
               refine q_call hst (wt_of 49 rfl rfl c1597) rfl fn_76 rfl (fun w9 hsh => cmp_Less_int.calls _ x1604 x1605 r1606 hr1606) ?_; intro a hst
               refine q_t hst trivial rfl (fun _ hsh => x_pickT hst rfl c1597 rfl) ?_; intro a hst
               exact hj _ ⟨r1606, H, hst.keep _ ⟨rfl, rfl, rfl, rfl, rfl, rfl, trivial⟩⟩
             · rw [if_neg c1597] at H
               replace c1597 := Bool.eq_false_iff.2 c1597
               refine q_not hst 49 rfl rfl c1597 rfl ?_; intro a hst
               refine q_not hst 49 rfl rfl c1597 rfl ?_; intro a hst
               refine q_not hst 49 rfl rfl c1597 rfl ?_; intro a hst
               refine q_not hst 49 rfl rfl c1597 rfl ?_; intro a hst
               refine q_not hst 49 rfl rfl c1597 rfl ?_; intro a hst
               refine q_not hst 49 rfl rfl c1597 rfl ?_; intro a hst
               refine q_not hst 49 rfl rfl c1597 rfl ?_; intro a hst
               refine q_not hst 49 rfl rfl c1597 rfl ?_; intro a hst
               refine q_not hst 49 rfl rfl c1597 rfl ?_; intro a hst
               refine q_t hst trivial rfl (fun _ hsh => x_pickF hst rfl c1597 rfl) ?_; intro a hst
               exact hj _ ⟨false, H, hst.keep _ ⟨rfl, rfl, rfl, rfl, rfl, rfl, trivial⟩⟩
    · refine wq_block ?_
      refine wq_loop_fuel (fun k_684 a w' => ∃ (i_674 : Int), slices_partitionEqualOrdered_int.l2 a1 l_462 i_464 J_609 k_684 i_674 = some r ∧ ST [] Try.f77.ntmps a [(0, va0), (1, .int .i64 a1), (8, .int .i64 0), (9, .int .i64 i_674), (10, .int .i64 i_464)] ∧ SH GG w w' [Row (Kd.int .i64) 3 va0 l_462]) k_580 ?_ ?_
      · exact ⟨i_463, H, hst.keep _ ⟨rfl, rfl, rfl, rfl, rfl, trivial⟩, hsh.pick [0]⟩
      · rintro k_684 a W_675 ⟨i_674, H, hst, hsh⟩
        cases k_684 with
        | zero => rw [slices_partitionEqualOrdered_int.l2] at H; cases H
        | succ k_684 =>
         rw [slices_partitionEqualOrdered_int.l2] at H
         refine wq_seq ?_
         refine wq_seq ?_
         refine wq_region_q (.inl rfl) (fun w' => SH GG w w' [Row (Kd.int .i64) 3 va0 l_462]) (shut_sh _ _ _) hsh.drew fo (by kernel_rfl) ?_
         refine q_t hst trivial rfl (fun _ hsh => x_move hst rfl) ?_; intro a hst
         refine q_t hst trivial rfl (fun _ hsh => x_move hst rfl) ?_; intro a hst
         refine q_t hst trivial rfl (fun _ hsh => x_cmpI (b := decide (i_674 ≤ i_464)) hst rfl rfl rfl) ?_; intro a hst
         refine q_t hst trivial rfl (fun _ hsh => x_move hst rfl) ?_; intro a hst
         obtain ⟨J_689, hJ_689, H⟩ := Jn.elim H
         refine q_join 15 (fun a => ∃ (b_688 : Bool), J_689 b_688 = some r ∧ ST [] Try.f77.ntmps a [(0, va0), (1, .int .i64 a1), (8, .int .i64 0), (9, .int .i64 i_674), (10, .int .i64 i_464), (43, .bool b_688)]) ?_ ?_
         · rintro a ⟨b_688, H, hst⟩
           subst hJ_689
           dsimp only at H
           refine q_nil ?_
           intro w1668 hsh
           refine then_normal ?_
           by_cases c1669 : b_688 = true
           · rw [if_pos c1669] at H
             refine wq_condT hst rfl c1669 ?_
             refine wq_skip ?_
             refine then_normal ?_
             refine wq_block ?_
             refine wq_region_lit (.inl rfl) ?_
             refine r_t hst trivial rfl (x_move hst rfl) ?_; intro a hst
             refine r_t hst trivial rfl (x_arI (r := w64 (i_674 + 1)) hst rfl rfl rfl) ?_; intro a hst
             refine r_t hst trivial rfl (x_assign hst rfl) ?_; intro a hst
             refine wpL_nil ?_
             refine block_normal ?_
             refine then_normal ?_
             exact ⟨k_684, Nat.lt_succ_self _, (w64 (i_674 + 1)), H, hst.keep _ ⟨rfl, rfl, rfl, rfl, rfl, trivial⟩, hsh.pick [0]⟩
           · rw [if_neg c1669] at H
             replace c1669 := Bool.eq_false_iff.2 c1669
             refine wq_condF hst rfl c1669 ?_
             refine wq_exit ?_
             refine then_exit ?_
             refine then_exit ?_
             refine block_hit ?_
             refine then_normal ?_
             exact ⟨i_674, H, hst.keep _ ⟨rfl, rfl, rfl, rfl, rfl, trivial⟩, hsh.pick [0]⟩
         · intro hj
           by_cases c1663 : (decide (i_674 ≤ i_464)) = true
           · rw [if_pos c1663] at H
             refine q_t hst (wt_of 32 rfl rfl c1663) rfl (fun _ hsh => x_move hst rfl) ?_; intro a hst
             refine q_t hst (wt_of 32 rfl rfl c1663) rfl (fun _ hsh => x_move hst rfl) ?_; intro a hst
             obtain ⟨x1670, hx1670, H⟩ := Option.bind_eq_some_iff.1 H
             refine q_t hst (wt_of 32 rfl rfl c1663) rfl (fun _ hsh => x_indexAddr hst Try.underlying56 el_3 rfl rfl (hsh.row 0 rfl) hx1670) ?_; intro a hst
             refine q_t hst (wt_of 32 rfl rfl c1663) rfl (fun _ hsh => x_loadEF (j := 0) (cs := [.int .i64 x1670]) hst sc_3 rfl (hsh.row 0 rfl) (Same.refl _ _) hx1670 rfl (fun _ h => h) rfl) ?_; intro a hst
             refine q_t hst (wt_of 32 rfl rfl c1663) rfl (fun _ hsh => x_move hst rfl) ?_; intro a hst
             refine q_t hst (wt_of 32 rfl rfl c1663) rfl (fun _ hsh => x_move hst rfl) ?_; intro a hst
             obtain ⟨x1671, hx1671, H⟩ := Option.bind_eq_some_iff.1 H
             refine q_t hst (wt_of 32 rfl rfl c1663) rfl (fun _ hsh => x_indexAddr hst Try.underlying56 el_3 rfl rfl (hsh.row 0 rfl) hx1671) ?_; intro a hst
             refine q_t hst (wt_of 32 rfl rfl c1663) rfl (fun _ hsh => x_loadEF (j := 0) (cs := [.int .i64 x1671]) hst sc_3 rfl (hsh.row 0 rfl) (Same.refl _ _) hx1671 rfl (fun _ h => h) rfl) ?_; intro a hst
             obtain ⟨r1672, hr1672, H⟩ := Option.bind_eq_some_iff.1 H
             refine q_call hst (wt_of 32 rfl rfl c1663) rfl fn_76 rfl (fun w9 hsh => cmp_Less_int.calls _ x1670 x1671 r1672 hr1672) ?_; intro a hst
             refine q_t hst (wt_of 32 rfl rfl c1663) rfl (fun _ hsh => x_notB hst rfl) ?_; intro a hst
             refine q_t hst trivial rfl (fun _ hsh => x_pickT hst rfl c1663 rfl) ?_; intro a hst
             exact hj _ ⟨(!r1672), H, hst.keep _ ⟨rfl, rfl, rfl, rfl, rfl, rfl, trivial⟩⟩
           · rw [if_neg c1663] at H
             replace c1663 := Bool.eq_false_iff.2 c1663
             refine q_not hst 32 rfl rfl c1663 rfl ?_; intro a hst
             refine q_not hst 32 rfl rfl c1663 rfl ?_; intro a hst
             refine q_not hst 32 rfl rfl c1663 rfl ?_; intro a hst
             refine q_not hst 32 rfl rfl c1663 rfl ?_; intro a hst
             refine q_not hst 32 rfl rfl c1663 rfl ?_; intro a hst
             refine q_not hst 32 rfl rfl c1663 rfl ?_; intro a hst
             refine q_not hst 32 rfl rfl c1663 rfl ?_; intro a hst
             refine q_not hst 32 rfl rfl c1663 rfl ?_; intro a hst
             refine q_not hst 32 rfl rfl c1663 rfl ?_; intro a hst
             refine q_not hst 32 rfl rfl c1663 rfl ?_; intro a hst
             refine q_t hst trivial rfl (fun _ hsh => x_pickF hst rfl c1663 rfl) ?_; intro a hst
             exact hj _ ⟨false, H, hst.keep _ ⟨rfl, rfl, rfl, rfl, rfl, rfl, trivial⟩⟩

set_option maxHeartbeats 4000000 in
set_option maxRecDepth 100000 in
theorem slices_partitionOrdered_int.calls (k : Nat) (w : World) (GG : Nat → Prop) (va0 : Value) (a0 : (List Int)) (a1 : Int) (a2 : Int) (a3 : Int) (hsep : Sep GG w [Row (Kd.int .i64) 3 va0 a0]) (r : (Int × Bool × (List Int))) (h : slices_partitionOrdered_int k a0 a1 a2 a3 = some r) :
    Calls Try.prog 78 ([va0, .int .i64 a1, .int .i64 a2, .int .i64 a3] : List Value).toArray w fun e w' => e = .returned (.tuple #[.int .i64 r.1, .bool r.2.1]) ∧ SH GG w w' [Row (Kd.int .i64) 3 va0 r.2.2] := by
 have H := h
 clear h
 unfold slices_partitionOrdered_int at H
 refine calls_enter Try.func78 rfl rfl ?_
 intro a hst
 have hsh := SH.start hsep
 refine wq_seq ?_
 refine wq_region_lit (.inl rfl) ?_
 refine r_t hst trivial rfl (x_assign hst rfl) ?_; intro a hst
 refine r_t hst trivial rfl (x_assign hst rfl) ?_; intro a hst
 refine wpL_nil ?_
 refine then_normal ?_
 refine wq_seq ?_
 have hw0_0 := hsh.row 0 rfl
 refine wq_region_t (.inl rfl) (.fin [(3, 0), (3, 1), (3, 2), (3, 3), (3, 4), (3, 5), (3, 6), (0, 7), (3, 8), (3, 9), (3, 10), (0, 11), (3, 12), (2, 13), (0, 14), (2, 15)]) (fun w' => SH GG w w' []) (fun w' => SH GG w w' [Row (Kd.int .i64) 3 va0 a0]) (fun w' => SH GG w w' [Row (Kd.int .i64) 3 va0 a0]) (shut_sh _ _ _) (shut_sh _ _ _) (shut_sh _ _ _) (sub_sh [] rfl) (sub_sh [0] rfl) hsh.drew fo (by kernel_rfl) ?_
 refine t_fin ?_
 refine m_p hst trivial rfl (fun _ => x_move hst rfl) ?_; intro a hst
 refine m_p hst trivial rfl (fun _ => x_move hst rfl) ?_; intro a hst
 refine m_p hst trivial rfl (fun _ => x_move hst rfl) ?_; intro a hst
 refine m_p hst trivial rfl (fun _ => x_move hst rfl) ?_; intro a hst
 refine m_p hst trivial rfl (fun _ => x_move hst rfl) ?_; intro a hst
 refine m_p hst trivial rfl (fun _ => x_move hst rfl) ?_; intro a hst
 obtain ⟨x1, hx1, H⟩ := Option.bind_eq_some_iff.1 H
 refine m_p hst trivial rfl (fun _ => x_indexAddr hst Try.underlying56 el_3 rfl rfl hw0_0 hx1) ?_; intro a hst
 refine m_t hst trivial rfl (fun _ hsh => x_loadEF (j := 0) (cs := [.int .i64 x1]) hst sc_3 rfl (hsh.row 0 rfl) (Same.refl _ _) hx1 rfl (fun _ h => h) rfl) ?_; intro a hst
 refine m_p hst trivial rfl (fun _ => x_move hst rfl) ?_; intro a hst
 refine m_p hst trivial rfl (fun _ => x_move hst rfl) ?_; intro a hst
 obtain ⟨x2, hx2, H⟩ := Option.bind_eq_some_iff.1 H
 refine m_p hst trivial rfl (fun _ => x_indexAddr hst Try.underlying56 el_3 rfl rfl hw0_0 hx2) ?_; intro a hst
 refine m_t hst trivial rfl (fun _ hsh => x_loadEF (j := 0) (cs := [.int .i64 x2]) hst sc_3 rfl (hsh.row 0 rfl) (Same.refl _ _) hx2 rfl (fun _ h => h) rfl) ?_; intro a hst
 obtain ⟨x3, hx3, H⟩ := Option.bind_eq_some_iff.1 H
 refine m_p hst trivial rfl (fun _ => x_indexAddr hst Try.underlying56 el_3 rfl rfl hw0_0 hx3) ?_; intro a hst
 refine m_loud (.inr rfl) ?_
 intro w4 hsh
 obtain ⟨l5, hl5, H⟩ := Option.bind_eq_some_iff.1 H
 refine r_storeE (i := 0) (off := 0) (new := x1) (cs' := [.int .i64 x1]) hst hsh trivial sc_3 rfl rfl rfl hx3 rfl (Nat.le_of_ble_eq_true rfl) rfl (fun _ _ _ h => by rw [h]; rfl) (fun _ _ => rfl) ?_; intro a w6 hsh hst
 rw [← upd_some hl5] at hsh
 refine m_turn hsh (sub_sh [] rfl) ?_
 obtain ⟨x7, hx7, H⟩ := Option.bind_eq_some_iff.1 H
 refine m_t hst trivial rfl (fun _ hsh => x_indexAddr hst Try.underlying56 el_3 rfl rfl (hsh.row 0 rfl) hx7) ?_; intro a hst
 refine m_loud (.inr rfl) ?_
 intro w8 hsh
 obtain ⟨l9, hl9, H⟩ := Option.bind_eq_some_iff.1 H
 refine r_storeE (i := 0) (off := 0) (new := x2) (cs' := [.int .i64 x2]) hst hsh trivial sc_3 rfl rfl rfl hx7 rfl (Nat.le_of_ble_eq_true rfl) rfl (fun _ _ _ h => by rw [h]; rfl) (fun _ _ => rfl) ?_; intro a w10 hsh hst
 rw [← upd_some hl9] at hsh
 refine m_turn hsh (sub_sh [] rfl) ?_
 refine m_nil ?_
 intro w11 hsh
 refine qn_normal ?_
 refine then_normal ?_
 refine wq_seq ?_
 refine wq_region_lit (.inl rfl) ?_
 refine r_t hst trivial rfl (x_move hst rfl) ?_; intro a hst
 refine r_t hst trivial rfl (x_arI (r := w64 (a1 + 1)) hst rfl rfl rfl) ?_; intro a hst
 refine r_t hst trivial rfl (x_move hst rfl) ?_; intro a hst
 refine r_t hst trivial rfl (x_arI (r := w64 (a2 - 1)) hst rfl rfl rfl) ?_; intro a hst
 refine r_t hst trivial rfl (x_assign hst rfl) ?_; intro a hst
 refine r_t hst trivial rfl (x_assign hst rfl) ?_; intro a hst
 refine wpL_nil ?_
 refine then_normal ?_
 refine wq_seq ?_
 refine wq_block ?_
 refine wq_loop_fuel (fun k_32 a w' => ∃ (i_20 : Int), ∃ (i_21 : Int), slices_partitionOrdered_int.l0 a1 l9 k_32 i_20 i_21 = some r ∧ ST [] Try.f78.ntmps a [(0, va0), (1, .int .i64 a1), (8, .int .i64 0), (9, .bool false), (10, .int .i64 i_20), (11, .int .i64 i_21)] ∧ SH GG w w' [Row (Kd.int .i64) 3 va0 l9]) k ?_ ?_
 · exact ⟨(w64 (a1 + 1)), (w64 (a2 - 1)), H, hst.keep _ ⟨rfl, rfl, rfl, rfl, rfl, rfl, trivial⟩, hsh.pick [0]⟩
 · rintro k_32 a W_22 ⟨i_20, i_21, H, hst, hsh⟩
   cases k_32 with
   | zero => rw [slices_partitionOrdered_int.l0] at H; cases H
   | succ k_32 =>
    rw [slices_partitionOrdered_int.l0] at H
    refine wq_seq ?_
    refine wq_seq ?_
    refine wq_region_q (.inl rfl) (fun w' => SH GG w w' [Row (Kd.int .i64) 3 va0 l9]) (shut_sh _ _ _) hsh.drew fo (by kernel_rfl) ?_
    refine q_t hst trivial rfl (fun _ hsh => x_move hst rfl) ?_; intro a hst
    refine q_t hst trivial rfl (fun _ hsh => x_move hst rfl) ?_; intro a hst
    refine q_t hst trivial rfl (fun _ hsh => x_cmpI (b := decide (i_20 ≤ i_21)) hst rfl rfl rfl) ?_; intro a hst
    refine q_t hst trivial rfl (fun _ hsh => x_move hst rfl) ?_; intro a hst
    obtain ⟨J_37, hJ_37, H⟩ := Jn.elim H
    refine q_join 14 (fun a => ∃ (b_36 : Bool), J_37 b_36 = some r ∧ ST [] Try.f78.ntmps a [(0, va0), (1, .int .i64 a1), (8, .int .i64 0), (9, .bool false), (10, .int .i64 i_20), (11, .int .i64 i_21), (43, .bool b_36)]) ?_ ?_
    · rintro a ⟨b_36, H, hst⟩
      subst hJ_37
      dsimp only at H
      refine q_nil ?_
      intro w94 hsh
      refine then_normal ?_
      by_cases c95 : b_36 = true
      · rw [if_pos c95] at H
        refine wq_condT hst rfl c95 ?_
        refine wq_skip ?_
        refine then_normal ?_
        refine wq_block ?_
        refine wq_region_lit (.inl rfl) ?_
        refine r_t hst trivial rfl (x_move hst rfl) ?_; intro a hst
        refine r_t hst trivial rfl (x_arI (r := w64 (i_20 + 1)) hst rfl rfl rfl) ?_; intro a hst
        refine r_t hst trivial rfl (x_assign hst rfl) ?_; intro a hst
        refine wpL_nil ?_
        refine block_normal ?_
        refine then_normal ?_
        exact ⟨k_32, Nat.lt_succ_self _, (w64 (i_20 + 1)), i_21, H, hst.keep _ ⟨rfl, rfl, rfl, rfl, rfl, rfl, trivial⟩, hsh.pick [0]⟩
      · rw [if_neg c95] at H
        replace c95 := Bool.eq_false_iff.2 c95
        refine wq_condF hst rfl c95 ?_
        refine wq_exit ?_
        refine then_exit ?_
        refine then_exit ?_
        refine block_hit ?_
        refine then_normal ?_
        obtain ⟨J_67, hJ_67, H⟩ := Jn.elim H
        refine wq_cut (fun a w' => ∃ (i_65 : Int), J_67 i_65 = some r ∧ ST [] Try.f78.ntmps a [(0, va0), (1, .int .i64 a1), (8, .int .i64 0), (9, .bool false), (10, .int .i64 i_20), (11, .int .i64 i_65)] ∧ SH GG w w' [Row (Kd.int .i64) 3 va0 l9]) ?_ ?_
        · rintro a W_66 ⟨i_65, H, hst, hsh⟩
          subst hJ_67
          dsimp only at H
          refine wq_seq ?_
          refine wq_seq ?_
          refine wq_region_lit (.inl rfl) ?_
          refine r_t hst trivial rfl (x_move hst rfl) ?_; intro a hst
          refine r_t hst trivial rfl (x_move hst rfl) ?_; intro a hst
          refine r_t hst trivial rfl (x_cmpI (b := decide (i_65 < i_20)) hst rfl rfl rfl) ?_; intro a hst
          refine wpL_nil ?_
          refine then_normal ?_
          by_cases c174 : (decide (i_65 < i_20)) = true
          · rw [if_pos c174] at H
            refine wq_condT hst rfl c174 ?_
            refine wq_seq ?_
            have hw174_0 := hsh.row 0 rfl
            refine wq_region_t (.inl rfl) (.fin [(3, 0), (3, 1), (3, 2), (3, 3), (3, 4), (3, 5), (3, 6), (0, 7), (3, 8), (3, 9), (3, 10), (0, 11), (3, 12), (2, 13), (0, 14), (2, 15)]) (fun w' => SH GG w w' []) (fun w' => SH GG w w' [Row (Kd.int .i64) 3 va0 l9]) (fun w' => SH GG w w' [Row (Kd.int .i64) 3 va0 l9]) (shut_sh _ _ _) (shut_sh _ _ _) (shut_sh _ _ _) (sub_sh [] rfl) (sub_sh [0] rfl) hsh.drew fo (by kernel_rfl) ?_
            refine t_fin ?_
            refine m_p hst trivial rfl (fun _ => x_move hst rfl) ?_; intro a hst
            refine m_p hst trivial rfl (fun _ => x_move hst rfl) ?_; intro a hst
            refine m_p hst trivial rfl (fun _ => x_move hst rfl) ?_; intro a hst
            refine m_p hst trivial rfl (fun _ => x_move hst rfl) ?_; intro a hst
            refine m_p hst trivial rfl (fun _ => x_move hst rfl) ?_; intro a hst
            refine m_p hst trivial rfl (fun _ => x_move hst rfl) ?_; intro a hst
            obtain ⟨x175, hx175, H⟩ := Option.bind_eq_some_iff.1 H
            refine m_p hst trivial rfl (fun _ => x_indexAddr hst Try.underlying56 el_3 rfl rfl hw174_0 hx175) ?_; intro a hst
            refine m_t hst trivial rfl (fun _ hsh => x_loadEF (j := 0) (cs := [.int .i64 x175]) hst sc_3 rfl (hsh.row 0 rfl) (Same.refl _ _) hx175 rfl (fun _ h => h) rfl) ?_; intro a hst
            refine m_p hst trivial rfl (fun _ => x_move hst rfl) ?_; intro a hst
            refine m_p hst trivial rfl (fun _ => x_move hst rfl) ?_; intro a hst
            obtain ⟨x176, hx176, H⟩ := Option.bind_eq_some_iff.1 H
            refine m_p hst trivial rfl (fun _ => x_indexAddr hst Try.underlying56 el_3 rfl rfl hw174_0 hx176) ?_; intro a hst
            refine m_t hst trivial rfl (fun _ hsh => x_loadEF (j := 0) (cs := [.int .i64 x176]) hst sc_3 rfl (hsh.row 0 rfl) (Same.refl _ _) hx176 rfl (fun _ h => h) rfl) ?_; intro a hst
            obtain ⟨x177, hx177, H⟩ := Option.bind_eq_some_iff.1 H
            refine m_p hst trivial rfl (fun _ => x_indexAddr hst Try.underlying56 el_3 rfl rfl hw174_0 hx177) ?_; intro a hst
            refine m_loud (.inr rfl) ?_
            intro w178 hsh
            obtain ⟨l179, hl179, H⟩ := Option.bind_eq_some_iff.1 H
            refine r_storeE (i := 0) (off := 0) (new := x175) (cs' := [.int .i64 x175]) hst hsh trivial sc_3 rfl rfl rfl hx177 rfl (Nat.le_of_ble_eq_true rfl) rfl (fun _ _ _ h => by rw [h]; rfl) (fun _ _ => rfl) ?_; intro a w180 hsh hst
            rw [← upd_some hl179] at hsh
            refine m_turn hsh (sub_sh [] rfl) ?_
            obtain ⟨x181, hx181, H⟩ := Option.bind_eq_some_iff.1 H
            refine m_t hst trivial rfl (fun _ hsh => x_indexAddr hst Try.underlying56 el_3 rfl rfl (hsh.row 0 rfl) hx181) ?_; intro a hst
            refine m_loud (.inr rfl) ?_
            intro w182 hsh
            obtain ⟨l183, hl183, H⟩ := Option.bind_eq_some_iff.1 H
            refine r_storeE (i := 0) (off := 0) (new := x176) (cs' := [.int .i64 x176]) hst hsh trivial sc_3 rfl rfl rfl hx181 rfl (Nat.le_of_ble_eq_true rfl) rfl (fun _ _ _ h => by rw [h]; rfl) (fun _ _ => rfl) ?_; intro a w184 hsh hst
            rw [← upd_some hl183] at hsh
            refine m_turn hsh (sub_sh [] rfl) ?_
            refine m_nil ?_
            intro w185 hsh
            refine qn_normal ?_
            refine then_normal ?_
            refine wq_seq ?_
            refine wq_region_lit (.inl rfl) ?_
            refine r_t hst trivial rfl (x_move hst rfl) ?_; intro a hst
            refine r_t hst trivial rfl (x_assign hst rfl) ?_; intro a hst
            refine r_t hst trivial rfl (x_assign hst rfl) ?_; intro a hst
            refine wpL_nil ?_
            refine then_normal ?_
            refine wq_ret ?_
            refine then_ret ?_
            obtain rfl := Option.some.inj H
            exact ret2 hst rfl rfl rfl ⟨rfl, hsh.pick [0]⟩
          · rw [if_neg c174] at H
            replace c174 := Bool.eq_false_iff.2 c174
            refine wq_condF hst rfl c174 ?_
            refine wq_skip ?_
            refine then_normal ?_
            refine wq_seq ?_
            have hw185_0 := hsh.row 0 rfl
            refine wq_region_t (.inl rfl) (.fin [(3, 0), (3, 1), (3, 2), (3, 3), (3, 4), (3, 5), (3, 6), (0, 7), (3, 8), (3, 9), (3, 10), (0, 11), (3, 12), (2, 13), (0, 14), (2, 15)]) (fun w' => SH GG w w' []) (fun w' => SH GG w w' [Row (Kd.int .i64) 3 va0 l9]) (fun w' => SH GG w w' [Row (Kd.int .i64) 3 va0 l9]) (shut_sh _ _ _) (shut_sh _ _ _) (shut_sh _ _ _) (sub_sh [] rfl) (sub_sh [0] rfl) hsh.drew fo (by kernel_rfl) ?_
            refine t_fin ?_
            refine m_p hst trivial rfl (fun _ => x_move hst rfl) ?_; intro a hst
            refine m_p hst trivial rfl (fun _ => x_move hst rfl) ?_; intro a hst
            refine m_p hst trivial rfl (fun _ => x_move hst rfl) ?_; intro a hst
            refine m_p hst trivial rfl (fun _ => x_move hst rfl) ?_; intro a hst
            refine m_p hst trivial rfl (fun _ => x_move hst rfl) ?_; intro a hst
            refine m_p hst trivial rfl (fun _ => x_move hst rfl) ?_; intro a hst
            obtain ⟨x186, hx186, H⟩ := Option.bind_eq_some_iff.1 H
            refine m_p hst trivial rfl (fun _ => x_indexAddr hst Try.underlying56 el_3 rfl rfl hw185_0 hx186) ?_; intro a hst
            refine m_t hst trivial rfl (fun _ hsh => x_loadEF (j := 0) (cs := [.int .i64 x186]) hst sc_3 rfl (hsh.row 0 rfl) (Same.refl _ _) hx186 rfl (fun _ h => h) rfl) ?_; intro a hst
            refine m_p hst trivial rfl (fun _ => x_move hst rfl) ?_; intro a hst
            refine m_p hst trivial rfl (fun _ => x_move hst rfl) ?_; intro a hst
            obtain ⟨x187, hx187, H⟩ := Option.bind_eq_some_iff.1 H
            refine m_p hst trivial rfl (fun _ => x_indexAddr hst Try.underlying56 el_3 rfl rfl hw185_0 hx187) ?_; intro a hst
            refine m_t hst trivial rfl (fun _ hsh => x_loadEF (j := 0) (cs := [.int .i64 x187]) hst sc_3 rfl (hsh.row 0 rfl) (Same.refl _ _) hx187 rfl (fun _ h => h) rfl) ?_; intro a hst
            obtain ⟨x188, hx188, H⟩ := Option.bind_eq_some_iff.1 H
            refine m_p hst trivial rfl (fun _ => x_indexAddr hst Try.underlying56 el_3 rfl rfl hw185_0 hx188) ?_; intro a hst
            refine m_loud (.inr rfl) ?_
            intro w189 hsh
            obtain ⟨l190, hl190, H⟩ := Option.bind_eq_some_iff.1 H
            refine r_storeE (i := 0) (off := 0) (new := x186) (cs' := [.int .i64 x186]) hst hsh trivial sc_3 rfl rfl rfl hx188 rfl (Nat.le_of_ble_eq_true rfl) rfl (fun _ _ _ h => by rw [h]; rfl) (fun _ _ => rfl) ?_; intro a w191 hsh hst
            rw [← upd_some hl190] at hsh
            refine m_turn hsh (sub_sh [] rfl) ?_
            obtain ⟨x192, hx192, H⟩ := Option.bind_eq_some_iff.1 H
            refine m_t hst trivial rfl (fun _ hsh => x_indexAddr hst Try.underlying56 el_3 rfl rfl (hsh.row 0 rfl) hx192) ?_; intro a hst
            refine m_loud (.inr rfl) ?_
            intro w193 hsh
            obtain ⟨l194, hl194, H⟩ := Option.bind_eq_some_iff.1 H
            refine r_storeE (i := 0) (off := 0) (new := x187) (cs' := [.int .i64 x187]) hst hsh trivial sc_3 rfl rfl rfl hx192 rfl (Nat.le_of_ble_eq_true rfl) rfl (fun _ _ _ h => by rw [h]; rfl) (fun _ _ => rfl) ?_; intro a w195 hsh hst
            rw [← upd_some hl194] at hsh
            refine m_turn hsh (sub_sh [] rfl) ?_
            refine m_nil ?_
            intro w196 hsh
            refine qn_normal ?_
            refine then_normal ?_
            refine wq_seq ?_
            refine wq_region_lit (.inl rfl) ?_
            refine r_t hst trivial rfl (x_move hst rfl) ?_; intro a hst
            refine r_t hst trivial rfl (x_arI (r := w64 (i_20 + 1)) hst rfl rfl rfl) ?_; intro a hst
            refine r_t hst trivial rfl (x_assign hst rfl) ?_; intro a hst
            refine wpL_nil ?_
            refine then_normal ?_
            refine wq_seq ?_
            refine wq_region_lit (.inl rfl) ?_
            refine r_t hst trivial rfl (x_move hst rfl) ?_; intro a hst
            refine r_t hst trivial rfl (x_arI (r := w64 (i_65 - 1)) hst rfl rfl rfl) ?_; intro a hst
            refine r_t hst trivial rfl (x_assign hst rfl) ?_; intro a hst
            refine wpL_nil ?_
            refine then_normal ?_
            obtain ⟨J_415, hJ_415, H⟩ := Jn.elim H
            refine wq_cut (fun a w' => ∃ (l_412 : (List Int)), ∃ (i_413 : Int), J_415 l_412 i_413 = some r ∧ ST [] Try.f78.ntmps a [(0, va0), (1, .int .i64 a1), (8, .int .i64 0), (9, .bool false), (11, .int .i64 i_413)] ∧ SH GG w w' [Row (Kd.int .i64) 3 va0 l_412]) ?_ ?_
            · rintro a W_414 ⟨l_412, i_413, H, hst, hsh⟩
              subst hJ_415
              dsimp only at H
              refine wq_seq ?_
              have hw1027_0 := hsh.row 0 rfl
              refine wq_region_t (.inl rfl) (.fin [(3, 0), (3, 1), (3, 2), (3, 3), (3, 4), (3, 5), (3, 6), (0, 7), (3, 8), (3, 9), (3, 10), (0, 11), (3, 12), (2, 13), (0, 14), (2, 15)]) (fun w' => SH GG w w' []) (fun w' => SH GG w w' [Row (Kd.int .i64) 3 va0 l_412]) (fun w' => SH GG w w' [Row (Kd.int .i64) 3 va0 l_412]) (shut_sh _ _ _) (shut_sh _ _ _) (shut_sh _ _ _) (sub_sh [] rfl) (sub_sh [0] rfl) hsh.drew fo (by kernel_rfl) ?_
              refine t_fin ?_
              refine m_p hst trivial rfl (fun _ => x_move hst rfl) ?_; intro a hst
              refine m_p hst trivial rfl (fun _ => x_move hst rfl) ?_; intro a hst
              refine m_p hst trivial rfl (fun _ => x_move hst rfl) ?_; intro a hst
              refine m_p hst trivial rfl (fun _ => x_move hst rfl) ?_; intro a hst
              refine m_p hst trivial rfl (fun _ => x_move hst rfl) ?_; intro a hst
              refine m_p hst trivial rfl (fun _ => x_move hst rfl) ?_; intro a hst
              obtain ⟨x1028, hx1028, H⟩ := Option.bind_eq_some_iff.1 H
              refine m_p hst trivial rfl (fun _ => x_indexAddr hst Try.underlying56 el_3 rfl rfl hw1027_0 hx1028) ?_; intro a hst
              refine m_t hst trivial rfl (fun _ hsh => x_loadEF (j := 0) (cs := [.int .i64 x1028]) hst sc_3 rfl (hsh.row 0 rfl) (Same.refl _ _) hx1028 rfl (fun _ h => h) rfl) ?_; intro a hst
              refine m_p hst trivial rfl (fun _ => x_move hst rfl) ?_; intro a hst
              refine m_p hst trivial rfl (fun _ => x_move hst rfl) ?_; intro a hst
              obtain ⟨x1029, hx1029, H⟩ := Option.bind_eq_some_iff.1 H
              refine m_p hst trivial rfl (fun _ => x_indexAddr hst Try.underlying56 el_3 rfl rfl hw1027_0 hx1029) ?_; intro a hst
              refine m_t hst trivial rfl (fun _ hsh => x_loadEF (j := 0) (cs := [.int .i64 x1029]) hst sc_3 rfl (hsh.row 0 rfl) (Same.refl _ _) hx1029 rfl (fun _ h => h) rfl) ?_; intro a hst
              obtain ⟨x1030, hx1030, H⟩ := Option.bind_eq_some_iff.1 H
              refine m_p hst trivial rfl (fun _ => x_indexAddr hst Try.underlying56 el_3 rfl rfl hw1027_0 hx1030) ?_; intro a hst
              refine m_loud (.inr rfl) ?_
              intro w1031 hsh
              obtain ⟨l1032, hl1032, H⟩ := Option.bind_eq_some_iff.1 H
              refine r_storeE (i := 0) (off := 0) (new := x1028) (cs' := [.int .i64 x1028]) hst hsh trivial sc_3 rfl rfl rfl hx1030 rfl (Nat.le_of_ble_eq_true rfl) rfl (fun _ _ _ h => by rw [h]; rfl) (fun _ _ => rfl) ?_; intro a w1033 hsh hst
              rw [← upd_some hl1032] at hsh
              refine m_turn hsh (sub_sh [] rfl) ?_
              obtain ⟨x1034, hx1034, H⟩ := Option.bind_eq_some_iff.1 H
              refine m_t hst trivial rfl (fun _ hsh => x_indexAddr hst Try.underlying56 el_3 rfl rfl (hsh.row 0 rfl) hx1034) ?_; intro a hst
              refine m_loud (.inr rfl) ?_
              intro w1035 hsh
              obtain ⟨l1036, hl1036, H⟩ := Option.bind_eq_some_iff.1 H
              refine r_storeE (i := 0) (off := 0) (new := x1029) (cs' := [.int .i64 x1029]) hst hsh trivial sc_3 rfl rfl rfl hx1034 rfl (Nat.le_of_ble_eq_true rfl) rfl (fun _ _ _ h => by rw [h]; rfl) (fun _ _ => rfl) ?_; intro a w1037 hsh hst
              rw [← upd_some hl1036] at hsh
              refine m_turn hsh (sub_sh [] rfl) ?_
              refine m_nil ?_
              intro w1038 hsh
              refine qn_normal ?_
              refine then_normal ?_
              refine wq_seq ?_
              refine wq_region_lit (.inl rfl) ?_
              refine r_t hst trivial rfl (x_move hst rfl) ?_; intro a hst
              refine r_t hst trivial rfl (x_assign hst rfl) ?_; intro a hst
              refine r_t hst trivial rfl (x_assign hst rfl) ?_; intro a hst
              refine wpL_nil ?_
              refine then_normal ?_
              refine wq_ret ?_
              obtain rfl := Option.some.inj H
              exact ret2 hst rfl rfl rfl ⟨rfl, hsh.pick [0]⟩
            · refine wq_block ?_
              refine wq_loop_fuel (fun k_649 a w' => ∃ (l_531 : (List Int)), ∃ (i_532 : Int), ∃ (i_533 : Int), slices_partitionOrdered_int.l1 a1 J_415 k_649 l_531 i_532 i_533 = some r ∧ ST [] Try.f78.ntmps a [(0, va0), (1, .int .i64 a1), (8, .int .i64 0), (9, .bool false), (10, .int .i64 i_532), (11, .int .i64 i_533)] ∧ SH GG w w' [Row (Kd.int .i64) 3 va0 l_531]) k_32 ?_ ?_
              · exact ⟨l194, (w64 (i_20 + 1)), (w64 (i_65 - 1)), H, hst.keep _ ⟨rfl, rfl, rfl, rfl, rfl, rfl, trivial⟩, hsh.pick [0]⟩
              · rintro k_649 a W_534 ⟨l_531, i_532, i_533, H, hst, hsh⟩
                cases k_649 with
                | zero => rw [slices_partitionOrdered_int.l1] at H; cases H
                | succ k_649 =>
                 rw [slices_partitionOrdered_int.l1] at H
                 refine wq_block ?_
                 obtain ⟨J_678, hJ_678, H⟩ := Jn.elim H
                 refine wq_cut (fun a w' => ∃ (i_676 : Int), J_678 i_676 = some r ∧ ST [] Try.f78.ntmps a [(0, va0), (1, .int .i64 a1), (8, .int .i64 0), (9, .bool false), (10, .int .i64 i_676), (11, .int .i64 i_533)] ∧ SH GG w w' [Row (Kd.int .i64) 3 va0 l_531]) ?_ ?_
                 · rintro a W_677 ⟨i_676, H, hst, hsh⟩
                   subst hJ_678
                   dsimp only at H
                   obtain ⟨J_707, hJ_707, H⟩ := Jn.elim H
                   refine wq_cut (fun a w' => ∃ (i_705 : Int), J_707 i_705 = some r ∧ ST [] Try.f78.ntmps a [(0, va0), (1, .int .i64 a1), (8, .int .i64 0), (9, .bool false), (10, .int .i64 i_676), (11, .int .i64 i_705)] ∧ SH GG w w' [Row (Kd.int .i64) 3 va0 l_531]) ?_ ?_
                   · rintro a W_706 ⟨i_705, H, hst, hsh⟩
                     subst hJ_707
                     dsimp only at H
                     refine wq_seq ?_
                     refine wq_seq ?_
                     refine wq_region_lit (.inl rfl) ?_
                     refine r_t hst trivial rfl (x_move hst rfl) ?_; intro a hst
                     refine r_t hst trivial rfl (x_move hst rfl) ?_; intro a hst
                     refine r_t hst trivial rfl (x_cmpI (b := decide (i_705 < i_676)) hst rfl rfl rfl) ?_; intro a hst
                     refine wpL_nil ?_
                     refine then_normal ?_
                     by_cases c1726 : (decide (i_705 < i_676)) = true
                     · rw [if_pos c1726] at H
                       refine wq_condT hst rfl c1726 ?_
                       refine wq_exit ?_
                       refine then_exit ?_
                       refine block_miss rfl ?_
                       refine then_exit ?_
                       refine block_hit ?_
                       refine then_normal ?_
                       exact ⟨l_531, i_705, H, hst.keep _ ⟨rfl, rfl, rfl, rfl, rfl, trivial⟩, hsh.pick [0]⟩
                     · rw [if_neg c1726] at H
                       replace c1726 := Bool.eq_false_iff.2 c1726
                       refine wq_condF hst rfl c1726 ?_
                       refine wq_skip ?_
                       refine then_normal ?_
                       refine wq_seq ?_
                       have hw1726_0 := hsh.row 0 rfl
                       refine wq_region_t (.inl rfl) (.fin [(3, 0), (3, 1), (3, 2), (3, 3), (3, 4), (3, 5), (3, 6), (0, 7), (3, 8), (3, 9), (3, 10), (0, 11), (3, 12), (2, 13), (0, 14), (2, 15)]) (fun w' => SH GG w w' []) (fun w' => SH GG w w' [Row (Kd.int .i64) 3 va0 l_531]) (fun w' => SH GG w w' [Row (Kd.int .i64) 3 va0 l_531]) (shut_sh _ _ _) (shut_sh _ _ _) (shut_sh _ _ _) (sub_sh [] rfl) (sub_sh [0] rfl) hsh.drew fo (by kernel_rfl) ?_
                       refine t_fin ?_
                       refine m_p hst trivial rfl (fun _ => x_move hst rfl) ?_; intro a hst
                       refine m_p hst trivial rfl (fun _ => x_move hst rfl) ?_; intro a hst
                       refine m_p hst trivial rfl (fun _ => x_move hst rfl) ?_; intro a hst
                       refine m_p hst trivial rfl (fun _ => x_move hst rfl) ?_; intro a hst
                       refine m_p hst trivial rfl (fun _ => x_move hst rfl) ?_; intro a hst
                       refine m_p hst trivial rfl (fun _ => x_move hst rfl) ?_; intro a hst
                       obtain ⟨x1727, hx1727, H⟩ := Option.bind_eq_some_iff.1 H
                       refine m_p hst trivial rfl (fun _ => x_indexAddr hst Try.underlying56 el_3 rfl rfl hw1726_0 hx1727) ?_; intro a hst
                       refine m_t hst trivial rfl (fun _ hsh => x_loadEF (j := 0) (cs := [.int .i64 x1727]) hst sc_3 rfl (hsh.row 0 rfl) (Same.refl _ _) hx1727 rfl (fun _ h => h) rfl) ?_; intro a hst
                       refine m_p hst trivial rfl (fun _ => x_move hst rfl) ?_; intro a hst
                       refine m_p hst trivial rfl (fun _ => x_move hst rfl) ?_; intro a hst
                       obtain ⟨x1728, hx1728, H⟩ := Option.bind_eq_some_iff.1 H
                       refine m_p hst trivial rfl (fun _ => x_indexAddr hst Try.underlying56 el_3 rfl rfl hw1726_0 hx1728) ?_; intro a hst
                       refine m_t hst trivial rfl (fun _ hsh => x_loadEF (j := 0) (cs := [.int .i64 x1728]) hst sc_3 rfl (hsh.row 0 rfl) (Same.refl _ _) hx1728 rfl (fun _ h => h) rfl) ?_; intro a hst
                       obtain ⟨x1729, hx1729, H⟩ := Option.bind_eq_some_iff.1 H
                       refine m_p hst trivial rfl (fun _ => x_indexAddr hst Try.underlying56 el_3 rfl rfl hw1726_0 hx1729) ?_; intro a hst
                       refine m_loud (.inr rfl) ?_
                       intro w1730 hsh
                       obtain ⟨l1731, hl1731, H⟩ := Option.bind_eq_some_iff.1 H
                       refine r_storeE (i := 0) (off := 0) (new := x1727) (cs' := [.int .i64 x1727]) hst hsh trivial sc_3 rfl rfl rfl hx1729 rfl (Nat.le_of_ble_eq_true rfl) rfl (fun _ _ _ h => by rw [h]; rfl) (fun _ _ => rfl) ?_; intro a w1732 hsh hst
                       rw [← upd_some hl1731] at hsh
                       refine m_turn hsh (sub_sh [] rfl) ?_
                       obtain ⟨x1733, hx1733, H⟩ := Option.bind_eq_some_iff.1 H
                       refine m_t hst trivial rfl (fun _ hsh => x_indexAddr hst Try.underlying56 el_3 rfl rfl (hsh.row 0 rfl) hx1733) ?_; intro a hst
                       refine m_loud (.inr rfl) ?_
                       intro w1734 hsh
                       obtain ⟨l1735, hl1735, H⟩ := Option.bind_eq_some_iff.1 H
                       refine r_storeE (i := 0) (off := 0) (new := x1728) (cs' := [.int .i64 x1728]) hst hsh trivial sc_3 rfl rfl rfl hx1733 rfl (Nat.le_of_ble_eq_true rfl) rfl (fun _ _ _ h => by rw [h]; rfl) (fun _ _ => rfl) ?_; intro a w1736 hsh hst
                       rw [← upd_some hl1735] at hsh
                       refine m_turn hsh (sub_sh [] rfl) ?_
                       refine m_nil ?_
                       intro w1737 hsh
                       refine qn_normal ?_
                       refine then_normal ?_
                       refine wq_seq ?_
                       refine wq_region_lit (.inl rfl) ?_
                       refine r_t hst trivial rfl (x_move hst rfl) ?_; intro a hst
                       refine r_t hst trivial rfl (x_arI (r := w64 (i_676 + 1)) hst rfl rfl rfl) ?_; intro a hst
                       refine r_t hst trivial rfl (x_assign hst rfl) ?_; intro a hst
                       refine wpL_nil ?_
                       refine then_normal ?_
                       refine wq_region_lit (.inl rfl) ?_
                       refine r_t hst trivial rfl (x_move hst rfl) ?_; intro a hst
                       refine r_t hst trivial rfl (x_arI (r := w64 (i_705 - 1)) hst rfl rfl rfl) ?_; intro a hst
                       refine r_t hst trivial rfl (x_assign hst rfl) ?_; intro a hst
                       refine wpL_nil ?_
                       refine block_normal ?_
                       refine then_normal ?_
                       exact ⟨k_649, Nat.lt_succ_self _, l1735, (w64 (i_676 + 1)), (w64 (i_705 - 1)), H, hst.keep _ ⟨rfl, rfl, rfl, rfl, rfl, rfl, trivial⟩, hsh.pick [0]⟩
                   · refine wq_block ?_
                     refine wq_loop_fuel (fun k_727 a w' => ∃ (i_717 : Int), slices_partitionOrdered_int.l2 a1 l_531 i_676 J_707 k_727 i_717 = some r ∧ ST [] Try.f78.ntmps a [(0, va0), (1, .int .i64 a1), (8, .int .i64 0), (9, .bool false), (10, .int .i64 i_676), (11, .int .i64 i_717)] ∧ SH GG w w' [Row (Kd.int .i64) 3 va0 l_531]) k_649 ?_ ?_
                     · exact ⟨i_533, H, hst.keep _ ⟨rfl, rfl, rfl, rfl, rfl, rfl, trivial⟩, hsh.pick [0]⟩
                     · rintro k_727 a W_718 ⟨i_717, H, hst, hsh⟩
                       cases k_727 with
                       | zero => rw [slices_partitionOrdered_int.l2] at H; cases H
                       | succ k_727 =>
                        rw [slices_partitionOrdered_int.l2] at H
                        refine wq_seq ?_
                        refine wq_seq ?_
                        refine wq_region_q (.inl rfl) (fun w' => SH GG w w' [Row (Kd.int .i64) 3 va0 l_531]) (shut_sh _ _ _) hsh.drew fo (by kernel_rfl) ?_
                        refine q_t hst trivial rfl (fun _ hsh => x_move hst rfl) ?_; intro a hst
                        refine q_t hst trivial rfl (fun _ hsh => x_move hst rfl) ?_; intro a hst
                        refine q_t hst trivial rfl (fun _ hsh => x_cmpI (b := decide (i_676 ≤ i_717)) hst rfl rfl rfl) ?_; intro a hst
                        refine q_t hst trivial rfl (fun _ hsh => x_move hst rfl) ?_; intro a hst
                        obtain ⟨J_732, hJ_732, H⟩ := Jn.elim H
                        refine q_join 15 (fun a => ∃ (b_731 : Bool), J_732 b_731 = some r ∧ ST [] Try.f78.ntmps a [(0, va0), (1, .int .i64 a1), (8, .int .i64 0), (9, .bool false), (10, .int .i64 i_676), (11, .int .i64 i_717), (129, .bool b_731)]) ?_ ?_
                        · rintro a ⟨b_731, H, hst⟩
                          subst hJ_732
                          dsimp only at H
                          refine q_nil ?_
                          intro w1798 hsh
                          refine then_normal ?_
                          by_cases c1799 : b_731 = true
                          · rw [if_pos c1799] at H
                            refine wq_condT hst rfl c1799 ?_
                            refine wq_skip ?_
                            refine then_normal ?_
                            refine wq_block ?_
                            refine wq_region_lit (.inl rfl) ?_
                            refine r_t hst trivial rfl (x_move hst rfl) ?_; intro a hst
                            refine r_t hst trivial rfl (x_arI (r := w64 (i_717 - 1)) hst rfl rfl rfl) ?_; intro a hst
                            refine r_t hst trivial rfl (x_assign hst rfl) ?_; intro a hst
                            refine wpL_nil ?_
                            refine block_normal ?_
                            refine then_normal ?_
                            exact ⟨k_727, Nat.lt_succ_self _, (w64 (i_717 - 1)), H, hst.keep _ ⟨rfl, rfl, rfl, rfl, rfl, rfl, trivial⟩, hsh.pick [0]⟩
                          · rw [if_neg c1799] at H
                            replace c1799 := Bool.eq_false_iff.2 c1799
                            refine wq_condF hst rfl c1799 ?_
                            refine wq_exit ?_
                            refine then_exit ?_
                            refine then_exit ?_
                            refine block_hit ?_
                            refine then_normal ?_
                            exact ⟨i_717, H, hst.keep _ ⟨rfl, rfl, rfl, rfl, rfl, rfl, trivial⟩, hsh.pick [0]⟩
                        · intro hj
                          by_cases c1793 : (decide (i_676 ≤ i_717)) = true
                          · rw [if_pos c1793] at H
                            refine q_t hst (wt_of 118 rfl rfl c1793) rfl (fun _ hsh => x_move hst rfl) ?_; intro a hst
                            refine q_t hst (wt_of 118 rfl rfl c1793) rfl (fun _ hsh => x_move hst rfl) ?_; intro a hst
                            obtain ⟨x1800, hx1800, H⟩ := Option.bind_eq_some_iff.1 H
                            refine q_t hst (wt_of 118 rfl rfl c1793) rfl (fun _ hsh => x_indexAddr hst Try.underlying56 el_3 rfl rfl (hsh.row 0 rfl) hx1800) ?_; intro a hst
                            refine q_t hst (wt_of 118 rfl rfl c1793) rfl (fun _ hsh => x_loadEF (j := 0) (cs := [.int .i64 x1800]) hst sc_3 rfl (hsh.row 0 rfl) (Same.refl _ _) hx1800 rfl (fun _ h => h) rfl) ?_; intro a hst
                            refine q_t hst (wt_of 118 rfl rfl c1793) rfl (fun _ hsh => x_move hst rfl) ?_; intro a hst
                            refine q_t hst (wt_of 118 rfl rfl c1793) rfl (fun _ hsh => x_move hst rfl) ?_; intro a hst
                            obtain ⟨x1801, hx1801, H⟩ := Option.bind_eq_some_iff.1 H
                            refine q_t hst (wt_of 118 rfl rfl c1793) rfl (fun _ hsh => x_indexAddr hst Try.underlying56 el_3 rfl rfl (hsh.row 0 rfl) hx1801) ?_; intro a hst
                            refine q_t hst (wt_of 118 rfl rfl c1793) rfl (fun _ hsh => x_loadEF (j := 0) (cs := [.int .i64 x1801]) hst sc_3 rfl (hsh.row 0 rfl) (Same.refl _ _) hx1801 rfl (fun _ h => h) rfl) ?_; intro a hst
                            obtain ⟨r1802, hr1802, H⟩ := Option.bind_eq_some_iff.1 H
                            refine q_call hst (wt_of 118 rfl rfl c1793) rfl fn_76 rfl (fun w9 hsh => cmp_Less_int.calls _ x1800 x1801 r1802 hr1802) ?_; intro a hst
                            refine q_t hst (wt_of 118 rfl rfl c1793) rfl (fun _ hsh => x_notB hst rfl) ?_; intro a hst
                            refine q_t hst trivial rfl (fun _ hsh => x_pickT hst rfl c1793 rfl) ?_; intro a hst
                            exact hj _ ⟨(!r1802), H, hst.keep _ ⟨rfl, rfl, rfl, rfl, rfl, rfl, rfl, trivial⟩⟩
                          · rw [if_neg c1793] at H
                            replace c1793 := Bool.eq_false_iff.2 c1793
                            refine q_not hst 118 rfl rfl c1793 rfl ?_; intro a hst
                            refine q_not hst 118 rfl rfl c1793 rfl ?_; intro a hst
                            refine q_not hst 118 rfl rfl c1793 rfl ?_; intro a hst
                            refine q_not hst 118 rfl rfl c1793 rfl ?_; intro a hst
                            refine q_not hst 118 rfl rfl c1793 rfl ?_; intro a hst
                            refine q_not hst 118 rfl rfl c1793 rfl ?_; intro a hst
                            refine q_not hst 118 rfl rfl c1793 rfl ?_; intro a hst
                            refine q_not hst 118 rfl rfl c1793 rfl ?_; intro a hst
                            refine q_not hst 118 rfl rfl c1793 rfl ?_; intro a hst
                            refine q_not hst 118 rfl rfl c1793 rfl ?_; intro a hst
                            refine q_t hst trivial rfl (fun _ hsh => x_pickF hst rfl c1793 rfl) ?_; intro a hst
                            exact hj _ ⟨false, H, hst.keep _ ⟨rfl, rfl, rfl, rfl, rfl, rfl, rfl, trivial⟩⟩
                 · refine wq_block ?_
                   refine wq_loop_fuel (fun k_753 a w' => ∃ (i_743 : Int), slices_partitionOrdered_int.l3 a1 l_531 i_533 J_678 k_753 i_743 = some r ∧ ST [] Try.f78.ntmps a [(0, va0), (1, .int .i64 a1), (8, .int .i64 0), (9, .bool false), (10, .int .i64 i_743), (11, .int .i64 i_533)] ∧ SH GG w w' [Row (Kd.int .i64) 3 va0 l_531]) k_649 ?_ ?_
                   · exact ⟨i_532, H, hst.keep _ ⟨rfl, rfl, rfl, rfl, rfl, rfl, trivial⟩, hsh.pick [0]⟩
                   · rintro k_753 a W_744 ⟨i_743, H, hst, hsh⟩
                     cases k_753 with
                     | zero => rw [slices_partitionOrdered_int.l3] at H; cases H
                     | succ k_753 =>
                      rw [slices_partitionOrdered_int.l3] at H
                      refine wq_seq ?_
                      refine wq_seq ?_
                      refine wq_region_q (.inl rfl) (fun w' => SH GG w w' [Row (Kd.int .i64) 3 va0 l_531]) (shut_sh _ _ _) hsh.drew fo (by kernel_rfl) ?_
                      refine q_t hst trivial rfl (fun _ hsh => x_move hst rfl) ?_; intro a hst
                      refine q_t hst trivial rfl (fun _ hsh => x_move hst rfl) ?_; intro a hst
                      refine q_t hst trivial rfl (fun _ hsh => x_cmpI (b := decide (i_743 ≤ i_533)) hst rfl rfl rfl) ?_; intro a hst
                      refine q_t hst trivial rfl (fun _ hsh => x_move hst rfl) ?_; intro a hst
                      obtain ⟨J_758, hJ_758, H⟩ := Jn.elim H
                      refine q_join 14 (fun a => ∃ (b_757 : Bool), J_758 b_757 = some r ∧ ST [] Try.f78.ntmps a [(0, va0), (1, .int .i64 a1), (8, .int .i64 0), (9, .bool false), (10, .int .i64 i_743), (11, .int .i64 i_533), (112, .bool b_757)]) ?_ ?_
                      · rintro a ⟨b_757, H, hst⟩
                        subst hJ_758
                        dsimp only at H
                        refine q_nil ?_
                        intro w1864 hsh
                        refine then_normal ?_
                        by_cases c1865 : b_757 = true
                        · rw [if_pos c1865] at H
                          refine wq_condT hst rfl c1865 ?_
                          refine wq_skip ?_
                          refine then_normal ?_
                          refine wq_block ?_
                          refine wq_region_lit (.inl rfl) ?_
                          refine r_t hst trivial rfl (x_move hst rfl) ?_; intro a hst
                          refine r_t hst trivial rfl (x_arI (r := w64 (i_743 + 1)) hst rfl rfl rfl) ?_; intro a hst
                          refine r_t hst trivial rfl (x_assign hst rfl) ?_; intro a hst
                          refine wpL_nil ?_
                          refine block_normal ?_
                          refine then_normal ?_
                          exact ⟨k_753, Nat.lt_succ_self _, (w64 (i_743 + 1)), H, hst.keep _ ⟨rfl, rfl, rfl, rfl, rfl, rfl, trivial⟩, hsh.pick [0]⟩
                        · rw [if_neg c1865] at H
                          replace c1865 := Bool.eq_false_iff.2 c1865
                          refine wq_condF hst rfl c1865 ?_
                          refine wq_exit ?_
                          refine then_exit ?_
                          refine then_exit ?_
                          refine block_hit ?_
                          refine then_normal ?_
                          exact ⟨i_743, H, hst.keep _ ⟨rfl, rfl, rfl, rfl, rfl, rfl, trivial⟩, hsh.pick [0]⟩
                      · intro hj
                        by_cases c1859 : (decide (i_743 ≤ i_533)) = true
                        · rw [if_pos c1859] at H
                          refine q_t hst (wt_of 102 rfl rfl c1859) rfl (fun _ hsh => x_move hst rfl) ?_; intro a hst
                          refine q_t hst (wt_of 102 rfl rfl c1859) rfl (fun _ hsh => x_move hst rfl) ?_; intro a hst
                          obtain ⟨x1866, hx1866, H⟩ := Option.bind_eq_some_iff.1 H
                          refine q_t hst (wt_of 102 rfl rfl c1859) rfl (fun _ hsh => x_indexAddr hst Try.underlying56 el_3 rfl rfl (hsh.row 0 rfl) hx1866) ?_; intro a hst
                          refine q_t hst (wt_of 102 rfl rfl c1859) rfl (fun _ hsh => x_loadEF (j := 0) (cs := [.int .i64 x1866]) hst sc_3 rfl (hsh.row 0 rfl) (Same.refl _ _) hx1866 rfl (fun _ h => h) rfl) ?_; intro a hst
                          refine q_t hst (wt_of 102 rfl rfl c1859) rfl (fun _ hsh => x_move hst rfl) ?_; intro a hst
                          refine q_t hst (wt_of 102 rfl rfl c1859) rfl (fun _ hsh => x_move hst rfl) ?_; intro a hst
                          obtain ⟨x1867, hx1867, H⟩ := Option.bind_eq_some_iff.1 H
                          refine q_t hst (wt_of 102 rfl rfl c1859) rfl (fun _ hsh => x_indexAddr hst Try.underlying56 el_3 rfl rfl (hsh.row 0 rfl) hx1867) ?_; intro a hst
                          refine q_t hst (wt_of 102 rfl rfl c1859) rfl (fun _ hsh => x_loadEF (j := 0) (cs := [.int .i64 x1867]) hst sc_3 rfl (hsh.row 0 rfl) (Same.refl _ _) hx1867 rfl (fun _ h => h) rfl) ?_; intro a hst
                          obtain ⟨r1868, hr1868, H⟩ := Option.bind_eq_some_iff.1 H
                          refine q_call hst (wt_of 102 rfl rfl c1859) rfl fn_76 rfl (fun w9 hsh => cmp_Less_int.calls _ x1866 x1867 r1868 hr1868) ?_; intro a hst
                          refine q_t hst trivial rfl (fun _ hsh => x_pickT hst rfl c1859 rfl) ?_; intro a hst
                          exact hj _ ⟨r1868, H, hst.keep _ ⟨rfl, rfl, rfl, rfl, rfl, rfl, rfl, trivial⟩⟩
                        · rw [if_neg c1859] at H
                          replace c1859 := Bool.eq_false_iff.2 c1859
                          refine q_not hst 102 rfl rfl c1859 rfl ?_; intro a hst
                          refine q_not hst 102 rfl rfl c1859 rfl ?_; intro a hst
                          refine q_not hst 102 rfl rfl c1859 rfl ?_; intro a hst
                          refine q_not hst 102 rfl rfl c1859 rfl ?_; intro a hst
                          refine q_not hst 102 rfl rfl c1859 rfl ?_; intro a hst
                          refine q_not hst 102 rfl rfl c1859 rfl ?_; intro a hst
                          refine q_not hst 102 rfl rfl c1859 rfl ?_; intro a hst
                          refine q_not hst 102 rfl rfl c1859 rfl ?_; intro a hst
                          refine q_not hst 102 rfl rfl c1859 rfl ?_; intro a hst
                          refine q_t hst trivial rfl (fun _ hsh => x_pickF hst rfl c1859 rfl) ?_; intro a hst
                          exact hj _ ⟨false, H, hst.keep _ ⟨rfl, rfl, rfl, rfl, rfl, rfl, rfl, trivial⟩⟩
        · refine wq_block ?_
          refine wq_loop_fuel (fun k_779 a w' => ∃ (i_769 : Int), slices_partitionOrdered_int.l4 a1 l9 i_20 J_67 k_779 i_769 = some r ∧ ST [] Try.f78.ntmps a [(0, va0), (1, .int .i64 a1), (8, .int .i64 0), (9, .bool false), (10, .int .i64 i_20), (11, .int .i64 i_769)] ∧ SH GG w w' [Row (Kd.int .i64) 3 va0 l9]) k_32 ?_ ?_
          · exact ⟨i_21, H, hst.keep _ ⟨rfl, rfl, rfl, rfl, rfl, rfl, trivial⟩, hsh.pick [0]⟩
          · rintro k_779 a W_770 ⟨i_769, H, hst, hsh⟩
            cases k_779 with
            | zero => rw [slices_partitionOrdered_int.l4] at H; cases H
            | succ k_779 =>
             rw [slices_partitionOrdered_int.l4] at H
             refine wq_seq ?_
             refine wq_seq ?_
             refine wq_region_q (.inl rfl) (fun w' => SH GG w w' [Row (Kd.int .i64) 3 va0 l9]) (shut_sh _ _ _) hsh.drew fo (by kernel_rfl) ?_
             refine q_t hst trivial rfl (fun _ hsh => x_move hst rfl) ?_; intro a hst
             refine q_t hst trivial rfl (fun _ hsh => x_move hst rfl) ?_; intro a hst
             refine q_t hst trivial rfl (fun _ hsh => x_cmpI (b := decide (i_20 ≤ i_769)) hst rfl rfl rfl) ?_; intro a hst
             refine q_t hst trivial rfl (fun _ hsh => x_move hst rfl) ?_; intro a hst
             obtain ⟨J_784, hJ_784, H⟩ := Jn.elim H
             refine q_join 15 (fun a => ∃ (b_783 : Bool), J_784 b_783 = some r ∧ ST [] Try.f78.ntmps a [(0, va0), (1, .int .i64 a1), (8, .int .i64 0), (9, .bool false), (10, .int .i64 i_20), (11, .int .i64 i_769), (60, .bool b_783)]) ?_ ?_
             · rintro a ⟨b_783, H, hst⟩
               subst hJ_784
               dsimp only at H
               refine q_nil ?_
               intro w1930 hsh
               refine then_normal ?_
               by_cases c1931 : b_783 = true
               · rw [if_pos c1931] at H
                 refine wq_condT hst rfl c1931 ?_
                 refine wq_skip ?_
                 refine then_normal ?_
                 refine wq_block ?_
                 refine wq_region_lit (.inl rfl) ?_
                 refine r_t hst trivial rfl (x_move hst rfl) ?_; intro a hst
                 refine r_t hst trivial rfl (x_arI (r := w64 (i_769 - 1)) hst rfl rfl rfl) ?_; intro a hst
                 refine r_t hst trivial rfl (x_assign hst rfl) ?_; intro a hst
                 refine wpL_nil ?_
                 refine block_normal ?_
                 refine then_normal ?_
                 exact ⟨k_779, Nat.lt_succ_self _, (w64 (i_769 - 1)), H, hst.keep _ ⟨rfl, rfl, rfl, rfl, rfl, rfl, trivial⟩, hsh.pick [0]⟩
               · rw [if_neg c1931] at H
                 replace c1931 := Bool.eq_false_iff.2 c1931
                 refine wq_condF hst rfl c1931 ?_
                 refine wq_exit ?_
                 refine then_exit ?_
                 refine then_exit ?_
                 refine block_hit ?_
                 refine then_normal ?_
                 exact ⟨i_769, H, hst.keep _ ⟨rfl, rfl, rfl, rfl, rfl, rfl, trivial⟩, hsh.pick [0]⟩
             · intro hj
               by_cases c1925 : (decide (i_20 ≤ i_769)) = true
               · rw [if_pos c1925] at H
                 refine q_t hst (wt_of 49 rfl rfl c1925) rfl (fun _ hsh => x_move hst rfl) ?_; intro a hst
                 refine q_t hst (wt_of 49 rfl rfl c1925) rfl (fun _ hsh => x_move hst rfl) ?_; intro a hst
                 obtain ⟨x1932, hx1932, H⟩ := Option.bind_eq_some_iff.1 H
                 refine q_t hst (wt_of 49 rfl rfl c1925) rfl (fun _ hsh => x_indexAddr hst Try.underlying56 el_3 rfl rfl (hsh.row 0 rfl) hx1932) ?_; intro a hst
                 refine q_t hst (wt_of 49 rfl rfl c1925) rfl (fun _ hsh => x_loadEF (j := 0) (cs := [.int .i64 x1932]) hst sc_3 rfl (hsh.row 0 rfl) (Same.refl _ _) hx1932 rfl (fun _ h => h) rfl) ?_; intro a hst
                 refine q_t hst (wt_of 49 rfl rfl c1925) rfl (fun _ hsh => x_move hst rfl) ?_; intro a hst
                 refine q_t hst (wt_of 49 rfl rfl c1925) rfl (fun _ hsh => x_move hst rfl) ?_; intro a hst
                 obtain ⟨x1933, hx1933, H⟩ := Option.bind_eq_some_iff.1 H
                 refine q_t hst (wt_of 49 rfl rfl c1925) rfl (fun _ hsh => x_indexAddr hst Try.underlying56 el_3 rfl rfl (hsh.row 0 rfl) hx1933) ?_; intro a hst
                 refine q_t hst (wt_of 49 rfl rfl c1925) rfl (fun _ hsh => x_loadEF (j := 0) (cs := [.int .i64 x1933]) hst sc_3 rfl (hsh.row 0 rfl) (Same.refl _ _) hx1933 rfl (fun _ h => h) rfl) ?_; intro a hst
                 obtain ⟨r1934, hr1934, H⟩ := Option.bind_eq_some_iff.1 H
                 refine q_call hst (wt_of 49 rfl rfl c1925) rfl fn_76 rfl (fun w9 hsh => cmp_Less_int.calls _ x1932 x1933 r1934 hr1934) ?_; intro a hst
                 refine q_t hst (wt_of 49 rfl rfl c1925) rfl (fun _ hsh => x_notB hst rfl) ?_; intro a hst
                 refine q_t hst trivial rfl (fun _ hsh => x_pickT hst rfl c1925 rfl) ?_; intro a hst
                 exact hj _ ⟨(!r1934), H, hst.keep _ ⟨rfl, rfl, rfl, rfl, rfl, rfl, rfl, trivial⟩⟩
               · rw [if_neg c1925] at H
                 replace c1925 := Bool.eq_false_iff.2 c1925
                 refine q_not hst 49 rfl rfl c1925 rfl ?_; intro a hst
                 refine q_not hst 49 rfl rfl c1925 rfl ?_; intro a hst
                 refine q_not hst 49 rfl rfl c1925 rfl ?_; intro a hst
                 refine q_not hst 49 rfl rfl c1925 rfl ?_; intro a hst
                 refine q_not hst 49 rfl rfl c1925 rfl ?_; intro a hst
                 refine q_not hst 49 rfl rfl c1925 rfl ?_; intro a hst
                 refine q_not hst 49 rfl rfl c1925 rfl ?_; intro a hst
                 refine q_not hst 49 rfl rfl c1925 rfl ?_; intro a hst
                 refine q_not hst 49 rfl rfl c1925 rfl ?_; intro a hst
                 refine q_not hst 49 rfl rfl c1925 rfl ?_; intro a hst
                 refine q_t hst trivial rfl (fun _ hsh => x_pickF hst rfl c1925 rfl) ?_; intro a hst
                 exact hj _ ⟨false, H, hst.keep _ ⟨rfl, rfl, rfl, rfl, rfl, rfl, rfl, trivial⟩⟩
    · intro hj
      by_cases c89 : (decide (i_20 ≤ i_21)) = true
      · rw [if_pos c89] at H
        refine q_t hst (wt_of 33 rfl rfl c89) rfl (fun _ hsh => x_move hst rfl) ?_; intro a hst
        refine q_t hst (wt_of 33 rfl rfl c89) rfl (fun _ hsh => x_move hst rfl) ?_; intro a hst
        obtain ⟨x1936, hx1936, H⟩ := Option.bind_eq_some_iff.1 H
        refine q_t hst (wt_of 33 rfl rfl c89) rfl (fun _ hsh => x_indexAddr hst Try.underlying56 el_3 rfl rfl (hsh.row 0 rfl) hx1936) ?_; intro a hst
        refine q_t hst (wt_of 33 rfl rfl c89) rfl (fun _ hsh => x_loadEF (j := 0) (cs := [.int .i64 x1936]) hst sc_3 rfl (hsh.row 0 rfl) (Same.refl _ _) hx1936 rfl (fun _ h => h) rfl) ?_; intro a hst
        refine q_t hst (wt_of 33 rfl rfl c89) rfl (fun _ hsh => x_move hst rfl) ?_; intro a hst
        refine q_t hst (wt_of 33 rfl rfl c89) rfl (fun _ hsh => x_move hst rfl) ?_; intro a hst
        obtain ⟨x1937, hx1937, H⟩ := Option.bind_eq_some_iff.1 H
        refine q_t hst (wt_of 33 rfl rfl c89) rfl (fun _ hsh => x_indexAddr hst Try.underlying56 el_3 rfl rfl (hsh.row 0 rfl) hx1937) ?_; intro a hst
        refine q_t hst (wt_of 33 rfl rfl c89) rfl (fun _ hsh => x_loadEF (j := 0) (cs := [.int .i64 x1937]) hst sc_3 rfl (hsh.row 0 rfl) (Same.refl _ _) hx1937 rfl (fun _ h => h) rfl) ?_; intro a hst
        obtain ⟨r1938, hr1938, H⟩ := Option.bind_eq_some_iff.1 H
        refine q_call hst (wt_of 33 rfl rfl c89) rfl fn_76 rfl (fun w9 hsh => cmp_Less_int.calls _ x1936 x1937 r1938 hr1938) ?_; intro a hst
        refine q_t hst trivial rfl (fun _ hsh => x_pickT hst rfl c89 rfl) ?_; intro a hst
        exact hj _ ⟨r1938, H, hst.keep _ ⟨rfl, rfl, rfl, rfl, rfl, rfl, rfl, trivial⟩⟩
      · rw [if_neg c89] at H
        replace c89 := Bool.eq_false_iff.2 c89
        refine q_not hst 33 rfl rfl c89 rfl ?_; intro a hst
        refine q_not hst 33 rfl rfl c89 rfl ?_; intro a hst
        refine q_not hst 33 rfl rfl c89 rfl ?_; intro a hst
        refine q_not hst 33 rfl rfl c89 rfl ?_; intro a hst
        refine q_not hst 33 rfl rfl c89 rfl ?_; intro a hst
        refine q_not hst 33 rfl rfl c89 rfl ?_; intro a hst
        refine q_not hst 33 rfl rfl c89 rfl ?_; intro a hst
        refine q_not hst 33 rfl rfl c89 rfl ?_; intro a hst
        refine q_not hst 33 rfl rfl c89 rfl ?_; intro a hst
        refine q_t hst trivial rfl (fun _ hsh => x_pickF hst rfl c89 rfl) ?_; intro a hst
        exact hj _ ⟨false, H, hst.keep _ ⟨rfl, rfl, rfl, rfl, rfl, rfl, rfl, trivial⟩⟩

set_option maxHeartbeats 4000000 in
set_option maxRecDepth 100000 in
theorem slices_pdqsortOrdered_int.calls (k : Nat) : ∀ (w : World) (GG : Nat → Prop) (va0 : Value) (a0 : (List Int)) (a1 : Int) (a2 : Int) (a3 : Int) (hsep : Sep GG w [Row (Kd.int .i64) 3 va0 a0]) (r : (List Int)) (h : slices_pdqsortOrdered_int k a0 a1 a2 a3 = some r),
    Calls Try.prog 65 ([va0, .int .i64 a1, .int .i64 a2, .int .i64 a3] : List Value).toArray w fun e w' => e = .returned (.tuple #[]) ∧ SH GG w w' [Row (Kd.int .i64) 3 va0 r] := by
 induction k with
 | zero =>
  intros
  rename_i h
  rw [slices_pdqsortOrdered_int] at h
  cases h
 | succ k ih =>
  intro w GG va0 a0 a1 a2 a3 hsep r h
  have H := h
  clear h
  rw [slices_pdqsortOrdered_int] at H
  refine calls_enter Try.func65 rfl rfl ?_
  intro a hst
  have hsh := SH.start hsep
  refine wq_seq ?_
  refine wq_region_lit (.inl rfl) ?_
  refine r_t hst trivial rfl (x_assign hst rfl) ?_; intro a hst
  refine wpL_nil ?_
  refine then_normal ?_
  refine wq_seq ?_
  refine wq_region_lit (.inl rfl) ?_
  refine r_t hst trivial rfl (x_assign hst rfl) ?_; intro a hst
  refine wpL_nil ?_
  refine then_normal ?_
  refine wq_block ?_
  refine wq_loop_fuel (fun k_60 a w' => ∃ (l_28 : (List Int)), ∃ (i_29 : Int), ∃ (i_30 : Int), ∃ (i_31 : Int), ∃ (b_32 : Bool), ∃ (b_33 : Bool), slices_pdqsortOrdered_int.l0 (fun x0 x1 x2 x3 => slices_pdqsortOrdered_int k x0 x1 x2 x3) k_60 l_28 i_29 i_30 i_31 b_32 b_33 = some r ∧ ST [] Try.f65.ntmps a [(0, va0), (1, .int .i64 i_29), (2, .int .i64 i_30), (3, .int .i64 i_31), (8, .bool b_32), (9, .bool b_33)] ∧ SH GG w w' [Row (Kd.int .i64) 3 va0 l_28]) k ?_ ?_
  · exact ⟨a0, a1, a2, a3, true, true, H, hst.keep _ ⟨rfl, rfl, rfl, rfl, rfl, rfl, trivial⟩, hsh.pick [0]⟩
  · rintro k_60 a W_34 ⟨l_28, i_29, i_30, i_31, b_32, b_33, H, hst, hsh⟩
    cases k_60 with
    | zero => rw [slices_pdqsortOrdered_int.l0] at H; cases H
    | succ k_60 =>
     rw [slices_pdqsortOrdered_int.l0] at H
     refine wq_block ?_
     refine wq_seq ?_
     refine wq_region_lit (.inl rfl) ?_
     refine r_t hst trivial rfl (x_move hst rfl) ?_; intro a hst
     refine r_t hst trivial rfl (x_move hst rfl) ?_; intro a hst
     refine r_t hst trivial rfl (x_arI (r := w64 (i_30 - i_29)) hst rfl rfl rfl) ?_; intro a hst
     refine r_t hst trivial rfl (x_assign hst rfl) ?_; intro a hst
     refine wpL_nil ?_
     refine then_normal ?_
     refine wq_seq ?_
     refine wq_seq ?_
     refine wq_region_lit (.inl rfl) ?_
     refine r_t hst trivial rfl (x_move hst rfl) ?_; intro a hst
     refine r_t hst trivial rfl (x_cmpI (b := decide ((w64 (i_30 - i_29)) ≤ 12)) hst rfl rfl rfl) ?_; intro a hst
     refine wpL_nil ?_
     refine then_normal ?_
     by_cases c177 : (decide ((w64 (i_30 - i_29)) ≤ 12)) = true
     · rw [if_pos c177] at H
       refine wq_condT hst rfl c177 ?_
       refine wq_seq ?_
       refine wq_region_lit (.inl rfl) ?_
       refine r_t hst trivial rfl (x_move hst rfl) ?_; intro a hst
       refine r_t hst trivial rfl (x_move hst rfl) ?_; intro a hst
       refine r_t hst trivial rfl (x_move hst rfl) ?_; intro a hst
       replace hsh := hsh.pick [0]
       obtain ⟨GG180, hsp, hG, hbx, hfx, hk⟩ := SH.callD (L1 := [Row (Kd.int .i64) 3 va0 l_28]) (L2 := []) hsh
       obtain ⟨r178, hr178, H⟩ := Option.bind_eq_some_iff.1 H
       refine r_callD hst trivial rfl fn_70 rfl (slices_insertionSortOrdered_int.calls k_60 _ GG180 _ l_28 i_29 i_30 hsp r178 hr178) ?_
       rintro e w179 ⟨rfl, hc⟩
       replace hsh := hk _ _ hc
       clear hc
       refine ⟨_, rfl, fun a hst => ?_⟩
       refine wpL_nil ?_
       refine then_normal ?_
       refine wq_ret ?_
       refine then_ret ?_
       refine block_ret ?_
       refine then_ret ?_
       refine block_ret ?_
       obtain rfl := Option.some.inj H
       exact ret0 hst rfl ⟨rfl, hsh.pick [0]⟩
     · rw [if_neg c177] at H
       replace c177 := Bool.eq_false_iff.2 c177
       refine wq_condF hst rfl c177 ?_
       refine wq_skip ?_
       refine then_normal ?_
       refine wq_seq ?_
       refine wq_seq ?_
       refine wq_region_lit (.inl rfl) ?_
       refine r_t hst trivial rfl (x_move hst rfl) ?_; intro a hst
       refine r_t hst trivial rfl (x_cmpI (b := (i_31 == 0)) hst rfl rfl rfl) ?_; intro a hst
       refine wpL_nil ?_
       refine then_normal ?_
       by_cases c185 : (i_31 == 0) = true
       · rw [if_pos c185] at H
         refine wq_condT hst rfl c185 ?_
         refine wq_seq ?_
         refine wq_region_lit (.inl rfl) ?_
         refine r_t hst trivial rfl (x_move hst rfl) ?_; intro a hst
         refine r_t hst trivial rfl (x_move hst rfl) ?_; intro a hst
         refine r_t hst trivial rfl (x_move hst rfl) ?_; intro a hst
         replace hsh := hsh.pick [0]
         obtain ⟨GG188, hsp, hG, hbx, hfx, hk⟩ := SH.callD (L1 := [Row (Kd.int .i64) 3 va0 l_28]) (L2 := []) hsh
         obtain ⟨r186, hr186, H⟩ := Option.bind_eq_some_iff.1 H
         refine r_callD hst trivial rfl fn_71 rfl (slices_heapSortOrdered_int.calls k_60 _ GG188 _ l_28 i_29 i_30 hsp r186 hr186) ?_
         rintro e w187 ⟨rfl, hc⟩
         replace hsh := hk _ _ hc
         clear hc
         refine ⟨_, rfl, fun a hst => ?_⟩
         refine wpL_nil ?_
         refine then_normal ?_
         refine wq_ret ?_
         refine then_ret ?_
         refine block_ret ?_
         refine then_ret ?_
         refine block_ret ?_
         obtain rfl := Option.some.inj H
         exact ret0 hst rfl ⟨rfl, hsh.pick [0]⟩
       · rw [if_neg c185] at H
         replace c185 := Bool.eq_false_iff.2 c185
         refine wq_condF hst rfl c185 ?_
         refine wq_skip ?_
         refine then_normal ?_
         obtain ⟨J_64, hJ_64, H⟩ := Jn.elim H
         refine wq_cut (fun a w' => ∃ (l_61 : (List Int)), ∃ (i_62 : Int), J_64 l_61 i_62 = some r ∧ ST [] Try.f65.ntmps a [(0, va0), (1, .int .i64 i_29), (2, .int .i64 i_30), (3, .int .i64 i_62), (8, .bool b_32), (9, .bool b_33), (10, .int .i64 (w64 (i_30 - i_29)))] ∧ SH GG w w' [Row (Kd.int .i64) 3 va0 l_61]) ?_ ?_
         · rintro a W_63 ⟨l_61, i_62, H, hst, hsh⟩
           subst hJ_64
           dsimp only at H
           refine wq_seq ?_
           refine wq_region_lit (.inl rfl) ?_
           refine r_t hst trivial rfl (x_move hst rfl) ?_; intro a hst
           refine r_t hst trivial rfl (x_move hst rfl) ?_; intro a hst
           refine r_t hst trivial rfl (x_move hst rfl) ?_; intro a hst
           obtain ⟨r193, hr193, H⟩ := Option.bind_eq_some_iff.1 H
           refine r_callD hst trivial rfl fn_73 rfl (slices_choosePivotOrdered_int.calls _ _ _ _ (Same.refl _ _) _ (hsh.row 0 rfl) i_29 i_30 r193 hr193) ?_
           rintro e w194 ⟨rfl, hc⟩
           replace hsh := hsh.call0 hc
           clear hc
           refine ⟨_, rfl, fun a hst => ?_⟩
           refine r_t hst trivial rfl (x_move hst rfl) ?_; intro a hst
           refine r_t hst trivial rfl (x_extract hst rfl rfl) ?_; intro a hst
           refine r_t hst trivial rfl (x_extract hst rfl rfl) ?_; intro a hst
           refine r_t hst trivial rfl (x_assign hst rfl) ?_; intro a hst
           refine r_t hst trivial rfl (x_assign hst rfl) ?_; intro a hst
           refine wpL_nil ?_
           refine then_normal ?_
           obtain ⟨J_69, hJ_69, H⟩ := Jn.elim H
           refine wq_cut (fun a w' => ∃ (l_65 : (List Int)), ∃ (i_66 : Int), ∃ (i_67 : Int), J_69 l_65 i_66 i_67 = some r ∧ ST [] Try.f65.ntmps a [(0, va0), (1, .int .i64 i_29), (2, .int .i64 i_30), (3, .int .i64 i_62), (8, .bool b_32), (9, .bool b_33), (10, .int .i64 (w64 (i_30 - i_29))), (11, .int .i64 i_66), (12, .int .i64 i_67)] ∧ SH GG w w' [Row (Kd.int .i64) 3 va0 l_65]) ?_ ?_
           · rintro a W_68 ⟨l_65, i_66, i_67, H, hst, hsh⟩
             subst hJ_69
             dsimp only at H
             obtain ⟨J_72, hJ_72, H⟩ := Jn.elim H
             refine wq_cut (fun a w' => ∃ (l_70 : (List Int)), J_72 l_70 = some r ∧ ST [] Try.f65.ntmps a [(0, va0), (1, .int .i64 i_29), (2, .int .i64 i_30), (3, .int .i64 i_62), (8, .bool b_32), (9, .bool b_33), (10, .int .i64 (w64 (i_30 - i_29))), (11, .int .i64 i_66)] ∧ SH GG w w' [Row (Kd.int .i64) 3 va0 l_70]) ?_ ?_
             · rintro a W_71 ⟨l_70, H, hst, hsh⟩
               subst hJ_72
               dsimp only at H
               refine wq_seq ?_
               refine wq_seq ?_
               refine wq_region_q (.inl rfl) (fun w' => SH GG w w' [Row (Kd.int .i64) 3 va0 l_70]) (shut_sh _ _ _) hsh.drew fo (by kernel_rfl) ?_
               refine q_t hst trivial rfl (fun _ hsh => x_move hst rfl) ?_; intro a hst
               refine q_t hst trivial rfl (fun _ hsh => x_cmpI (b := decide (0 < i_29)) hst rfl rfl rfl) ?_; intro a hst
               refine q_t hst trivial rfl (fun _ hsh => x_move hst rfl) ?_; intro a hst
               obtain ⟨J_77, hJ_77, H⟩ := Jn.elim H
               refine q_join 15 (fun a => ∃ (b_76 : Bool), J_77 b_76 = some r ∧ ST [] Try.f65.ntmps a [(0, va0), (1, .int .i64 i_29), (2, .int .i64 i_30), (3, .int .i64 i_62), (8, .bool b_32), (9, .bool b_33), (10, .int .i64 (w64 (i_30 - i_29))), (11, .int .i64 i_66), (87, .bool b_76)]) ?_ ?_
               · rintro a ⟨b_76, H, hst⟩
                 subst hJ_77
                 dsimp only at H
                 refine q_nil ?_
                 intro w225 hsh
                 refine then_normal ?_
                 by_cases c226 : b_76 = true
                 · rw [if_pos c226] at H
                   refine wq_condT hst rfl c226 ?_
                   refine wq_seq ?_
                   refine wq_region_lit (.inl rfl) ?_
                   refine r_t hst trivial rfl (x_move hst rfl) ?_; intro a hst
                   refine r_t hst trivial rfl (x_move hst rfl) ?_; intro a hst
                   refine r_t hst trivial rfl (x_move hst rfl) ?_; intro a hst
                   refine r_t hst trivial rfl (x_move hst rfl) ?_; intro a hst
                   replace hsh := hsh.pick [0]
                   obtain ⟨GG229, hsp, hG, hbx, hfx, hk⟩ := SH.callD (L1 := [Row (Kd.int .i64) 3 va0 l_70]) (L2 := []) hsh
                   obtain ⟨r227, hr227, H⟩ := Option.bind_eq_some_iff.1 H
                   refine r_callD hst trivial rfl fn_77 rfl (slices_partitionEqualOrdered_int.calls k_60 _ GG229 _ l_70 i_29 i_30 i_66 hsp r227 hr227) ?_
                   rintro e w228 ⟨rfl, hc⟩
                   replace hsh := hk _ _ hc
                   clear hc
                   refine ⟨_, rfl, fun a hst => ?_⟩
                   refine r_t hst trivial rfl (x_assign hst rfl) ?_; intro a hst
                   refine wpL_nil ?_
                   refine then_normal ?_
                   refine wq_seq ?_
                   refine wq_region_lit (.inl rfl) ?_
                   refine r_t hst trivial rfl (x_move hst rfl) ?_; intro a hst
                   refine r_t hst trivial rfl (x_assign hst rfl) ?_; intro a hst
                   refine wpL_nil ?_
                   refine then_normal ?_
                   refine wq_exit ?_
                   refine then_exit ?_
                   refine block_hit ?_
                   refine then_normal ?_
                   exact ⟨k_60, Nat.lt_succ_self _, r227.2, r227.1, i_30, i_62, b_32, b_33, H, hst.keep _ ⟨rfl, rfl, rfl, rfl, rfl, rfl, trivial⟩, hsh.pick [0]⟩
                 · rw [if_neg c226] at H
                   replace c226 := Bool.eq_false_iff.2 c226
                   refine wq_condF hst rfl c226 ?_
                   refine wq_skip ?_
                   refine then_normal ?_
                   refine wq_seq ?_
                   refine wq_region_lit (.inl rfl) ?_
                   refine r_t hst trivial rfl (x_move hst rfl) ?_; intro a hst
                   refine r_t hst trivial rfl (x_move hst rfl) ?_; intro a hst
                   refine r_t hst trivial rfl (x_move hst rfl) ?_; intro a hst
                   refine r_t hst trivial rfl (x_move hst rfl) ?_; intro a hst
                   replace hsh := hsh.pick [0]
                   obtain ⟨GG232, hsp, hG, hbx, hfx, hk⟩ := SH.callD (L1 := [Row (Kd.int .i64) 3 va0 l_70]) (L2 := []) hsh
                   obtain ⟨r230, hr230, H⟩ := Option.bind_eq_some_iff.1 H
                   refine r_callD hst trivial rfl fn_78 rfl (slices_partitionOrdered_int.calls k_60 _ GG232 _ l_70 i_29 i_30 i_66 hsp r230 hr230) ?_
                   rintro e w231 ⟨rfl, hc⟩
                   replace hsh := hk _ _ hc
                   clear hc
                   refine ⟨_, rfl, fun a hst => ?_⟩
                   refine r_t hst trivial rfl (x_move hst rfl) ?_; intro a hst
                   refine r_t hst trivial rfl (x_extract hst rfl rfl) ?_; intro a hst
                   refine r_t hst trivial rfl (x_extract hst rfl rfl) ?_; intro a hst
                   refine r_t hst trivial rfl (x_assign hst rfl) ?_; intro a hst
                   refine r_t hst trivial rfl (x_assign hst rfl) ?_; intro a hst
                   refine wpL_nil ?_
                   refine then_normal ?_
                   refine wq_seq ?_
                   refine wq_region_lit (.inl rfl) ?_
                   refine r_t hst trivial rfl (x_move hst rfl) ?_; intro a hst
                   refine r_t hst trivial rfl (x_assign hst rfl) ?_; intro a hst
                   refine wpL_nil ?_
                   refine then_normal ?_
                   refine wq_seq ?_
                   refine wq_region_lit (.inl rfl) ?_
                   refine r_t hst trivial rfl (x_move hst rfl) ?_; intro a hst
                   refine r_t hst trivial rfl (x_move hst rfl) ?_; intro a hst
                   refine r_t hst trivial rfl (x_arI (r := w64 (r230.1 - i_29)) hst rfl rfl rfl) ?_; intro a hst
                   refine r_t hst trivial rfl (x_move hst rfl) ?_; intro a hst
                   refine r_t hst trivial rfl (x_move hst rfl) ?_; intro a hst
                   refine r_t hst trivial rfl (x_arI (r := w64 (i_30 - r230.1)) hst rfl rfl rfl) ?_; intro a hst
                   refine r_t hst trivial rfl (x_assign hst rfl) ?_; intro a hst
                   refine r_t hst trivial rfl (x_assign hst rfl) ?_; intro a hst
                   refine wpL_nil ?_
                   refine then_normal ?_
                   refine wq_seq ?_
                   refine wq_region_lit (.inl rfl) ?_
                   refine r_t hst trivial rfl (x_move hst rfl) ?_; intro a hst
                   refine r_t hst trivial rfl (x_quo hst rfl rfl (by decide)) ?_; intro a hst
                   refine r_t hst trivial rfl (x_assign hst rfl) ?_; intro a hst
                   refine wpL_nil ?_
                   refine then_normal ?_
                   refine wq_seq ?_
                   refine wq_region_lit (.inl rfl) ?_
                   refine r_t hst trivial rfl (x_move hst rfl) ?_; intro a hst
                   refine r_t hst trivial rfl (x_move hst rfl) ?_; intro a hst
                   refine r_t hst trivial rfl (x_cmpI (b := decide ((w64 (r230.1 - i_29)) < (w64 (i_30 - r230.1)))) hst rfl rfl rfl) ?_; intro a hst
                   refine wpL_nil ?_
                   refine then_normal ?_
                   by_cases c233 : (decide ((w64 (r230.1 - i_29)) < (w64 (i_30 - r230.1)))) = true
                   · rw [if_pos c233] at H
                     refine wq_condT hst rfl c233 ?_
                     refine wq_seq ?_
                     refine wq_region_lit (.inl rfl) ?_
                     refine r_t hst trivial rfl (x_move hst rfl) ?_; intro a hst
                     refine r_t hst trivial rfl (x_move hst rfl) ?_; intro a hst
                     refine r_t hst trivial rfl (x_cmpI (b := decide ((w64 (Int.tdiv (w64 (i_30 - i_29)) 8)) ≤ (w64 (r230.1 - i_29)))) hst rfl rfl rfl) ?_; intro a hst
                     refine r_t hst trivial rfl (x_assign hst rfl) ?_; intro a hst
                     refine wpL_nil ?_
                     refine then_normal ?_
                     refine wq_seq ?_
                     refine wq_region_lit (.inl rfl) ?_
                     refine r_t hst trivial rfl (x_move hst rfl) ?_; intro a hst
                     refine r_t hst trivial rfl (x_move hst rfl) ?_; intro a hst
                     refine r_t hst trivial rfl (x_move hst rfl) ?_; intro a hst
                     refine r_t hst trivial rfl (x_move hst rfl) ?_; intro a hst
                     replace hsh := hsh.pick [0]
                     obtain ⟨GG236, hsp, hG, hbx, hfx, hk⟩ := SH.callD (L1 := [Row (Kd.int .i64) 3 va0 r230.2.2]) (L2 := []) hsh
                     obtain ⟨r234, hr234, H⟩ := Option.bind_eq_some_iff.1 H
                     refine r_callD hst trivial rfl fn_65 rfl (ih _ GG236 _ r230.2.2 i_29 r230.1 i_62 hsp r234 hr234) ?_
                     rintro e w235 ⟨rfl, hc⟩
                     replace hsh := hk _ _ hc
                     clear hc
                     refine ⟨_, rfl, fun a hst => ?_⟩
                     refine wpL_nil ?_
                     refine then_normal ?_
                     refine wq_region_lit (.inl rfl) ?_
                     refine r_t hst trivial rfl (x_move hst rfl) ?_; intro a hst
                     refine r_t hst trivial rfl (x_arI (r := w64 (r230.1 + 1)) hst rfl rfl rfl) ?_; intro a hst
                     refine r_t hst trivial rfl (x_assign hst rfl) ?_; intro a hst
                     refine wpL_nil ?_
                     refine block_normal ?_
                     refine then_normal ?_
                     exact ⟨k_60, Nat.lt_succ_self _, r234, (w64 (r230.1 + 1)), i_30, i_62, (decide ((w64 (Int.tdiv (w64 (i_30 - i_29)) 8)) ≤ (w64 (r230.1 - i_29)))), r230.2.1, H, hst.keep _ ⟨rfl, rfl, rfl, rfl, rfl, rfl, trivial⟩, hsh.pick [0]⟩
                   · rw [if_neg c233] at H
                     replace c233 := Bool.eq_false_iff.2 c233
                     refine wq_condF hst rfl c233 ?_
                     refine wq_seq ?_
                     refine wq_region_lit (.inl rfl) ?_
                     refine r_t hst trivial rfl (x_move hst rfl) ?_; intro a hst
                     refine r_t hst trivial rfl (x_move hst rfl) ?_; intro a hst
                     refine r_t hst trivial rfl (x_cmpI (b := decide ((w64 (Int.tdiv (w64 (i_30 - i_29)) 8)) ≤ (w64 (i_30 - r230.1)))) hst rfl rfl rfl) ?_; intro a hst
                     refine r_t hst trivial rfl (x_assign hst rfl) ?_; intro a hst
                     refine wpL_nil ?_
                     refine then_normal ?_
                     refine wq_seq ?_
                     refine wq_region_lit (.inl rfl) ?_
                     refine r_t hst trivial rfl (x_move hst rfl) ?_; intro a hst
                     refine r_t hst trivial rfl (x_move hst rfl) ?_; intro a hst
                     refine r_t hst trivial rfl (x_arI (r := w64 (r230.1 + 1)) hst rfl rfl rfl) ?_; intro a hst
                     refine r_t hst trivial rfl (x_move hst rfl) ?_; intro a hst
                     refine r_t hst trivial rfl (x_move hst rfl) ?_; intro a hst
                     replace hsh := hsh.pick [0]
                     obtain ⟨GG239, hsp, hG, hbx, hfx, hk⟩ := SH.callD (L1 := [Row (Kd.int .i64) 3 va0 r230.2.2]) (L2 := []) hsh
                     obtain ⟨r237, hr237, H⟩ := Option.bind_eq_some_iff.1 H
                     refine r_callD hst trivial rfl fn_65 rfl (ih _ GG239 _ r230.2.2 (w64 (r230.1 + 1)) i_30 i_62 hsp r237 hr237) ?_
                     rintro e w238 ⟨rfl, hc⟩
                     replace hsh := hk _ _ hc
                     clear hc
                     refine ⟨_, rfl, fun a hst => ?_⟩
                     refine wpL_nil ?_
                     refine then_normal ?_
                     refine wq_region_lit (.inl rfl) ?_
                     refine r_t hst trivial rfl (x_move hst rfl) ?_; intro a hst
                     refine r_t hst trivial rfl (x_assign hst rfl) ?_; intro a hst
                     refine wpL_nil ?_
                     refine block_normal ?_
                     refine then_normal ?_
                     exact ⟨k_60, Nat.lt_succ_self _, r237, i_29, r230.1, i_62, (decide ((w64 (Int.tdiv (w64 (i_30 - i_29)) 8)) ≤ (w64 (i_30 - r230.1)))), r230.2.1, H, hst.keep _ ⟨rfl, rfl, rfl, rfl, rfl, rfl, trivial⟩, hsh.pick [0]⟩
               · intro hj
                 by_cases c220 : (decide (0 < i_29)) = true
                 · rw [if_pos c220] at H
                   refine q_t hst (wt_of 75 rfl rfl c220) rfl (fun _ hsh => x_move hst rfl) ?_; intro a hst
                   refine q_t hst (wt_of 75 rfl rfl c220) rfl (fun _ hsh => x_move hst rfl) ?_; intro a hst
                   refine q_t hst (wt_of 75 rfl rfl c220) rfl (fun _ hsh => x_arI (r := w64 (i_29 - 1)) hst rfl rfl rfl) ?_; intro a hst
                   obtain ⟨x240, hx240, H⟩ := Option.bind_eq_some_iff.1 H
                   refine q_t hst (wt_of 75 rfl rfl c220) rfl (fun _ hsh => x_indexAddr hst Try.underlying56 el_3 rfl rfl (hsh.row 0 rfl) hx240) ?_; intro a hst
                   refine q_t hst (wt_of 75 rfl rfl c220) rfl (fun _ hsh => x_loadEF (j := 0) (cs := [.int .i64 x240]) hst sc_3 rfl (hsh.row 0 rfl) (Same.refl _ _) hx240 rfl (fun _ h => h) rfl) ?_; intro a hst
                   refine q_t hst (wt_of 75 rfl rfl c220) rfl (fun _ hsh => x_move hst rfl) ?_; intro a hst
                   refine q_t hst (wt_of 75 rfl rfl c220) rfl (fun _ hsh => x_move hst rfl) ?_; intro a hst
                   obtain ⟨x241, hx241, H⟩ := Option.bind_eq_some_iff.1 H
                   refine q_t hst (wt_of 75 rfl rfl c220) rfl (fun _ hsh => x_indexAddr hst Try.underlying56 el_3 rfl rfl (hsh.row 0 rfl) hx241) ?_; intro a hst
                   refine q_t hst (wt_of 75 rfl rfl c220) rfl (fun _ hsh => x_loadEF (j := 0) (cs := [.int .i64 x241]) hst sc_3 rfl (hsh.row 0 rfl) (Same.refl _ _) hx241 rfl (fun _ h => h) rfl) ?_; intro a hst
                   obtain ⟨r242, hr242, H⟩ := Option.bind_eq_some_iff.1 H
                   refine q_call hst (wt_of 75 rfl rfl c220) rfl fn_76 rfl (fun w9 hsh => cmp_Less_int.calls _ x240 x241 r242 hr242) ?_; intro a hst
                   refine q_t hst (wt_of 75 rfl rfl c220) rfl (fun _ hsh => x_notB hst rfl) ?_; intro a hst
                   refine q_t hst trivial rfl (fun _ hsh => x_pickT hst rfl c220 rfl) ?_; intro a hst
                   exact hj _ ⟨(!r242), H, hst.keep _ ⟨rfl, rfl, rfl, rfl, rfl, rfl, rfl, rfl, rfl, trivial⟩⟩
                 · rw [if_neg c220] at H
                   replace c220 := Bool.eq_false_iff.2 c220
                   refine q_not hst 75 rfl rfl c220 rfl ?_; intro a hst
                   refine q_not hst 75 rfl rfl c220 rfl ?_; intro a hst
                   refine q_not hst 75 rfl rfl c220 rfl ?_; intro a hst
                   refine q_not hst 75 rfl rfl c220 rfl ?_; intro a hst
                   refine q_not hst 75 rfl rfl c220 rfl ?_; intro a hst
                   refine q_not hst 75 rfl rfl c220 rfl ?_; intro a hst
                   refine q_not hst 75 rfl rfl c220 rfl ?_; intro a hst
                   refine q_not hst 75 rfl rfl c220 rfl ?_; intro a hst
                   refine q_not hst 75 rfl rfl c220 rfl ?_; intro a hst
                   refine q_not hst 75 rfl rfl c220 rfl ?_; intro a hst
                   refine q_not hst 75 rfl rfl c220 rfl ?_; intro a hst
                   refine q_t hst trivial rfl (fun _ hsh => x_pickF hst rfl c220 rfl) ?_; intro a hst
                   exact hj _ ⟨false, H, hst.keep _ ⟨rfl, rfl, rfl, rfl, rfl, rfl, rfl, rfl, rfl, trivial⟩⟩
             · refine wq_seq ?_
               refine wq_region_lit (.inl rfl) ?_
               refine r_t hst trivial rfl (x_move hst rfl) ?_; intro a hst
               refine r_t hst trivial rfl (x_move hst rfl) ?_; intro a hst
               refine wl_join0 (Δ := []) (N := Try.f65.ntmps) 4 [(0, va0), (1, .int .i64 i_29), (2, .int .i64 i_30), (3, .int .i64 i_62), (8, .bool b_32), (9, .bool b_33), (10, .int .i64 (w64 (i_30 - i_29))), (11, .int .i64 i_66), (12, .int .i64 i_67), (64, .bool (b_32 && b_33))] ?_ ?_
               · intro a hst
                 refine r_t hst trivial rfl (x_move hst rfl) ?_; intro a hst
                 refine wl_join0 (Δ := []) (N := Try.f65.ntmps) 8 [(0, va0), (1, .int .i64 i_29), (2, .int .i64 i_30), (3, .int .i64 i_62), (8, .bool b_32), (9, .bool b_33), (10, .int .i64 (w64 (i_30 - i_29))), (11, .int .i64 i_66), (68, .bool ((b_32 && b_33) && (i_67 == 1)))] ?_ ?_
                 · intro a hst
                   refine wpL_nil ?_
                   refine then_normal ?_
                   by_cases c246 : ((b_32 && b_33) && (i_67 == 1)) = true
                   · rw [if_pos c246] at H
                     refine wq_condT hst rfl c246 ?_
                     refine wq_seq ?_
                     refine wq_region_lit (.inl rfl) ?_
                     refine r_t hst trivial rfl (x_move hst rfl) ?_; intro a hst
                     refine r_t hst trivial rfl (x_move hst rfl) ?_; intro a hst
                     refine r_t hst trivial rfl (x_move hst rfl) ?_; intro a hst
                     replace hsh := hsh.pick [0]
                     obtain ⟨GG249, hsp, hG, hbx, hfx, hk⟩ := SH.callD (L1 := [Row (Kd.int .i64) 3 va0 l_65]) (L2 := []) hsh
                     obtain ⟨r247, hr247, H⟩ := Option.bind_eq_some_iff.1 H
                     refine r_callD hst trivial rfl fn_75 rfl (slices_partialInsertionSortOrdered_int.calls k_60 _ GG249 _ l_65 i_29 i_30 hsp r247 hr247) ?_
                     rintro e w248 ⟨rfl, hc⟩
                     replace hsh := hk _ _ hc
                     clear hc
                     refine ⟨_, rfl, fun a hst => ?_⟩
                     refine wpL_nil ?_
                     refine then_normal ?_
                     by_cases c250 : r247.1 = true
                     · rw [if_pos c250] at H
                       refine wq_condT hst rfl c250 ?_
                       refine wq_ret ?_
                       refine then_ret ?_
                       refine block_ret ?_
                       refine then_ret ?_
                       refine block_ret ?_
                       obtain rfl := Option.some.inj H
                       exact ret0 hst rfl ⟨rfl, hsh.pick [0]⟩
                     · rw [if_neg c250] at H
                       replace c250 := Bool.eq_false_iff.2 c250
                       refine wq_condF hst rfl c250 ?_
                       refine wq_skip ?_
                       refine then_normal ?_
                       exact ⟨r247.2, H, hst.keep _ ⟨rfl, rfl, rfl, rfl, rfl, rfl, rfl, rfl, trivial⟩, hsh.pick [0]⟩
                   · rw [if_neg c246] at H
                     replace c246 := Bool.eq_false_iff.2 c246
                     refine wq_condF hst rfl c246 ?_
                     refine wq_skip ?_
                     refine then_normal ?_
                     exact ⟨l_65, H, hst.keep _ ⟨rfl, rfl, rfl, rfl, rfl, rfl, rfl, rfl, trivial⟩, hsh.pick [0]⟩
                 · intro hj
                   by_cases c245 : (b_32 && b_33) = true
                   · refine r_t hst (wt_of 65 rfl rfl c245) rfl (x_move hst rfl) ?_; intro a hst
                     refine r_t hst (wt_of 65 rfl rfl c245) rfl (x_cmpI (b := (i_67 == 1)) hst rfl rfl rfl) ?_; intro a hst
                     refine r_t hst trivial rfl (x_andT hst rfl c245 rfl) ?_; intro a hst
                     exact hj _ (hst.keep _ ⟨rfl, rfl, rfl, rfl, rfl, rfl, rfl, rfl, rfl, trivial⟩)
                   · replace c245 := Bool.eq_false_iff.2 c245
                     refine r_not hst 65 rfl rfl c245 rfl ?_; intro a hst
                     refine r_not hst 65 rfl rfl c245 rfl ?_; intro a hst
                     refine r_t hst trivial rfl (x_andF (i_67 == 1) hst rfl c245 rfl) ?_; intro a hst
                     exact hj _ (hst.keep _ ⟨rfl, rfl, rfl, rfl, rfl, rfl, rfl, rfl, rfl, trivial⟩)
               · intro hj
                 by_cases c244 : b_32 = true
                 · refine r_t hst (wt_of 62 rfl rfl c244) rfl (x_move hst rfl) ?_; intro a hst
                   refine r_t hst trivial rfl (x_andT hst rfl c244 rfl) ?_; intro a hst
                   exact hj _ (hst.keep _ ⟨rfl, rfl, rfl, rfl, rfl, rfl, rfl, rfl, rfl, rfl, trivial⟩)
                 · replace c244 := Bool.eq_false_iff.2 c244
                   refine r_not hst 62 rfl rfl c244 rfl ?_; intro a hst
                   refine r_t hst trivial rfl (x_andF b_33 hst rfl c244 rfl) ?_; intro a hst
                   exact hj _ (hst.keep _ ⟨rfl, rfl, rfl, rfl, rfl, rfl, rfl, rfl, rfl, rfl, trivial⟩)
           · refine wq_seq ?_
             refine wq_region_lit (.inl rfl) ?_
             refine r_t hst trivial rfl (x_move hst rfl) ?_; intro a hst
             refine r_t hst trivial rfl (x_cmpI (b := (r193.2 == 2)) hst rfl rfl rfl) ?_; intro a hst
             refine wpL_nil ?_
             refine then_normal ?_
             by_cases c251 : (r193.2 == 2) = true
             · rw [if_pos c251] at H
               refine wq_condT hst rfl c251 ?_
               refine wq_seq ?_
               refine wq_region_lit (.inl rfl) ?_
               refine r_t hst trivial rfl (x_move hst rfl) ?_; intro a hst
               refine r_t hst trivial rfl (x_move hst rfl) ?_; intro a hst
               refine r_t hst trivial rfl (x_move hst rfl) ?_; intro a hst
               replace hsh := hsh.pick [0]
               obtain ⟨GG254, hsp, hG, hbx, hfx, hk⟩ := SH.callD (L1 := [Row (Kd.int .i64) 3 va0 l_61]) (L2 := []) hsh
               obtain ⟨r252, hr252, H⟩ := Option.bind_eq_some_iff.1 H
               refine r_callD hst trivial rfl fn_74 rfl (slices_reverseRangeOrdered_int.calls k_60 _ GG254 _ l_61 i_29 i_30 hsp r252 hr252) ?_
               rintro e w253 ⟨rfl, hc⟩
               replace hsh := hk _ _ hc
               clear hc
               refine ⟨_, rfl, fun a hst => ?_⟩
               refine wpL_nil ?_
               refine then_normal ?_
               refine wq_seq ?_
               refine wq_region_lit (.inl rfl) ?_
               refine r_t hst trivial rfl (x_move hst rfl) ?_; intro a hst
               refine r_t hst trivial rfl (x_arI (r := w64 (i_30 - 1)) hst rfl rfl rfl) ?_; intro a hst
               refine r_t hst trivial rfl (x_move hst rfl) ?_; intro a hst
               refine r_t hst trivial rfl (x_move hst rfl) ?_; intro a hst
               refine r_t hst trivial rfl (x_arI (r := w64 (r193.1 - i_29)) hst rfl rfl rfl) ?_; intro a hst
               refine r_t hst trivial rfl (x_arI (r := w64 ((w64 (i_30 - 1)) - (w64 (r193.1 - i_29)))) hst rfl rfl rfl) ?_; intro a hst
               refine r_t hst trivial rfl (x_assign hst rfl) ?_; intro a hst
               refine wpL_nil ?_
               refine then_normal ?_
               refine wq_region_lit (.inl rfl) ?_
               refine r_t hst trivial rfl (x_assign hst rfl) ?_; intro a hst
               refine wpL_nil ?_
               refine then_normal ?_
               exact ⟨r252, (w64 ((w64 (i_30 - 1)) - (w64 (r193.1 - i_29)))), 1, H, hst.keep _ ⟨rfl, rfl, rfl, rfl, rfl, rfl, rfl, rfl, rfl, trivial⟩, hsh.pick [0]⟩
             · rw [if_neg c251] at H
               replace c251 := Bool.eq_false_iff.2 c251
               refine wq_condF hst rfl c251 ?_
               refine wq_skip ?_
               refine then_normal ?_
               exact ⟨l_61, r193.1, r193.2, H, hst.keep _ ⟨rfl, rfl, rfl, rfl, rfl, rfl, rfl, rfl, rfl, trivial⟩, hsh.pick [0]⟩
         · refine wq_seq ?_
           refine wq_region_lit (.inl rfl) ?_
           refine r_t hst trivial rfl (x_move hst rfl) ?_; intro a hst
           refine r_t hst trivial rfl (x_notB hst rfl) ?_; intro a hst
           refine wpL_nil ?_
           refine then_normal ?_
           by_cases c255 : (!b_32) = true
           · rw [if_pos c255] at H
             refine wq_condT hst rfl c255 ?_
             refine wq_seq ?_
             refine wq_region_lit (.inl rfl) ?_
             refine r_t hst trivial rfl (x_move hst rfl) ?_; intro a hst
             refine r_t hst trivial rfl (x_move hst rfl) ?_; intro a hst
             refine r_t hst trivial rfl (x_move hst rfl) ?_; intro a hst
             replace hsh := hsh.pick [0]
             obtain ⟨GG258, hsp, hG, hbx, hfx, hk⟩ := SH.callD (L1 := [Row (Kd.int .i64) 3 va0 l_28]) (L2 := []) hsh
             obtain ⟨r256, hr256, H⟩ := Option.bind_eq_some_iff.1 H
             refine r_callD hst trivial rfl fn_72 rfl (slices_breakPatternsOrdered_int.calls k_60 _ GG258 _ l_28 i_29 i_30 hsp r256 hr256) ?_
             rintro e w257 ⟨rfl, hc⟩
             replace hsh := hk _ _ hc
             clear hc
             refine ⟨_, rfl, fun a hst => ?_⟩
             refine wpL_nil ?_
             refine then_normal ?_
             refine wq_region_lit (.inl rfl) ?_
             refine r_t hst trivial rfl (x_move hst rfl) ?_; intro a hst
             refine r_t hst trivial rfl (x_arI (r := w64 (i_31 - 1)) hst rfl rfl rfl) ?_; intro a hst
             refine r_t hst trivial rfl (x_assign hst rfl) ?_; intro a hst
             refine wpL_nil ?_
             refine then_normal ?_
             exact ⟨r256, (w64 (i_31 - 1)), H, hst.keep _ ⟨rfl, rfl, rfl, rfl, rfl, rfl, rfl, trivial⟩, hsh.pick [0]⟩
           · rw [if_neg c255] at H
             replace c255 := Bool.eq_false_iff.2 c255
             refine wq_condF hst rfl c255 ?_
             refine wq_skip ?_
             refine then_normal ?_
             exact ⟨l_28, i_31, H, hst.keep _ ⟨rfl, rfl, rfl, rfl, rfl, rfl, rfl, trivial⟩, hsh.pick [0]⟩

set_option maxHeartbeats 4000000 in
set_option maxRecDepth 100000 in
theorem slices_Sort_int.calls (k : Nat) (w : World) (GG : Nat → Prop) (va0 : Value) (a0 : (List Int)) (hsep : Sep GG w [Row (Kd.int .i64) 3 va0 a0]) (r : (List Int)) (h : slices_Sort_int k a0 = some r) :
    Calls Try.prog 54 ([va0] : List Value).toArray w fun e w' => e = .returned (.tuple #[]) ∧ SH GG w w' [Row (Kd.int .i64) 3 va0 r] := by
 have H := h
 clear h
 unfold slices_Sort_int at H
 refine calls_enter Try.func54 rfl rfl ?_
 intro a hst
 have hsh := SH.start hsep
 refine wq_seq ?_
 refine wq_region_lit (.inl rfl) ?_
 refine r_t hst trivial rfl (x_move hst rfl) ?_; intro a hst
 refine r_t hst trivial rfl (x_lenSl hst Try.underlying56 rfl (hsh.row 0 rfl).slen) ?_; intro a hst
 refine r_t hst trivial rfl (x_assign hst rfl) ?_; intro a hst
 refine wpL_nil ?_
 refine then_normal ?_
 refine wq_region_lit (.inl rfl) ?_
 refine r_t hst trivial rfl (x_move hst rfl) ?_; intro a hst
 refine r_t hst trivial rfl (x_move hst rfl) ?_; intro a hst
 refine r_t hst trivial rfl (x_move hst rfl) ?_; intro a hst
 refine r_t hst trivial rfl (x_convI hst Try.underlying3 Try.underlying88 rfl) ?_; intro a hst
 obtain ⟨r1, hr1, H⟩ := Option.bind_eq_some_iff.1 H
 refine r_callD hst trivial rfl fn_66 rfl (math_bits_Len.calls _ (wu64 (a0.length : Int)) r1 hr1) ?_
 rintro e w2 ⟨rfl, hc⟩
 replace hsh := hsh.call0 hc
 clear hc
 refine ⟨_, rfl, fun a hst => ?_⟩
 replace hsh := hsh.pick [0]
 obtain ⟨GG5, hsp, hG, hbx, hfx, hk⟩ := SH.callD (L1 := [Row (Kd.int .i64) 3 va0 a0]) (L2 := []) hsh
 obtain ⟨r3, hr3, H⟩ := Option.bind_eq_some_iff.1 H
 refine r_callD hst trivial rfl fn_65 rfl (slices_pdqsortOrdered_int.calls k _ GG5 _ a0 0 (a0.length : Int) r1 hsp r3 hr3) ?_
 rintro e w4 ⟨rfl, hc⟩
 replace hsh := hk _ _ hc
 clear hc
 refine ⟨_, rfl, fun a hst => ?_⟩
 refine wpL_nil ?_
 obtain rfl := Option.some.inj H
 exact end0 hst rfl ⟨rfl, hsh.pick [0]⟩

set_option maxHeartbeats 4000000 in
set_option maxRecDepth 100000 in
theorem version_Numbers.calls (k : Nat) (w : World) (va0 : Value) (Za0 : Nat → Prop) (wra0 : World) (hsa0 : Same Za0 wra0 w) (a0 : (List (List File))) (hra0 : RD (Kd.slice 43 k_File) Za0 wra0 va0 a0) (r : (List Int)) (h : version_Numbers k a0 = some r) :
    Calls Try.prog 27 ([va0] : List Value).toArray w fun e w' => ∃ v0_ : Value, e = .returned (v0_) ∧ SH (fun _ => False) w w' [Row (Kd.int .i64) 3 v0_ r] := by
 have H := h
 clear h
 unfold version_Numbers at H
 refine calls_enter Try.func27 rfl rfl ?_
 intro a hst
 have hsh := SH.zero (fun _ => False) w
 refine wq_seq ?_
 refine wq_region_lit (.inl rfl) ?_
 refine r_t hst trivial rfl (x_assign hst rfl) ?_; intro a hst
 refine wpL_nil ?_
 refine then_normal ?_
 refine wq_seq ?_
 refine wq_seq ?_
 refine wq_region_lit (.inl rfl) ?_
 refine r_t hst trivial rfl (x_move hst rfl) ?_; intro a hst
 obtain ⟨r4, hr4, H⟩ := Option.bind_eq_some_iff.1 H
 refine r_callD hst trivial rfl fn_12 rfl (version_Valid.calls k _ _ _ _ (Same.sh0 hsa0 hsh) _ hra0 r4 hr4) ?_
 rintro e w5 ⟨rfl, hc⟩
 replace hsh := hsh.call0 hc
 clear hc
 refine ⟨_, rfl, fun a hst => ?_⟩
 refine r_t hst trivial rfl (x_notB hst rfl) ?_; intro a hst
 refine wpL_nil ?_
 refine then_normal ?_
 by_cases c6 : (!r4) = true
 · rw [if_pos c6] at H
   refine wq_condT hst rfl c6 ?_
   refine wq_seq ?_
   refine wq_region_lit (.inl rfl) ?_
   refine r_t hst trivial rfl (x_assign hst rfl) ?_; intro a hst
   refine wpL_nil ?_
   refine then_normal ?_
   refine wq_ret ?_
   refine then_ret ?_
   obtain rfl := Option.some.inj H
   have hsh := hsh.addNil (Kd.int .i64) 3
   exact ret1 hst rfl rfl ⟨(.slice none 0 0), rfl, hsh.pick [0]⟩
 · rw [if_neg c6] at H
   replace c6 := Bool.eq_false_iff.2 c6
   refine wq_condF hst rfl c6 ?_
   refine wq_skip ?_
   refine then_normal ?_
   refine wq_seq ?_
   refine wq_region_lit (.inl rfl) ?_
   refine r_t hst trivial rfl (x_assign hst rfl) ?_; intro a hst
   refine wpL_nil ?_
   refine then_normal ?_
   refine wq_seq ?_
   refine wq_seq ?_
   refine wq_region_lit (.inl rfl) ?_
   refine r_t hst trivial rfl (x_move hst rfl) ?_; intro a hst
   refine r_t hst trivial rfl (x_lenSl hst Try.underlying23 rfl hra0.slen) ?_; intro a hst
   refine r_t hst trivial rfl (x_move hst rfl) ?_; intro a hst
   refine wpL_nil ?_
   refine then_normal ?_
   refine wq_block ?_
   have hsh := hsh.addNil (Kd.int .i64) 3
   refine wq_loop_fuel (fun k_208 a w' => ∃ (v_167 : Value), ∃ (l_168 : (List Int)), ∃ (i_169 : Int), version_Numbers.l0 a0 k_208 l_168 i_169 = some r ∧ ST [] Try.f27.ntmps a [(2, (.slice none 0 0)), (3, v_167), (11, va0), (12, .int .i64 (a0.length : Int)), (13, .int .i64 i_169)] ∧ SH (fun _ => False) w w' [Row (Kd.int .i64) 3 v_167 l_168]) k ?_ ?_
   · exact ⟨(.slice none 0 0), ([]), 0, H, hst.keep _ ⟨rfl, rfl, rfl, rfl, rfl, trivial⟩, hsh.pick [0]⟩
   · rintro k_208 a W_170 ⟨v_167, l_168, i_169, H, hst, hsh⟩
     cases k_208 with
     | zero => rw [version_Numbers.l0] at H; cases H
     | succ k_208 =>
      rw [version_Numbers.l0] at H
      refine wq_seq ?_
      refine wq_region_lit (.inl rfl) ?_
      refine r_t hst trivial rfl (x_cmpI (b := decide (i_169 < (a0.length : Int))) hst rfl rfl rfl) ?_; intro a hst
      refine wpL_nil ?_
      refine then_normal ?_
      refine wq_seq ?_
      by_cases c682 : (decide (i_169 < (a0.length : Int))) = true
      · rw [if_pos c682] at H
        refine wq_condT hst rfl c682 ?_
        refine wq_skip ?_
        refine then_normal ?_
        obtain ⟨J_226, hJ_226, H⟩ := Jn.elim H
        refine wq_cut (fun a w' => ∃ (v_223 : Value), ∃ (l_224 : (List Int)), J_226 l_224 = some r ∧ ST [] Try.f27.ntmps a [(2, (.slice none 0 0)), (3, v_223), (11, va0), (12, .int .i64 (a0.length : Int)), (13, .int .i64 i_169)] ∧ SH (fun _ => False) w w' [Row (Kd.int .i64) 3 v_223 l_224]) ?_ ?_
        · rintro a W_225 ⟨v_223, l_224, H, hst, hsh⟩
          subst hJ_226
          dsimp only at H
          refine wq_region_lit (.inl rfl) ?_
          refine r_t hst trivial rfl (x_arI (r := w64 (i_169 + 1)) hst rfl rfl rfl) ?_; intro a hst
          refine r_t hst trivial rfl (x_move hst rfl) ?_; intro a hst
          refine wpL_nil ?_
          refine then_normal ?_
          exact ⟨k_208, Nat.lt_succ_self _, v_223, l_224, (w64 (i_169 + 1)), H, hst.keep _ ⟨rfl, rfl, rfl, rfl, rfl, trivial⟩, hsh.pick [0]⟩
        · refine wq_block ?_
          refine wq_seq ?_
          refine wq_region_lit (.inl rfl) ?_
          obtain ⟨x748, hx748, H⟩ := Option.bind_eq_some_iff.1 H
          refine r_t hst trivial rfl (x_indexAddr hst Try.underlying23 el_39 rfl rfl hra0 hx748) ?_; intro a hst
          obtain ⟨_, hk749, hc750⟩ := RD.cells2 hra0 hx748
          obtain ⟨v751, rfl, hr752⟩ := hk749
          refine r_t hst trivial rfl (x_loadC hst sc_39 rfl (hc750 _ (Same.sh0 hsa0 hsh) 0 _ rfl)) ?_; intro a hst
          refine r_t hst trivial rfl (x_assign hst rfl) ?_; intro a hst
          refine wpL_nil ?_
          refine then_normal ?_
          refine wq_seq ?_
          refine wq_region_lit (.inl rfl) ?_
          refine r_t hst trivial rfl (x_move hst rfl) ?_; intro a hst
          refine r_t hst trivial rfl (x_lenSl hst Try.underlying39 rfl hr752.slen) ?_; intro a hst
          refine r_t hst trivial rfl (x_move hst rfl) ?_; intro a hst
          refine wpL_nil ?_
          refine then_normal ?_
          refine wq_block ?_
          refine wq_loop_fuel (fun k_240 a w' => ∃ (v_232 : Value), ∃ (l_233 : (List Int)), ∃ (i_234 : Int), version_Numbers.l1 J_226 x748 k_240 l_233 i_234 = some r ∧ ST [] Try.f27.ntmps a [(2, (.slice none 0 0)), (3, v_232), (11, va0), (12, .int .i64 (a0.length : Int)), (13, .int .i64 i_169), (17, v751), (18, .int .i64 (x748.length : Int)), (19, .int .i64 i_234)] ∧ SH (fun _ => False) w w' [Row (Kd.int .i64) 3 v_232 l_233]) k_208 ?_ ?_
          · exact ⟨v_167, l_168, 0, H, hst.keep _ ⟨rfl, rfl, rfl, rfl, rfl, rfl, rfl, rfl, trivial⟩, hsh.pick [0]⟩
          · rintro k_240 a W_235 ⟨v_232, l_233, i_234, H, hst, hsh⟩
            cases k_240 with
            | zero => rw [version_Numbers.l1] at H; cases H
            | succ k_240 =>
             rw [version_Numbers.l1] at H
             refine wq_seq ?_
             refine wq_region_lit (.inl rfl) ?_
             refine r_t hst trivial rfl (x_cmpI (b := decide (i_234 < (x748.length : Int))) hst rfl rfl rfl) ?_; intro a hst
             refine wpL_nil ?_
             refine then_normal ?_
             refine wq_seq ?_
             by_cases c794 : (decide (i_234 < (x748.length : Int))) = true
             · rw [if_pos c794] at H
               refine wq_condT hst rfl c794 ?_
               refine wq_skip ?_
               refine then_normal ?_
               refine wq_seq ?_
               refine wq_block ?_
               refine wq_seq ?_
               refine wq_region_lit (.inl rfl) ?_
               obtain ⟨x804, hx804, H⟩ := Option.bind_eq_some_iff.1 H
               refine r_t hst trivial rfl (x_indexAddr hst Try.underlying39 el_43 rfl rfl hr752 hx804) ?_; intro a hst
               refine r_t hst trivial rfl (x_loadEsF (j := 0) (cs := [.int .i64 x804.Number, .int .i64 x804.Size, .string x804.Least, .string x804.Limit, .int .u64 x804.Low, .int .u64 x804.High]) (ps := [.int .i64 x804.Number, .int .i64 x804.Size, .string x804.Least, .string x804.Limit, .int .u64 x804.Low, .int .u64 x804.High]) hst ag_43 rfl hr752 (Same.sh0 hsa0 hsh) hx804 rfl (fun _ h => h) rfl) ?_; intro a hst
               refine r_alloc hst hsh trivial rfl zr_43 ?_
               intro g805 a w806 hgg805 hsh hst
               refine r_storeBs (i := 0) (cs' := [.int .i64 x804.Number, .int .i64 x804.Size, .string x804.Least, .string x804.Limit, .int .u64 x804.Low, .int .u64 x804.High]) (vs := [.int .i64 x804.Number, .int .i64 x804.Size, .string x804.Least, .string x804.Limit, .int .u64 x804.Low, .int .u64 x804.High]) hst hsh trivial ag_43 rfl rfl rfl rfl rfl rfl ?_; intro a w807 hsh hst
               refine wpL_nil ?_
               refine then_normal ?_
               refine wq_region_lit (.inl rfl) ?_
               refine r_t hst trivial rfl (x_move hst rfl) ?_; intro a hst
               refine r_t hst trivial rfl (x_fieldAddr (j' := 0) hst fa_43_0 rfl rfl) ?_; intro a hst
               refine r_t hst trivial rfl (x_loadB (i := 0) hst hsh sc_3 rfl rfl rfl) ?_; intro a hst
               refine r_buildSlice (vs := [.int .i64 x804.Number]) (cs := [.int .i64 x804.Number]) hst hsh trivial rfl Try.underlying56 el_3 rfl rfl (by simp [Value.cells]) rfl rfl ?_
               intro g808 a w809 hgg808 hsh hst
               replace hsh := hsh.pick [2, 0, 0]
               obtain ⟨l810, hl810, H⟩ := Option.bind_eq_some_iff.1 H
               refine r_append1 (xx := x804.Number) (C := []) (M := [Box g805 [.int .i64 x804.Number, .int .i64 x804.Size, .string x804.Least, .string x804.Limit, .int .u64 x804.Low, .int .u64 x804.High] 43]) hst hsh trivial rfl Try.underlying56 el_3 (by decide) (by decide) (by decide) rfl rfl (fun _ _ _ => rfl) hl810 ?_
               intro v811 a w812 hsh hst
               refine r_t hst trivial rfl (x_assign hst rfl) ?_; intro a hst
               refine wpL_nil ?_
               refine block_normal ?_
               refine then_normal ?_
               refine wq_region_lit (.inl rfl) ?_
               refine r_t hst trivial rfl (x_arI (r := w64 (i_234 + 1)) hst rfl rfl rfl) ?_; intro a hst
               refine r_t hst trivial rfl (x_move hst rfl) ?_; intro a hst
               refine wpL_nil ?_
               refine then_normal ?_
               exact ⟨k_240, Nat.lt_succ_self _, v811, l810, (w64 (i_234 + 1)), H, hst.keep _ ⟨rfl, rfl, rfl, rfl, rfl, rfl, rfl, rfl, trivial⟩, hsh.pick [0]⟩
             · rw [if_neg c794] at H
               replace c794 := Bool.eq_false_iff.2 c794
               refine wq_condF hst rfl c794 ?_
               refine wq_exit ?_
               refine then_exit ?_
               refine then_exit ?_
               refine block_hit ?_
               refine block_normal ?_
               refine then_normal ?_
               exact ⟨v_232, l_233, H, hst.keep _ ⟨rfl, rfl, rfl, rfl, rfl, trivial⟩, hsh.pick [0]⟩
      · rw [if_neg c682] at H
        replace c682 := Bool.eq_false_iff.2 c682
        refine wq_condF hst rfl c682 ?_
        refine wq_exit ?_
        refine then_exit ?_
        refine then_exit ?_
        refine block_hit ?_
        refine then_normal ?_
        refine wq_seq ?_
        refine wq_region_lit (.inl rfl) ?_
        refine r_t hst trivial rfl (x_move hst rfl) ?_; intro a hst
        replace hsh := hsh.pick [0]
        obtain ⟨GG815, hsp, hG, hbx, hfx, hk⟩ := SH.callD (L1 := [Row (Kd.int .i64) 3 v_167 l_168]) (L2 := []) hsh
        obtain ⟨r813, hr813, H⟩ := Option.bind_eq_some_iff.1 H
        refine r_callD hst trivial rfl fn_54 rfl (slices_Sort_int.calls k_208 _ GG815 _ l_168 hsp r813 hr813) ?_
        rintro e w814 ⟨rfl, hc⟩
        replace hsh := hk _ _ hc
        clear hc
        refine ⟨_, rfl, fun a hst => ?_⟩
        refine wpL_nil ?_
        refine then_normal ?_
        refine wq_seq ?_
        refine wq_region_lit (.inl rfl) ?_
        refine r_t hst trivial rfl (x_move hst rfl) ?_; intro a hst
        refine r_t hst trivial rfl (x_assign hst rfl) ?_; intro a hst
        refine wpL_nil ?_
        refine then_normal ?_
        refine wq_ret ?_
        obtain rfl := Option.some.inj H
        exact ret1 hst rfl rfl ⟨v_167, rfl, hsh.pick [0]⟩
end Go.Proofs.Ytbbepmmelpabbaa.Mo
