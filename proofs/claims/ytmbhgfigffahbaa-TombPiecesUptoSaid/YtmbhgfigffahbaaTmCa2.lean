/- Printed by gen.py: contracts. -/
import Derived.Test.YtmbhgfigffahbaaTmCa1
set_option linter.unusedVariables false
set_option linter.unusedSimpArgs false
set_option maxRecDepth 100000
namespace Go.Proofs.Ytmbhgfigffahbaa.Mo
open Go Go.Proofs.Ytmbhgfigffahbaa.Sy
open Go.Proofs
set_option maxHeartbeats 4000000 in
set_option maxRecDepth 100000 in
theorem slices_partialInsertionSortOrdered_uint64.calls (k : Nat) (w : World) (GG : Nat → Prop) (va0 : Value) (a0 : (List Int)) (a1 : Int) (a2 : Int) (hsep : Sep GG w [Row (Kd.int .u64) 23 va0 a0]) (r : (Bool × (List Int))) (h : slices_partialInsertionSortOrdered_uint64 k a0 a1 a2 = some r) :
    Calls Try.prog 50 ([va0, .int .i64 a1, .int .i64 a2] : List Value).toArray w fun e w' => e = .returned (.bool r.1) ∧ SH GG w w' [Row (Kd.int .u64) 23 va0 r.2] := by
 have H := h
 clear h
 unfold slices_partialInsertionSortOrdered_uint64 at H
 refine calls_enter Try.func50 rfl rfl ?_
 intro a hst
 have hsh := SH.start hsep
 refine wq_seq ?_
 refine wq_region_lit (.inl rfl) ?_
 refine r_t hst trivial rfl (x_assign hst rfl) ?_; intro a hst
 refine wpL_nil ?_
 refine then_normal ?_
 refine wq_seq ?_
 refine wq_region_lit (.inl rfl) ?_
 refine r_t hst trivial rfl (x_move hst rfl) ?_; intro a hst
 refine r_t hst trivial rfl (x_arI (r := w64 (a1 + 1)) hst rfl rfl rfl) ?_; intro a hst
 refine r_t hst trivial rfl (x_assign hst rfl) ?_; intro a hst
 refine wpL_nil ?_
 refine then_normal ?_
 refine wq_seq ?_
 refine wq_seq ?_
 refine wq_region_lit (.inl rfl) ?_
 refine r_t hst trivial rfl (x_assign hst rfl) ?_; intro a hst
 refine wpL_nil ?_
 refine then_normal ?_
 refine wq_block ?_
 refine wq_loop_fuel (fun k_959 a w' => ∃ (l_765 : (List Int)), ∃ (i_766 : Int), ∃ (i_767 : Int), slices_partialInsertionSortOrdered_uint64.l0 a1 a2 k_959 l_765 i_766 i_767 = some r ∧ ST [] Try.f50.ntmps a [(0, va0), (1, .int .i64 a1), (2, .int .i64 a2), (6, .bool false), (7, .int .i64 i_766), (8, .int .i64 i_767)] ∧ SH GG w w' [Row (Kd.int .u64) 23 va0 l_765]) k ?_ ?_
 · exact ⟨a0, (w64 (a1 + 1)), 0, H, hst.keep _ ⟨rfl, rfl, rfl, rfl, rfl, rfl, trivial⟩, hsh.pick [0]⟩
 · rintro k_959 a W_768 ⟨l_765, i_766, i_767, H, hst, hsh⟩
   cases k_959 with
   | zero => rw [slices_partialInsertionSortOrdered_uint64.l0] at H; cases H
   | succ k_959 =>
    rw [slices_partialInsertionSortOrdered_uint64.l0] at H
    refine wq_seq ?_
    refine wq_seq ?_
    refine wq_region_lit (.inl rfl) ?_
    refine r_t hst trivial rfl (x_move hst rfl) ?_; intro a hst
    refine r_t hst trivial rfl (x_cmpI (b := decide (i_767 < 5)) hst rfl rfl rfl) ?_; intro a hst
    refine wpL_nil ?_
    refine then_normal ?_
    by_cases c5832 : (decide (i_767 < 5)) = true
    · rw [if_pos c5832] at H
      refine wq_condT hst rfl c5832 ?_
      refine wq_skip ?_
      refine then_normal ?_
      obtain ⟨J_1054, hJ_1054, H⟩ := Jn.elim H
      refine wq_cut (fun a w' => ∃ (l_1051 : (List Int)), ∃ (i_1052 : Int), J_1054 l_1051 i_1052 = some r ∧ ST [] Try.f50.ntmps a [(0, va0), (1, .int .i64 a1), (2, .int .i64 a2), (6, .bool false), (7, .int .i64 i_1052), (8, .int .i64 i_767)] ∧ SH GG w w' [Row (Kd.int .u64) 23 va0 l_1051]) ?_ ?_
      · rintro a W_1053 ⟨l_1051, i_1052, H, hst, hsh⟩
        subst hJ_1054
        dsimp only at H
        refine wq_region_lit (.inl rfl) ?_
        refine r_t hst trivial rfl (x_move hst rfl) ?_; intro a hst
        refine r_t hst trivial rfl (x_arI (r := w64 (i_767 + 1)) hst rfl rfl rfl) ?_; intro a hst
        refine r_t hst trivial rfl (x_assign hst rfl) ?_; intro a hst
        refine wpL_nil ?_
        refine then_normal ?_
        exact ⟨k_959, Nat.lt_succ_self _, l_1051, i_1052, (w64 (i_767 + 1)), H, hst.keep _ ⟨rfl, rfl, rfl, rfl, rfl, rfl, trivial⟩, hsh.pick [0]⟩
      · refine wq_block ?_
        obtain ⟨J_1083, hJ_1083, H⟩ := Jn.elim H
        refine wq_cut (fun a w' => ∃ (i_1081 : Int), J_1083 i_1081 = some r ∧ ST [] Try.f50.ntmps a [(0, va0), (1, .int .i64 a1), (2, .int .i64 a2), (6, .bool false), (7, .int .i64 i_1081), (8, .int .i64 i_767)] ∧ SH GG w w' [Row (Kd.int .u64) 23 va0 l_765]) ?_ ?_
        · rintro a W_1082 ⟨i_1081, H, hst, hsh⟩
          subst hJ_1083
          dsimp only at H
          refine wq_seq ?_
          refine wq_seq ?_
          refine wq_region_lit (.inl rfl) ?_
          refine r_t hst trivial rfl (x_move hst rfl) ?_; intro a hst
          refine r_t hst trivial rfl (x_move hst rfl) ?_; intro a hst
          refine r_t hst trivial rfl (x_cmpI (b := (i_1081 == a2)) hst rfl rfl rfl) ?_; intro a hst
          refine wpL_nil ?_
          refine then_normal ?_
          by_cases c6482 : (i_1081 == a2) = true
          · rw [if_pos c6482] at H
            refine wq_condT hst rfl c6482 ?_
            refine wq_seq ?_
            refine wq_region_lit (.inl rfl) ?_
            refine r_t hst trivial rfl (x_assign hst rfl) ?_; intro a hst
            refine wpL_nil ?_
            refine then_normal ?_
            refine wq_ret ?_
            refine then_ret ?_
            refine block_ret ?_
            refine then_ret ?_
            refine then_ret ?_
            refine block_ret ?_
            refine then_ret ?_
            obtain rfl := Option.some.inj H
            exact ret1 hst rfl rfl ⟨rfl, hsh.pick [0]⟩
          · rw [if_neg c6482] at H
            replace c6482 := Bool.eq_false_iff.2 c6482
            refine wq_condF hst rfl c6482 ?_
            refine wq_skip ?_
            refine then_normal ?_
            refine wq_seq ?_
            refine wq_seq ?_
            refine wq_region_lit (.inl rfl) ?_
            refine r_t hst trivial rfl (x_move hst rfl) ?_; intro a hst
            refine r_t hst trivial rfl (x_move hst rfl) ?_; intro a hst
            refine r_t hst trivial rfl (x_arI (r := w64 (a2 - a1)) hst rfl rfl rfl) ?_; intro a hst
            refine r_t hst trivial rfl (x_cmpI (b := decide ((w64 (a2 - a1)) < 50)) hst rfl rfl rfl) ?_; intro a hst
            refine wpL_nil ?_
            refine then_normal ?_
            by_cases c6484 : (decide ((w64 (a2 - a1)) < 50)) = true
            · rw [if_pos c6484] at H
              refine wq_condT hst rfl c6484 ?_
              refine wq_seq ?_
              refine wq_region_lit (.inl rfl) ?_
              refine r_t hst trivial rfl (x_assign hst rfl) ?_; intro a hst
              refine wpL_nil ?_
              refine then_normal ?_
              refine wq_ret ?_
              refine then_ret ?_
              refine block_ret ?_
              refine then_ret ?_
              refine then_ret ?_
              refine block_ret ?_
              refine then_ret ?_
              obtain rfl := Option.some.inj H
              exact ret1 hst rfl rfl ⟨rfl, hsh.pick [0]⟩
            · rw [if_neg c6484] at H
              replace c6484 := Bool.eq_false_iff.2 c6484
              refine wq_condF hst rfl c6484 ?_
              refine wq_skip ?_
              refine then_normal ?_
              refine wq_seq ?_
              have hw6484_0 := hsh.row 0 rfl
              refine wq_region_t (.inl rfl) (.fin [(3, 0), (3, 1), (3, 2), (3, 3), (3, 4), (3, 5), (3, 6), (3, 7), (3, 8), (0, 9), (3, 10), (3, 11), (3, 12), (0, 13), (3, 14), (2, 15), (0, 16), (2, 17)]) (fun w' => SH GG w w' [Row (Kd.int .u64) 23 va0 l_765]) (fun w' => SH GG w w' [Row (Kd.int .u64) 23 va0 l_765]) (shut_sh _ _ _) (shut_sh _ _ _) (sub_sh [0] rfl) hsh.drew fo (by kernel_rfl) ?_
              refine t_fin ?_
              refine m_p hst trivial rfl (fun _ => x_move hst rfl) ?_; intro a hst
              refine m_p hst trivial rfl (fun _ => x_move hst rfl) ?_; intro a hst
              refine m_p hst trivial rfl (fun _ => x_move hst rfl) ?_; intro a hst
              refine m_p hst trivial rfl (fun _ => x_move hst rfl) ?_; intro a hst
              refine m_p hst trivial rfl (fun _ => x_arI (r := w64 (i_1081 - 1)) hst rfl rfl rfl) ?_; intro a hst
              refine m_p hst trivial rfl (fun _ => x_move hst rfl) ?_; intro a hst
              refine m_p hst trivial rfl (fun _ => x_move hst rfl) ?_; intro a hst
              refine m_p hst trivial rfl (fun _ => x_arI (r := w64 (i_1081 - 1)) hst rfl rfl rfl) ?_; intro a hst
              obtain ⟨x6485, hx6485, H⟩ := Option.bind_eq_some_iff.1 H
              refine m_p hst trivial rfl (fun _ => x_indexAddr hst Try.underlying35 el_23 rfl rfl hw6484_0 hx6485) ?_; intro a hst
              refine m_t hst trivial rfl (fun _ hsh => x_loadEF (j := 0) (cs := [.int .u64 x6485]) hst sc_23 rfl (hsh.row 0 rfl) (Same.refl _ _) hx6485 rfl (fun _ h => h) rfl) ?_; intro a hst
              refine m_p hst trivial rfl (fun _ => x_move hst rfl) ?_; intro a hst
              refine m_p hst trivial rfl (fun _ => x_move hst rfl) ?_; intro a hst
              obtain ⟨x6486, hx6486, H⟩ := Option.bind_eq_some_iff.1 H
              refine m_p hst trivial rfl (fun _ => x_indexAddr hst Try.underlying35 el_23 rfl rfl hw6484_0 hx6486) ?_; intro a hst
              refine m_t hst trivial rfl (fun _ hsh => x_loadEF (j := 0) (cs := [.int .u64 x6486]) hst sc_23 rfl (hsh.row 0 rfl) (Same.refl _ _) hx6486 rfl (fun _ h => h) rfl) ?_; intro a hst
              obtain ⟨x6487, hx6487, H⟩ := Option.bind_eq_some_iff.1 H
              refine m_p hst trivial rfl (fun _ => x_indexAddr hst Try.underlying35 el_23 rfl rfl hw6484_0 hx6487) ?_; intro a hst
              refine m_loud (.inr rfl) ?_
              intro w6488 hsh
              obtain ⟨l6489, hl6489, H⟩ := Option.bind_eq_some_iff.1 H
              refine r_storeE (i := 0) (off := 0) (new := x6485) (cs' := [.int .u64 x6485]) hst hsh trivial sc_23 rfl rfl rfl hx6487 rfl (Nat.le_of_ble_eq_true rfl) rfl (fun _ _ _ h => by rw [h]; rfl) (fun _ _ => rfl) ?_; intro a w6490 hsh hst
              rw [← upd_some hl6489] at hsh
              refine m_turn hsh ?_
              obtain ⟨x6491, hx6491, H⟩ := Option.bind_eq_some_iff.1 H
              refine m_t hst trivial rfl (fun _ hsh => x_indexAddr hst Try.underlying35 el_23 rfl rfl (hsh.row 0 rfl) hx6491) ?_; intro a hst
              refine m_loud (.inr rfl) ?_
              intro w6492 hsh
              obtain ⟨l6493, hl6493, H⟩ := Option.bind_eq_some_iff.1 H
              refine r_storeE (i := 0) (off := 0) (new := x6486) (cs' := [.int .u64 x6486]) hst hsh trivial sc_23 rfl rfl rfl hx6491 rfl (Nat.le_of_ble_eq_true rfl) rfl (fun _ _ _ h => by rw [h]; rfl) (fun _ _ => rfl) ?_; intro a w6494 hsh hst
              rw [← upd_some hl6493] at hsh
              refine m_turn hsh ?_
              refine m_nil ?_
              intro w6495 hsh
              refine qn_normal ?_
              refine then_normal ?_
              obtain ⟨J_1097, hJ_1097, H⟩ := Jn.elim H
              refine wq_cut (fun a w' => ∃ (l_1095 : (List Int)), J_1097 l_1095 = some r ∧ ST [] Try.f50.ntmps a [(0, va0), (1, .int .i64 a1), (2, .int .i64 a2), (6, .bool false), (7, .int .i64 i_1081), (8, .int .i64 i_767)] ∧ SH GG w w' [Row (Kd.int .u64) 23 va0 l_1095]) ?_ ?_
              · rintro a W_1096 ⟨l_1095, H, hst, hsh⟩
                subst hJ_1097
                dsimp only at H
                refine wq_seq ?_
                refine wq_region_lit (.inl rfl) ?_
                refine r_t hst trivial rfl (x_move hst rfl) ?_; intro a hst
                refine r_t hst trivial rfl (x_move hst rfl) ?_; intro a hst
                refine r_t hst trivial rfl (x_arI (r := w64 (a2 - i_1081)) hst rfl rfl rfl) ?_; intro a hst
                refine r_t hst trivial rfl (x_cmpI (b := decide (2 ≤ (w64 (a2 - i_1081)))) hst rfl rfl rfl) ?_; intro a hst
                refine wpL_nil ?_
                refine then_normal ?_
                by_cases c6641 : (decide (2 ≤ (w64 (a2 - i_1081)))) = true
                · rw [if_pos c6641] at H
                  refine wq_condT hst rfl c6641 ?_
                  refine wq_seq ?_
                  refine wq_region_lit (.inl rfl) ?_
                  refine r_t hst trivial rfl (x_move hst rfl) ?_; intro a hst
                  refine r_t hst trivial rfl (x_arI (r := w64 (i_1081 + 1)) hst rfl rfl rfl) ?_; intro a hst
                  refine r_t hst trivial rfl (x_assign hst rfl) ?_; intro a hst
                  refine wpL_nil ?_
                  refine then_normal ?_
                  refine wq_block ?_
                  refine wq_loop_fuel (fun k_1108 a w' => ∃ (l_1102 : (List Int)), ∃ (i_1103 : Int), slices_partialInsertionSortOrdered_uint64.l1 a2 J_1054 i_1081 k_1108 l_1102 i_1103 = some r ∧ ST [] Try.f50.ntmps a [(0, va0), (1, .int .i64 a1), (2, .int .i64 a2), (6, .bool false), (7, .int .i64 i_1081), (8, .int .i64 i_767), (10, .int .i64 i_1103)] ∧ SH GG w w' [Row (Kd.int .u64) 23 va0 l_1102]) k_959 ?_ ?_
                  · exact ⟨l_1095, (w64 (i_1081 + 1)), H, hst.keep _ ⟨rfl, rfl, rfl, rfl, rfl, rfl, rfl, trivial⟩, hsh.pick [0]⟩
                  · rintro k_1108 a W_1104 ⟨l_1102, i_1103, H, hst, hsh⟩
                    cases k_1108 with
                    | zero => rw [slices_partialInsertionSortOrdered_uint64.l1] at H; cases H
                    | succ k_1108 =>
                     rw [slices_partialInsertionSortOrdered_uint64.l1] at H
                     refine wq_seq ?_
                     refine wq_seq ?_
                     refine wq_region_lit (.inl rfl) ?_
                     refine r_t hst trivial rfl (x_move hst rfl) ?_; intro a hst
                     refine r_t hst trivial rfl (x_move hst rfl) ?_; intro a hst
                     refine r_t hst trivial rfl (x_cmpI (b := decide (i_1103 < a2)) hst rfl rfl rfl) ?_; intro a hst
                     refine wpL_nil ?_
                     refine then_normal ?_
                     by_cases c6739 : (decide (i_1103 < a2)) = true
                     · rw [if_pos c6739] at H
                       refine wq_condT hst rfl c6739 ?_
                       refine wq_skip ?_
                       refine then_normal ?_
                       refine wq_seq ?_
                       refine wq_block ?_
                       refine wq_seq ?_
                       refine wq_seq ?_
                       refine wq_region_q (.inl rfl) (fun w' => SH GG w w' [Row (Kd.int .u64) 23 va0 l_1102]) (shut_sh _ _ _) hsh.drew fo (by kernel_rfl) ?_
                       refine q_t hst trivial rfl (fun _ hsh => x_move hst rfl) ?_; intro a hst
                       refine q_t hst trivial rfl (fun _ hsh => x_move hst rfl) ?_; intro a hst
                       obtain ⟨x6769, hx6769, H⟩ := Option.bind_eq_some_iff.1 H
                       refine q_t hst trivial rfl (fun _ hsh => x_indexAddr hst Try.underlying35 el_23 rfl rfl (hsh.row 0 rfl) hx6769) ?_; intro a hst
                       refine q_t hst trivial rfl (fun _ hsh => x_loadEF (j := 0) (cs := [.int .u64 x6769]) hst sc_23 rfl (hsh.row 0 rfl) (Same.refl _ _) hx6769 rfl (fun _ h => h) rfl) ?_; intro a hst
                       refine q_t hst trivial rfl (fun _ hsh => x_move hst rfl) ?_; intro a hst
                       refine q_t hst trivial rfl (fun _ hsh => x_move hst rfl) ?_; intro a hst
                       refine q_t hst trivial rfl (fun _ hsh => x_arI (r := w64 (i_1103 - 1)) hst rfl rfl rfl) ?_; intro a hst
                       obtain ⟨x6770, hx6770, H⟩ := Option.bind_eq_some_iff.1 H
                       refine q_t hst trivial rfl (fun _ hsh => x_indexAddr hst Try.underlying35 el_23 rfl rfl (hsh.row 0 rfl) hx6770) ?_; intro a hst
                       refine q_t hst trivial rfl (fun _ hsh => x_loadEF (j := 0) (cs := [.int .u64 x6770]) hst sc_23 rfl (hsh.row 0 rfl) (Same.refl _ _) hx6770 rfl (fun _ h => h) rfl) ?_; intro a hst
                       obtain ⟨r6771, hr6771, H⟩ := Option.bind_eq_some_iff.1 H
                       refine q_call hst trivial rfl fn_51 rfl (fun w9 hsh => cmp_Less_uint64.calls _ x6769 x6770 r6771 hr6771) ?_; intro a hst
                       refine q_t hst trivial rfl (fun _ hsh => x_notB hst rfl) ?_; intro a hst
                       refine q_nil ?_
                       intro w6773 hsh
                       refine then_normal ?_
                       by_cases c6774 : (!r6771) = true
                       · rw [if_pos c6774] at H
                         refine wq_condT hst rfl c6774 ?_
                         refine wq_exit ?_
                         refine then_exit ?_
                         refine block_miss rfl ?_
                         refine then_exit ?_
                         refine then_exit ?_
                         refine block_hit ?_
                         refine block_normal ?_
                         refine then_normal ?_
                         exact ⟨l_1102, i_1081, H, hst.keep _ ⟨rfl, rfl, rfl, rfl, rfl, rfl, trivial⟩, hsh.pick [0]⟩
                       · rw [if_neg c6774] at H
                         replace c6774 := Bool.eq_false_iff.2 c6774
                         refine wq_condF hst rfl c6774 ?_
                         refine wq_skip ?_
                         refine then_normal ?_
                         have hw6774_0 := hsh.row 0 rfl
                         refine wq_region_t (.inl rfl) (.fin [(3, 0), (3, 1), (3, 2), (3, 3), (3, 4), (3, 5), (3, 6), (3, 7), (3, 8), (0, 9), (3, 10), (3, 11), (3, 12), (0, 13), (3, 14), (2, 15), (0, 16), (2, 17)]) (fun w' => SH GG w w' [Row (Kd.int .u64) 23 va0 l_1102]) (fun w' => SH GG w w' [Row (Kd.int .u64) 23 va0 l_1102]) (shut_sh _ _ _) (shut_sh _ _ _) (sub_sh [0] rfl) hsh.drew fo (by kernel_rfl) ?_
                         refine t_fin ?_
                         refine m_p hst trivial rfl (fun _ => x_move hst rfl) ?_; intro a hst
                         refine m_p hst trivial rfl (fun _ => x_move hst rfl) ?_; intro a hst
                         refine m_p hst trivial rfl (fun _ => x_move hst rfl) ?_; intro a hst
                         refine m_p hst trivial rfl (fun _ => x_move hst rfl) ?_; intro a hst
                         refine m_p hst trivial rfl (fun _ => x_arI (r := w64 (i_1103 - 1)) hst rfl rfl rfl) ?_; intro a hst
                         refine m_p hst trivial rfl (fun _ => x_move hst rfl) ?_; intro a hst
                         refine m_p hst trivial rfl (fun _ => x_move hst rfl) ?_; intro a hst
                         refine m_p hst trivial rfl (fun _ => x_arI (r := w64 (i_1103 - 1)) hst rfl rfl rfl) ?_; intro a hst
                         obtain ⟨x6775, hx6775, H⟩ := Option.bind_eq_some_iff.1 H
                         refine m_p hst trivial rfl (fun _ => x_indexAddr hst Try.underlying35 el_23 rfl rfl hw6774_0 hx6775) ?_; intro a hst
                         refine m_t hst trivial rfl (fun _ hsh => x_loadEF (j := 0) (cs := [.int .u64 x6775]) hst sc_23 rfl (hsh.row 0 rfl) (Same.refl _ _) hx6775 rfl (fun _ h => h) rfl) ?_; intro a hst
                         refine m_p hst trivial rfl (fun _ => x_move hst rfl) ?_; intro a hst
                         refine m_p hst trivial rfl (fun _ => x_move hst rfl) ?_; intro a hst
                         obtain ⟨x6776, hx6776, H⟩ := Option.bind_eq_some_iff.1 H
                         refine m_p hst trivial rfl (fun _ => x_indexAddr hst Try.underlying35 el_23 rfl rfl hw6774_0 hx6776) ?_; intro a hst
                         refine m_t hst trivial rfl (fun _ hsh => x_loadEF (j := 0) (cs := [.int .u64 x6776]) hst sc_23 rfl (hsh.row 0 rfl) (Same.refl _ _) hx6776 rfl (fun _ h => h) rfl) ?_; intro a hst
                         obtain ⟨x6777, hx6777, H⟩ := Option.bind_eq_some_iff.1 H
                         refine m_p hst trivial rfl (fun _ => x_indexAddr hst Try.underlying35 el_23 rfl rfl hw6774_0 hx6777) ?_; intro a hst
                         refine m_loud (.inr rfl) ?_
                         intro w6778 hsh
                         obtain ⟨l6779, hl6779, H⟩ := Option.bind_eq_some_iff.1 H
                         refine r_storeE (i := 0) (off := 0) (new := x6775) (cs' := [.int .u64 x6775]) hst hsh trivial sc_23 rfl rfl rfl hx6777 rfl (Nat.le_of_ble_eq_true rfl) rfl (fun _ _ _ h => by rw [h]; rfl) (fun _ _ => rfl) ?_; intro a w6780 hsh hst
                         rw [← upd_some hl6779] at hsh
                         refine m_turn hsh ?_
                         obtain ⟨x6781, hx6781, H⟩ := Option.bind_eq_some_iff.1 H
                         refine m_t hst trivial rfl (fun _ hsh => x_indexAddr hst Try.underlying35 el_23 rfl rfl (hsh.row 0 rfl) hx6781) ?_; intro a hst
                         refine m_loud (.inr rfl) ?_
                         intro w6782 hsh
                         obtain ⟨l6783, hl6783, H⟩ := Option.bind_eq_some_iff.1 H
                         refine r_storeE (i := 0) (off := 0) (new := x6776) (cs' := [.int .u64 x6776]) hst hsh trivial sc_23 rfl rfl rfl hx6781 rfl (Nat.le_of_ble_eq_true rfl) rfl (fun _ _ _ h => by rw [h]; rfl) (fun _ _ => rfl) ?_; intro a w6784 hsh hst
                         rw [← upd_some hl6783] at hsh
                         refine m_turn hsh ?_
                         refine m_nil ?_
                         intro w6785 hsh
                         refine qn_normal ?_
                         refine block_normal ?_
                         refine then_normal ?_
                         refine wq_region_lit (.inl rfl) ?_
                         refine r_t hst trivial rfl (x_move hst rfl) ?_; intro a hst
                         refine r_t hst trivial rfl (x_arI (r := w64 (i_1103 + 1)) hst rfl rfl rfl) ?_; intro a hst
                         refine r_t hst trivial rfl (x_assign hst rfl) ?_; intro a hst
                         refine wpL_nil ?_
                         refine then_normal ?_
                         exact ⟨k_1108, Nat.lt_succ_self _, l6783, (w64 (i_1103 + 1)), H, hst.keep _ ⟨rfl, rfl, rfl, rfl, rfl, rfl, rfl, trivial⟩, hsh.pick [0]⟩
                     · rw [if_neg c6739] at H
                       replace c6739 := Bool.eq_false_iff.2 c6739
                       refine wq_condF hst rfl c6739 ?_
                       refine wq_exit ?_
                       refine then_exit ?_
                       refine then_exit ?_
                       refine block_hit ?_
                       refine block_normal ?_
                       refine then_normal ?_
                       exact ⟨l_1102, i_1081, H, hst.keep _ ⟨rfl, rfl, rfl, rfl, rfl, rfl, trivial⟩, hsh.pick [0]⟩
                · rw [if_neg c6641] at H
                  replace c6641 := Bool.eq_false_iff.2 c6641
                  refine wq_condF hst rfl c6641 ?_
                  refine wq_skip ?_
                  refine block_normal ?_
                  refine then_normal ?_
                  exact ⟨l_1095, i_1081, H, hst.keep _ ⟨rfl, rfl, rfl, rfl, rfl, rfl, trivial⟩, hsh.pick [0]⟩
              · refine wq_seq ?_
                refine wq_region_lit (.inl rfl) ?_
                refine r_t hst trivial rfl (x_move hst rfl) ?_; intro a hst
                refine r_t hst trivial rfl (x_move hst rfl) ?_; intro a hst
                refine r_t hst trivial rfl (x_arI (r := w64 (i_1081 - a1)) hst rfl rfl rfl) ?_; intro a hst
                refine r_t hst trivial rfl (x_cmpI (b := decide (2 ≤ (w64 (i_1081 - a1)))) hst rfl rfl rfl) ?_; intro a hst
                refine wpL_nil ?_
                refine then_normal ?_
                by_cases c6786 : (decide (2 ≤ (w64 (i_1081 - a1)))) = true
                · rw [if_pos c6786] at H
                  refine wq_condT hst rfl c6786 ?_
                  refine wq_seq ?_
                  refine wq_region_lit (.inl rfl) ?_
                  refine r_t hst trivial rfl (x_move hst rfl) ?_; intro a hst
                  refine r_t hst trivial rfl (x_arI (r := w64 (i_1081 - 1)) hst rfl rfl rfl) ?_; intro a hst
                  refine r_t hst trivial rfl (x_assign hst rfl) ?_; intro a hst
                  refine wpL_nil ?_
                  refine then_normal ?_
                  refine wq_block ?_
                  refine wq_loop_fuel (fun k_1119 a w' => ∃ (l_1113 : (List Int)), ∃ (i_1114 : Int), slices_partialInsertionSortOrdered_uint64.l2 J_1097 k_1119 l_1113 i_1114 = some r ∧ ST [] Try.f50.ntmps a [(0, va0), (1, .int .i64 a1), (2, .int .i64 a2), (6, .bool false), (7, .int .i64 i_1081), (8, .int .i64 i_767), (9, .int .i64 i_1114)] ∧ SH GG w w' [Row (Kd.int .u64) 23 va0 l_1113]) k_959 ?_ ?_
                  · exact ⟨l6493, (w64 (i_1081 - 1)), H, hst.keep _ ⟨rfl, rfl, rfl, rfl, rfl, rfl, rfl, trivial⟩, hsh.pick [0]⟩
                  · rintro k_1119 a W_1115 ⟨l_1113, i_1114, H, hst, hsh⟩
                    cases k_1119 with
                    | zero => rw [slices_partialInsertionSortOrdered_uint64.l2] at H; cases H
                    | succ k_1119 =>
                     rw [slices_partialInsertionSortOrdered_uint64.l2] at H
                     refine wq_seq ?_
                     refine wq_seq ?_
                     refine wq_region_lit (.inl rfl) ?_
                     refine r_t hst trivial rfl (x_move hst rfl) ?_; intro a hst
                     refine r_t hst trivial rfl (x_cmpI (b := decide (1 ≤ i_1114)) hst rfl rfl rfl) ?_; intro a hst
                     refine wpL_nil ?_
                     refine then_normal ?_
                     by_cases c6884 : (decide (1 ≤ i_1114)) = true
                     · rw [if_pos c6884] at H
                       refine wq_condT hst rfl c6884 ?_
                       refine wq_skip ?_
                       refine then_normal ?_
                       refine wq_seq ?_
                       refine wq_block ?_
                       refine wq_seq ?_
                       refine wq_seq ?_
                       refine wq_region_q (.inl rfl) (fun w' => SH GG w w' [Row (Kd.int .u64) 23 va0 l_1113]) (shut_sh _ _ _) hsh.drew fo (by kernel_rfl) ?_
                       refine q_t hst trivial rfl (fun _ hsh => x_move hst rfl) ?_; intro a hst
                       refine q_t hst trivial rfl (fun _ hsh => x_move hst rfl) ?_; intro a hst
                       obtain ⟨x6914, hx6914, H⟩ := Option.bind_eq_some_iff.1 H
                       refine q_t hst trivial rfl (fun _ hsh => x_indexAddr hst Try.underlying35 el_23 rfl rfl (hsh.row 0 rfl) hx6914) ?_; intro a hst
                       refine q_t hst trivial rfl (fun _ hsh => x_loadEF (j := 0) (cs := [.int .u64 x6914]) hst sc_23 rfl (hsh.row 0 rfl) (Same.refl _ _) hx6914 rfl (fun _ h => h) rfl) ?_; intro a hst
                       refine q_t hst trivial rfl (fun _ hsh => x_move hst rfl) ?_; intro a hst
                       refine q_t hst trivial rfl (fun _ hsh => x_move hst rfl) ?_; intro a hst
                       refine q_t hst trivial rfl (fun _ hsh => x_arI (r := w64 (i_1114 - 1)) hst rfl rfl rfl) ?_; intro a hst
                       obtain ⟨x6915, hx6915, H⟩ := Option.bind_eq_some_iff.1 H
                       refine q_t hst trivial rfl (fun _ hsh => x_indexAddr hst Try.underlying35 el_23 rfl rfl (hsh.row 0 rfl) hx6915) ?_; intro a hst
                       refine q_t hst trivial rfl (fun _ hsh => x_loadEF (j := 0) (cs := [.int .u64 x6915]) hst sc_23 rfl (hsh.row 0 rfl) (Same.refl _ _) hx6915 rfl (fun _ h => h) rfl) ?_; intro a hst
                       obtain ⟨r6916, hr6916, H⟩ := Option.bind_eq_some_iff.1 H
                       refine q_call hst trivial rfl fn_51 rfl (fun w9 hsh => cmp_Less_uint64.calls _ x6914 x6915 r6916 hr6916) ?_; intro a hst
                       refine q_t hst trivial rfl (fun _ hsh => x_notB hst rfl) ?_; intro a hst
                       refine q_nil ?_
                       intro w6918 hsh
                       refine then_normal ?_
                       by_cases c6919 : (!r6916) = true
                       · rw [if_pos c6919] at H
                         refine wq_condT hst rfl c6919 ?_
                         refine wq_exit ?_
                         refine then_exit ?_
                         refine block_miss rfl ?_
                         refine then_exit ?_
                         refine then_exit ?_
                         refine block_hit ?_
                         refine then_normal ?_
                         exact ⟨l_1113, H, hst.keep _ ⟨rfl, rfl, rfl, rfl, rfl, rfl, trivial⟩, hsh.pick [0]⟩
                       · rw [if_neg c6919] at H
                         replace c6919 := Bool.eq_false_iff.2 c6919
                         refine wq_condF hst rfl c6919 ?_
                         refine wq_skip ?_
                         refine then_normal ?_
                         have hw6919_0 := hsh.row 0 rfl
                         refine wq_region_t (.inl rfl) (.fin [(3, 0), (3, 1), (3, 2), (3, 3), (3, 4), (3, 5), (3, 6), (3, 7), (3, 8), (0, 9), (3, 10), (3, 11), (3, 12), (0, 13), (3, 14), (2, 15), (0, 16), (2, 17)]) (fun w' => SH GG w w' [Row (Kd.int .u64) 23 va0 l_1113]) (fun w' => SH GG w w' [Row (Kd.int .u64) 23 va0 l_1113]) (shut_sh _ _ _) (shut_sh _ _ _) (sub_sh [0] rfl) hsh.drew fo (by kernel_rfl) ?_
                         refine t_fin ?_
                         refine m_p hst trivial rfl (fun _ => x_move hst rfl) ?_; intro a hst
                         refine m_p hst trivial rfl (fun _ => x_move hst rfl) ?_; intro a hst
                         refine m_p hst trivial rfl (fun _ => x_move hst rfl) ?_; intro a hst
                         refine m_p hst trivial rfl (fun _ => x_move hst rfl) ?_; intro a hst
                         refine m_p hst trivial rfl (fun _ => x_arI (r := w64 (i_1114 - 1)) hst rfl rfl rfl) ?_; intro a hst
                         refine m_p hst trivial rfl (fun _ => x_move hst rfl) ?_; intro a hst
                         refine m_p hst trivial rfl (fun _ => x_move hst rfl) ?_; intro a hst
                         refine m_p hst trivial rfl (fun _ => x_arI (r := w64 (i_1114 - 1)) hst rfl rfl rfl) ?_; intro a hst
                         obtain ⟨x6920, hx6920, H⟩ := Option.bind_eq_some_iff.1 H
                         refine m_p hst trivial rfl (fun _ => x_indexAddr hst Try.underlying35 el_23 rfl rfl hw6919_0 hx6920) ?_; intro a hst
                         refine m_t hst trivial rfl (fun _ hsh => x_loadEF (j := 0) (cs := [.int .u64 x6920]) hst sc_23 rfl (hsh.row 0 rfl) (Same.refl _ _) hx6920 rfl (fun _ h => h) rfl) ?_; intro a hst
                         refine m_p hst trivial rfl (fun _ => x_move hst rfl) ?_; intro a hst
                         refine m_p hst trivial rfl (fun _ => x_move hst rfl) ?_; intro a hst
                         obtain ⟨x6921, hx6921, H⟩ := Option.bind_eq_some_iff.1 H
                         refine m_p hst trivial rfl (fun _ => x_indexAddr hst Try.underlying35 el_23 rfl rfl hw6919_0 hx6921) ?_; intro a hst
                         refine m_t hst trivial rfl (fun _ hsh => x_loadEF (j := 0) (cs := [.int .u64 x6921]) hst sc_23 rfl (hsh.row 0 rfl) (Same.refl _ _) hx6921 rfl (fun _ h => h) rfl) ?_; intro a hst
                         obtain ⟨x6922, hx6922, H⟩ := Option.bind_eq_some_iff.1 H
                         refine m_p hst trivial rfl (fun _ => x_indexAddr hst Try.underlying35 el_23 rfl rfl hw6919_0 hx6922) ?_; intro a hst
                         refine m_loud (.inr rfl) ?_
                         intro w6923 hsh
                         obtain ⟨l6924, hl6924, H⟩ := Option.bind_eq_some_iff.1 H
                         refine r_storeE (i := 0) (off := 0) (new := x6920) (cs' := [.int .u64 x6920]) hst hsh trivial sc_23 rfl rfl rfl hx6922 rfl (Nat.le_of_ble_eq_true rfl) rfl (fun _ _ _ h => by rw [h]; rfl) (fun _ _ => rfl) ?_; intro a w6925 hsh hst
                         rw [← upd_some hl6924] at hsh
                         refine m_turn hsh ?_
                         obtain ⟨x6926, hx6926, H⟩ := Option.bind_eq_some_iff.1 H
                         refine m_t hst trivial rfl (fun _ hsh => x_indexAddr hst Try.underlying35 el_23 rfl rfl (hsh.row 0 rfl) hx6926) ?_; intro a hst
                         refine m_loud (.inr rfl) ?_
                         intro w6927 hsh
                         obtain ⟨l6928, hl6928, H⟩ := Option.bind_eq_some_iff.1 H
                         refine r_storeE (i := 0) (off := 0) (new := x6921) (cs' := [.int .u64 x6921]) hst hsh trivial sc_23 rfl rfl rfl hx6926 rfl (Nat.le_of_ble_eq_true rfl) rfl (fun _ _ _ h => by rw [h]; rfl) (fun _ _ => rfl) ?_; intro a w6929 hsh hst
                         rw [← upd_some hl6928] at hsh
                         refine m_turn hsh ?_
                         refine m_nil ?_
                         intro w6930 hsh
                         refine qn_normal ?_
                         refine block_normal ?_
                         refine then_normal ?_
                         refine wq_region_lit (.inl rfl) ?_
                         refine r_t hst trivial rfl (x_move hst rfl) ?_; intro a hst
                         refine r_t hst trivial rfl (x_arI (r := w64 (i_1114 - 1)) hst rfl rfl rfl) ?_; intro a hst
                         refine r_t hst trivial rfl (x_assign hst rfl) ?_; intro a hst
                         refine wpL_nil ?_
                         refine then_normal ?_
                         exact ⟨k_1119, Nat.lt_succ_self _, l6928, (w64 (i_1114 - 1)), H, hst.keep _ ⟨rfl, rfl, rfl, rfl, rfl, rfl, rfl, trivial⟩, hsh.pick [0]⟩
                     · rw [if_neg c6884] at H
                       replace c6884 := Bool.eq_false_iff.2 c6884
                       refine wq_condF hst rfl c6884 ?_
                       refine wq_exit ?_
                       refine then_exit ?_
                       refine then_exit ?_
                       refine block_hit ?_
                       refine then_normal ?_
                       exact ⟨l_1113, H, hst.keep _ ⟨rfl, rfl, rfl, rfl, rfl, rfl, trivial⟩, hsh.pick [0]⟩
                · rw [if_neg c6786] at H
                  replace c6786 := Bool.eq_false_iff.2 c6786
                  refine wq_condF hst rfl c6786 ?_
                  refine wq_skip ?_
                  refine then_normal ?_
                  exact ⟨l6493, H, hst.keep _ ⟨rfl, rfl, rfl, rfl, rfl, rfl, trivial⟩, hsh.pick [0]⟩
        · refine wq_block ?_
          refine wq_loop_fuel (fun k_1139 a w' => ∃ (i_1129 : Int), slices_partialInsertionSortOrdered_uint64.l3 a2 l_765 J_1083 k_1139 i_1129 = some r ∧ ST [] Try.f50.ntmps a [(0, va0), (1, .int .i64 a1), (2, .int .i64 a2), (6, .bool false), (7, .int .i64 i_1129), (8, .int .i64 i_767)] ∧ SH GG w w' [Row (Kd.int .u64) 23 va0 l_765]) k_959 ?_ ?_
          · exact ⟨i_766, H, hst.keep _ ⟨rfl, rfl, rfl, rfl, rfl, rfl, trivial⟩, hsh.pick [0]⟩
          · rintro k_1139 a W_1130 ⟨i_1129, H, hst, hsh⟩
            cases k_1139 with
            | zero => rw [slices_partialInsertionSortOrdered_uint64.l3] at H; cases H
            | succ k_1139 =>
             rw [slices_partialInsertionSortOrdered_uint64.l3] at H
             refine wq_seq ?_
             refine wq_seq ?_
             refine wq_region_q (.inl rfl) (fun w' => SH GG w w' [Row (Kd.int .u64) 23 va0 l_765]) (shut_sh _ _ _) hsh.drew fo (by kernel_rfl) ?_
             refine q_t hst trivial rfl (fun _ hsh => x_move hst rfl) ?_; intro a hst
             refine q_t hst trivial rfl (fun _ hsh => x_move hst rfl) ?_; intro a hst
             refine q_t hst trivial rfl (fun _ hsh => x_cmpI (b := decide (i_1129 < a2)) hst rfl rfl rfl) ?_; intro a hst
             refine q_t hst trivial rfl (fun _ hsh => x_move hst rfl) ?_; intro a hst
             obtain ⟨J_1144, hJ_1144, H⟩ := Jn.elim H
             refine q_join 16 (fun a => ∃ (b_1143 : Bool), J_1144 b_1143 = some r ∧ ST [] Try.f50.ntmps a [(0, va0), (1, .int .i64 a1), (2, .int .i64 a2), (6, .bool false), (7, .int .i64 i_1129), (8, .int .i64 i_767), (32, .bool b_1143)]) ?_ ?_
             · rintro a ⟨b_1143, H, hst⟩
               subst hJ_1144
               dsimp only at H
               refine q_nil ?_
               intro w6991 hsh
               refine then_normal ?_
               by_cases c6992 : b_1143 = true
               · rw [if_pos c6992] at H
                 refine wq_condT hst rfl c6992 ?_
                 refine wq_skip ?_
                 refine then_normal ?_
                 refine wq_block ?_
                 refine wq_region_lit (.inl rfl) ?_
                 refine r_t hst trivial rfl (x_move hst rfl) ?_; intro a hst
                 refine r_t hst trivial rfl (x_arI (r := w64 (i_1129 + 1)) hst rfl rfl rfl) ?_; intro a hst
                 refine r_t hst trivial rfl (x_assign hst rfl) ?_; intro a hst
                 refine wpL_nil ?_
                 refine block_normal ?_
                 refine then_normal ?_
                 exact ⟨k_1139, Nat.lt_succ_self _, (w64 (i_1129 + 1)), H, hst.keep _ ⟨rfl, rfl, rfl, rfl, rfl, rfl, trivial⟩, hsh.pick [0]⟩
               · rw [if_neg c6992] at H
                 replace c6992 := Bool.eq_false_iff.2 c6992
                 refine wq_condF hst rfl c6992 ?_
                 refine wq_exit ?_
                 refine then_exit ?_
                 refine then_exit ?_
                 refine block_hit ?_
                 refine then_normal ?_
                 exact ⟨i_1129, H, hst.keep _ ⟨rfl, rfl, rfl, rfl, rfl, rfl, trivial⟩, hsh.pick [0]⟩
             · intro hj
               by_cases c6986 : (decide (i_1129 < a2)) = true
               · rw [if_pos c6986] at H
                 refine q_t hst (wt_of 20 rfl rfl c6986) rfl (fun _ hsh => x_move hst rfl) ?_; intro a hst
                 refine q_t hst (wt_of 20 rfl rfl c6986) rfl (fun _ hsh => x_move hst rfl) ?_; intro a hst
                 obtain ⟨x6993, hx6993, H⟩ := Option.bind_eq_some_iff.1 H
                 refine q_t hst (wt_of 20 rfl rfl c6986) rfl (fun _ hsh => x_indexAddr hst Try.underlying35 el_23 rfl rfl (hsh.row 0 rfl) hx6993) ?_; intro a hst
                 refine q_t hst (wt_of 20 rfl rfl c6986) rfl (fun _ hsh => x_loadEF (j := 0) (cs := [.int .u64 x6993]) hst sc_23 rfl (hsh.row 0 rfl) (Same.refl _ _) hx6993 rfl (fun _ h => h) rfl) ?_; intro a hst
                 refine q_t hst (wt_of 20 rfl rfl c6986) rfl (fun _ hsh => x_move hst rfl) ?_; intro a hst
                 refine q_t hst (wt_of 20 rfl rfl c6986) rfl (fun _ hsh => x_move hst rfl) ?_; intro a hst
                 refine q_t hst (wt_of 20 rfl rfl c6986) rfl (fun _ hsh => x_arI (r := w64 (i_1129 - 1)) hst rfl rfl rfl) ?_; intro a hst
                 obtain ⟨x6994, hx6994, H⟩ := Option.bind_eq_some_iff.1 H
                 refine q_t hst (wt_of 20 rfl rfl c6986) rfl (fun _ hsh => x_indexAddr hst Try.underlying35 el_23 rfl rfl (hsh.row 0 rfl) hx6994) ?_; intro a hst
                 refine q_t hst (wt_of 20 rfl rfl c6986) rfl (fun _ hsh => x_loadEF (j := 0) (cs := [.int .u64 x6994]) hst sc_23 rfl (hsh.row 0 rfl) (Same.refl _ _) hx6994 rfl (fun _ h => h) rfl) ?_; intro a hst
                 obtain ⟨r6995, hr6995, H⟩ := Option.bind_eq_some_iff.1 H
                 refine q_call hst (wt_of 20 rfl rfl c6986) rfl fn_51 rfl (fun w9 hsh => cmp_Less_uint64.calls _ x6993 x6994 r6995 hr6995) ?_; intro a hst
                 refine q_t hst (wt_of 20 rfl rfl c6986) rfl (fun _ hsh => x_notB hst rfl) ?_; intro a hst
                 refine q_t hst trivial rfl (fun _ hsh => x_pickT hst rfl c6986 rfl) ?_; intro a hst
                 exact hj _ ⟨(!r6995), H, hst.keep _ ⟨rfl, rfl, rfl, rfl, rfl, rfl, rfl, trivial⟩⟩
               · rw [if_neg c6986] at H
                 replace c6986 := Bool.eq_false_iff.2 c6986
                 refine q_not hst 20 rfl rfl c6986 rfl ?_; intro a hst
                 refine q_not hst 20 rfl rfl c6986 rfl ?_; intro a hst
                 refine q_not hst 20 rfl rfl c6986 rfl ?_; intro a hst
                 refine q_not hst 20 rfl rfl c6986 rfl ?_; intro a hst
                 refine q_not hst 20 rfl rfl c6986 rfl ?_; intro a hst
                 refine q_not hst 20 rfl rfl c6986 rfl ?_; intro a hst
                 refine q_not hst 20 rfl rfl c6986 rfl ?_; intro a hst
                 refine q_not hst 20 rfl rfl c6986 rfl ?_; intro a hst
                 refine q_not hst 20 rfl rfl c6986 rfl ?_; intro a hst
                 refine q_not hst 20 rfl rfl c6986 rfl ?_; intro a hst
                 refine q_not hst 20 rfl rfl c6986 rfl ?_; intro a hst
                 refine q_t hst trivial rfl (fun _ hsh => x_pickF hst rfl c6986 rfl) ?_; intro a hst
                 exact hj _ ⟨false, H, hst.keep _ ⟨rfl, rfl, rfl, rfl, rfl, rfl, rfl, trivial⟩⟩
    · rw [if_neg c5832] at H
      replace c5832 := Bool.eq_false_iff.2 c5832
      refine wq_condF hst rfl c5832 ?_
      refine wq_exit ?_
      refine then_exit ?_
      refine then_exit ?_
      refine block_hit ?_
      refine then_normal ?_
      refine wq_seq ?_
      refine wq_region_lit (.inl rfl) ?_
      refine r_t hst trivial rfl (x_assign hst rfl) ?_; intro a hst
      refine wpL_nil ?_
      refine then_normal ?_
      refine wq_ret ?_
      obtain rfl := Option.some.inj H
      exact ret1 hst rfl rfl ⟨rfl, hsh.pick [0]⟩

set_option maxHeartbeats 4000000 in
set_option maxRecDepth 100000 in
theorem slices_partitionEqualOrdered_uint64.calls (k : Nat) (w : World) (GG : Nat → Prop) (va0 : Value) (a0 : (List Int)) (a1 : Int) (a2 : Int) (a3 : Int) (hsep : Sep GG w [Row (Kd.int .u64) 23 va0 a0]) (r : (Int × (List Int))) (h : slices_partitionEqualOrdered_uint64 k a0 a1 a2 a3 = some r) :
    Calls Try.prog 52 ([va0, .int .i64 a1, .int .i64 a2, .int .i64 a3] : List Value).toArray w fun e w' => e = .returned (.int .i64 r.1) ∧ SH GG w w' [Row (Kd.int .u64) 23 va0 r.2] := by
 have H := h
 clear h
 unfold slices_partitionEqualOrdered_uint64 at H
 refine calls_enter Try.func52 rfl rfl ?_
 intro a hst
 have hsh := SH.start hsep
 refine wq_seq ?_
 refine wq_region_lit (.inl rfl) ?_
 refine r_t hst trivial rfl (x_assign hst rfl) ?_; intro a hst
 refine wpL_nil ?_
 refine then_normal ?_
 refine wq_seq ?_
 have hw0_0 := hsh.row 0 rfl
 refine wq_region_t (.inl rfl) (.fin [(3, 0), (3, 1), (3, 2), (3, 3), (3, 4), (3, 5), (3, 6), (0, 7), (3, 8), (3, 9), (3, 10), (0, 11), (3, 12), (2, 13), (0, 14), (2, 15)]) (fun w' => SH GG w w' [Row (Kd.int .u64) 23 va0 a0]) (fun w' => SH GG w w' [Row (Kd.int .u64) 23 va0 a0]) (shut_sh _ _ _) (shut_sh _ _ _) (sub_sh [0] rfl) hsh.drew fo (by kernel_rfl) ?_
 refine t_fin ?_
 refine m_p hst trivial rfl (fun _ => x_move hst rfl) ?_; intro a hst
 refine m_p hst trivial rfl (fun _ => x_move hst rfl) ?_; intro a hst
 refine m_p hst trivial rfl (fun _ => x_move hst rfl) ?_; intro a hst
 refine m_p hst trivial rfl (fun _ => x_move hst rfl) ?_; intro a hst
 refine m_p hst trivial rfl (fun _ => x_move hst rfl) ?_; intro a hst
 refine m_p hst trivial rfl (fun _ => x_move hst rfl) ?_; intro a hst
 obtain ⟨x1, hx1, H⟩ := Option.bind_eq_some_iff.1 H
 refine m_p hst trivial rfl (fun _ => x_indexAddr hst Try.underlying35 el_23 rfl rfl hw0_0 hx1) ?_; intro a hst
 refine m_t hst trivial rfl (fun _ hsh => x_loadEF (j := 0) (cs := [.int .u64 x1]) hst sc_23 rfl (hsh.row 0 rfl) (Same.refl _ _) hx1 rfl (fun _ h => h) rfl) ?_; intro a hst
 refine m_p hst trivial rfl (fun _ => x_move hst rfl) ?_; intro a hst
 refine m_p hst trivial rfl (fun _ => x_move hst rfl) ?_; intro a hst
 obtain ⟨x2, hx2, H⟩ := Option.bind_eq_some_iff.1 H
 refine m_p hst trivial rfl (fun _ => x_indexAddr hst Try.underlying35 el_23 rfl rfl hw0_0 hx2) ?_; intro a hst
 refine m_t hst trivial rfl (fun _ hsh => x_loadEF (j := 0) (cs := [.int .u64 x2]) hst sc_23 rfl (hsh.row 0 rfl) (Same.refl _ _) hx2 rfl (fun _ h => h) rfl) ?_; intro a hst
 obtain ⟨x3, hx3, H⟩ := Option.bind_eq_some_iff.1 H
 refine m_p hst trivial rfl (fun _ => x_indexAddr hst Try.underlying35 el_23 rfl rfl hw0_0 hx3) ?_; intro a hst
 refine m_loud (.inr rfl) ?_
 intro w4 hsh
 obtain ⟨l5, hl5, H⟩ := Option.bind_eq_some_iff.1 H
 refine r_storeE (i := 0) (off := 0) (new := x1) (cs' := [.int .u64 x1]) hst hsh trivial sc_23 rfl rfl rfl hx3 rfl (Nat.le_of_ble_eq_true rfl) rfl (fun _ _ _ h => by rw [h]; rfl) (fun _ _ => rfl) ?_; intro a w6 hsh hst
 rw [← upd_some hl5] at hsh
 refine m_turn hsh ?_
 obtain ⟨x7, hx7, H⟩ := Option.bind_eq_some_iff.1 H
 refine m_t hst trivial rfl (fun _ hsh => x_indexAddr hst Try.underlying35 el_23 rfl rfl (hsh.row 0 rfl) hx7) ?_; intro a hst
 refine m_loud (.inr rfl) ?_
 intro w8 hsh
 obtain ⟨l9, hl9, H⟩ := Option.bind_eq_some_iff.1 H
 refine r_storeE (i := 0) (off := 0) (new := x2) (cs' := [.int .u64 x2]) hst hsh trivial sc_23 rfl rfl rfl hx7 rfl (Nat.le_of_ble_eq_true rfl) rfl (fun _ _ _ h => by rw [h]; rfl) (fun _ _ => rfl) ?_; intro a w10 hsh hst
 rw [← upd_some hl9] at hsh
 refine m_turn hsh ?_
 refine m_nil ?_
 intro w11 hsh
 refine qn_normal ?_
 refine then_normal ?_
 refine wq_seq ?_
 refine wq_region_lit (.inl rfl) ?_
 refine r_t hst trivial rfl (x_move hst rfl) ?_; intro a hst
 refine r_t hst trivial rfl (x_arI (r := w64 (a1 + 1)) hst rfl rfl rfl) ?_; intro a hst
 refine r_t hst trivial rfl (x_move hst rfl) ?_; intro a hst
 refine r_t hst trivial rfl (x_arI (r := w64 (a2 - 1)) hst rfl rfl rfl) ?_; intro a hst
 refine r_t hst trivial rfl (x_assign hst rfl) ?_; intro a hst
 refine r_t hst trivial rfl (x_assign hst rfl) ?_; intro a hst
 refine wpL_nil ?_
 refine then_normal ?_
 refine wq_seq ?_
 refine wq_block ?_
 refine wq_loop_fuel (fun k_580 a w' => ∃ (l_462 : (List Int)), ∃ (i_463 : Int), ∃ (i_464 : Int), slices_partitionEqualOrdered_uint64.l0 a1 k_580 l_462 i_463 i_464 = some r ∧ ST [] Try.f52.ntmps a [(0, va0), (1, .int .i64 a1), (8, .int .i64 0), (9, .int .i64 i_463), (10, .int .i64 i_464)] ∧ SH GG w w' [Row (Kd.int .u64) 23 va0 l_462]) k ?_ ?_
 · exact ⟨l9, (w64 (a1 + 1)), (w64 (a2 - 1)), H, hst.keep _ ⟨rfl, rfl, rfl, rfl, rfl, trivial⟩, hsh.pick [0]⟩
 · rintro k_580 a W_465 ⟨l_462, i_463, i_464, H, hst, hsh⟩
   cases k_580 with
   | zero => rw [slices_partitionEqualOrdered_uint64.l0] at H; cases H
   | succ k_580 =>
    rw [slices_partitionEqualOrdered_uint64.l0] at H
    refine wq_block ?_
    obtain ⟨J_609, hJ_609, H⟩ := Jn.elim H
    refine wq_cut (fun a w' => ∃ (i_607 : Int), J_609 i_607 = some r ∧ ST [] Try.f52.ntmps a [(0, va0), (1, .int .i64 a1), (8, .int .i64 0), (9, .int .i64 i_607), (10, .int .i64 i_464)] ∧ SH GG w w' [Row (Kd.int .u64) 23 va0 l_462]) ?_ ?_
    · rintro a W_608 ⟨i_607, H, hst, hsh⟩
      subst hJ_609
      dsimp only at H
      obtain ⟨J_638, hJ_638, H⟩ := Jn.elim H
      refine wq_cut (fun a w' => ∃ (i_636 : Int), J_638 i_636 = some r ∧ ST [] Try.f52.ntmps a [(0, va0), (1, .int .i64 a1), (8, .int .i64 0), (9, .int .i64 i_607), (10, .int .i64 i_636)] ∧ SH GG w w' [Row (Kd.int .u64) 23 va0 l_462]) ?_ ?_
      · rintro a W_637 ⟨i_636, H, hst, hsh⟩
        subst hJ_638
        dsimp only at H
        refine wq_seq ?_
        refine wq_seq ?_
        refine wq_region_lit (.inl rfl) ?_
        refine r_t hst trivial rfl (x_move hst rfl) ?_; intro a hst
        refine r_t hst trivial rfl (x_move hst rfl) ?_; intro a hst
        refine r_t hst trivial rfl (x_cmpI (b := decide (i_636 < i_607)) hst rfl rfl rfl) ?_; intro a hst
        refine wpL_nil ?_
        refine then_normal ?_
        by_cases c1530 : (decide (i_636 < i_607)) = true
        · rw [if_pos c1530] at H
          refine wq_condT hst rfl c1530 ?_
          refine wq_exit ?_
          refine then_exit ?_
          refine block_miss rfl ?_
          refine then_exit ?_
          refine block_hit ?_
          refine then_normal ?_
          refine wq_seq ?_
          refine wq_region_lit (.inl rfl) ?_
          refine r_t hst trivial rfl (x_move hst rfl) ?_; intro a hst
          refine r_t hst trivial rfl (x_assign hst rfl) ?_; intro a hst
          refine wpL_nil ?_
          refine then_normal ?_
          refine wq_ret ?_
          obtain rfl := Option.some.inj H
          exact ret1 hst rfl rfl ⟨rfl, hsh.pick [0]⟩
        · rw [if_neg c1530] at H
          replace c1530 := Bool.eq_false_iff.2 c1530
          refine wq_condF hst rfl c1530 ?_
          refine wq_skip ?_
          refine then_normal ?_
          refine wq_seq ?_
          have hw1530_0 := hsh.row 0 rfl
          refine wq_region_t (.inl rfl) (.fin [(3, 0), (3, 1), (3, 2), (3, 3), (3, 4), (3, 5), (3, 6), (0, 7), (3, 8), (3, 9), (3, 10), (0, 11), (3, 12), (2, 13), (0, 14), (2, 15)]) (fun w' => SH GG w w' [Row (Kd.int .u64) 23 va0 l_462]) (fun w' => SH GG w w' [Row (Kd.int .u64) 23 va0 l_462]) (shut_sh _ _ _) (shut_sh _ _ _) (sub_sh [0] rfl) hsh.drew fo (by kernel_rfl) ?_
          refine t_fin ?_
          refine m_p hst trivial rfl (fun _ => x_move hst rfl) ?_; intro a hst
          refine m_p hst trivial rfl (fun _ => x_move hst rfl) ?_; intro a hst
          refine m_p hst trivial rfl (fun _ => x_move hst rfl) ?_; intro a hst
          refine m_p hst trivial rfl (fun _ => x_move hst rfl) ?_; intro a hst
          refine m_p hst trivial rfl (fun _ => x_move hst rfl) ?_; intro a hst
          refine m_p hst trivial rfl (fun _ => x_move hst rfl) ?_; intro a hst
          obtain ⟨x1531, hx1531, H⟩ := Option.bind_eq_some_iff.1 H
          refine m_p hst trivial rfl (fun _ => x_indexAddr hst Try.underlying35 el_23 rfl rfl hw1530_0 hx1531) ?_; intro a hst
          refine m_t hst trivial rfl (fun _ hsh => x_loadEF (j := 0) (cs := [.int .u64 x1531]) hst sc_23 rfl (hsh.row 0 rfl) (Same.refl _ _) hx1531 rfl (fun _ h => h) rfl) ?_; intro a hst
          refine m_p hst trivial rfl (fun _ => x_move hst rfl) ?_; intro a hst
          refine m_p hst trivial rfl (fun _ => x_move hst rfl) ?_; intro a hst
          obtain ⟨x1532, hx1532, H⟩ := Option.bind_eq_some_iff.1 H
          refine m_p hst trivial rfl (fun _ => x_indexAddr hst Try.underlying35 el_23 rfl rfl hw1530_0 hx1532) ?_; intro a hst
          refine m_t hst trivial rfl (fun _ hsh => x_loadEF (j := 0) (cs := [.int .u64 x1532]) hst sc_23 rfl (hsh.row 0 rfl) (Same.refl _ _) hx1532 rfl (fun _ h => h) rfl) ?_; intro a hst
          obtain ⟨x1533, hx1533, H⟩ := Option.bind_eq_some_iff.1 H
          refine m_p hst trivial rfl (fun _ => x_indexAddr hst Try.underlying35 el_23 rfl rfl hw1530_0 hx1533) ?_; intro a hst
          refine m_loud (.inr rfl) ?_
          intro w1534 hsh
          obtain ⟨l1535, hl1535, H⟩ := Option.bind_eq_some_iff.1 H
          refine r_storeE (i := 0) (off := 0) (new := x1531) (cs' := [.int .u64 x1531]) hst hsh trivial sc_23 rfl rfl rfl hx1533 rfl (Nat.le_of_ble_eq_true rfl) rfl (fun _ _ _ h => by rw [h]; rfl) (fun _ _ => rfl) ?_; intro a w1536 hsh hst
          rw [← upd_some hl1535] at hsh
          refine m_turn hsh ?_
          obtain ⟨x1537, hx1537, H⟩ := Option.bind_eq_some_iff.1 H
          refine m_t hst trivial rfl (fun _ hsh => x_indexAddr hst Try.underlying35 el_23 rfl rfl (hsh.row 0 rfl) hx1537) ?_; intro a hst
          refine m_loud (.inr rfl) ?_
          intro w1538 hsh
          obtain ⟨l1539, hl1539, H⟩ := Option.bind_eq_some_iff.1 H
          refine r_storeE (i := 0) (off := 0) (new := x1532) (cs' := [.int .u64 x1532]) hst hsh trivial sc_23 rfl rfl rfl hx1537 rfl (Nat.le_of_ble_eq_true rfl) rfl (fun _ _ _ h => by rw [h]; rfl) (fun _ _ => rfl) ?_; intro a w1540 hsh hst
          rw [← upd_some hl1539] at hsh
          refine m_turn hsh ?_
          refine m_nil ?_
          intro w1541 hsh
          refine qn_normal ?_
          refine then_normal ?_
          refine wq_seq ?_
          refine wq_region_lit (.inl rfl) ?_
          refine r_t hst trivial rfl (x_move hst rfl) ?_; intro a hst
          refine r_t hst trivial rfl (x_arI (r := w64 (i_607 + 1)) hst rfl rfl rfl) ?_; intro a hst
          refine r_t hst trivial rfl (x_assign hst rfl) ?_; intro a hst
          refine wpL_nil ?_
          refine then_normal ?_
          refine wq_region_lit (.inl rfl) ?_
          refine r_t hst trivial rfl (x_move hst rfl) ?_; intro a hst
          refine r_t hst trivial rfl (x_arI (r := w64 (i_636 - 1)) hst rfl rfl rfl) ?_; intro a hst
          refine r_t hst trivial rfl (x_assign hst rfl) ?_; intro a hst
          refine wpL_nil ?_
          refine block_normal ?_
          refine then_normal ?_
          exact ⟨k_580, Nat.lt_succ_self _, l1539, (w64 (i_607 + 1)), (w64 (i_636 - 1)), H, hst.keep _ ⟨rfl, rfl, rfl, rfl, rfl, trivial⟩, hsh.pick [0]⟩
      · refine wq_block ?_
        refine wq_loop_fuel (fun k_658 a w' => ∃ (i_648 : Int), slices_partitionEqualOrdered_uint64.l1 a1 l_462 i_607 J_638 k_658 i_648 = some r ∧ ST [] Try.f52.ntmps a [(0, va0), (1, .int .i64 a1), (8, .int .i64 0), (9, .int .i64 i_607), (10, .int .i64 i_648)] ∧ SH GG w w' [Row (Kd.int .u64) 23 va0 l_462]) k_580 ?_ ?_
        · exact ⟨i_464, H, hst.keep _ ⟨rfl, rfl, rfl, rfl, rfl, trivial⟩, hsh.pick [0]⟩
        · rintro k_658 a W_649 ⟨i_648, H, hst, hsh⟩
          cases k_658 with
          | zero => rw [slices_partitionEqualOrdered_uint64.l1] at H; cases H
          | succ k_658 =>
           rw [slices_partitionEqualOrdered_uint64.l1] at H
           refine wq_seq ?_
           refine wq_seq ?_
           refine wq_region_q (.inl rfl) (fun w' => SH GG w w' [Row (Kd.int .u64) 23 va0 l_462]) (shut_sh _ _ _) hsh.drew fo (by kernel_rfl) ?_
           refine q_t hst trivial rfl (fun _ hsh => x_move hst rfl) ?_; intro a hst
           refine q_t hst trivial rfl (fun _ hsh => x_move hst rfl) ?_; intro a hst
           refine q_t hst trivial rfl (fun _ hsh => x_cmpI (b := decide (i_607 ≤ i_648)) hst rfl rfl rfl) ?_; intro a hst
           refine q_t hst trivial rfl (fun _ hsh => x_move hst rfl) ?_; intro a hst
           obtain ⟨J_663, hJ_663, H⟩ := Jn.elim H
           refine q_join 14 (fun a => ∃ (b_662 : Bool), J_663 b_662 = some r ∧ ST [] Try.f52.ntmps a [(0, va0), (1, .int .i64 a1), (8, .int .i64 0), (9, .int .i64 i_607), (10, .int .i64 i_648), (59, .bool b_662)]) ?_ ?_
           · rintro a ⟨b_662, H, hst⟩
             subst hJ_663
             dsimp only at H
             refine q_nil ?_
             intro w1602 hsh
             refine then_normal ?_
             by_cases c1603 : b_662 = true
             · rw [if_pos c1603] at H
               refine wq_condT hst rfl c1603 ?_
               refine wq_skip ?_
               refine then_normal ?_
               refine wq_block ?_
               refine wq_region_lit (.inl rfl) ?_
               refine r_t hst trivial rfl (x_move hst rfl) ?_; intro a hst
               refine r_t hst trivial rfl (x_arI (r := w64 (i_648 - 1)) hst rfl rfl rfl) ?_; intro a hst
               refine r_t hst trivial rfl (x_assign hst rfl) ?_; intro a hst
               refine wpL_nil ?_
               refine block_normal ?_
               refine then_normal ?_
               exact ⟨k_658, Nat.lt_succ_self _, (w64 (i_648 - 1)), H, hst.keep _ ⟨rfl, rfl, rfl, rfl, rfl, trivial⟩, hsh.pick [0]⟩
             · rw [if_neg c1603] at H
               replace c1603 := Bool.eq_false_iff.2 c1603
               refine wq_condF hst rfl c1603 ?_
               refine wq_exit ?_
               refine then_exit ?_
               refine then_exit ?_
               refine block_hit ?_
               refine then_normal ?_
               exact ⟨i_648, H, hst.keep _ ⟨rfl, rfl, rfl, rfl, rfl, trivial⟩, hsh.pick [0]⟩
           · intro hj
             by_cases c1597 : (decide (i_607 ≤ i_648)) = true
             · rw [if_pos c1597] at H
               refine q_t hst (wt_of 49 rfl rfl c1597) rfl (fun _ hsh => x_move hst rfl) ?_; intro a hst
               refine q_t hst (wt_of 49 rfl rfl c1597) rfl (fun _ hsh => x_move hst rfl) ?_; intro a hst
               obtain ⟨x1604, hx1604, H⟩ := Option.bind_eq_some_iff.1 H
               refine q_t hst (wt_of 49 rfl rfl c1597) rfl (fun _ hsh => x_indexAddr hst Try.underlying35 el_23 rfl rfl (hsh.row 0 rfl) hx1604) ?_; intro a hst
               refine q_t hst (wt_of 49 rfl rfl c1597) rfl (fun _ hsh => x_loadEF (j := 0) (cs := [.int .u64 x1604]) hst sc_23 rfl (hsh.row 0 rfl) (Same.refl _ _) hx1604 rfl (fun _ h => h) rfl) ?_; intro a hst
               refine q_t hst (wt_of 49 rfl rfl c1597) rfl (fun _ hsh => x_move hst rfl) ?_; intro a hst
               refine q_t hst (wt_of 49 rfl rfl c1597) rfl (fun _ hsh => x_move hst rfl) ?_; intro a hst
               obtain ⟨x1605, hx1605, H⟩ := Option.bind_eq_some_iff.1 H
               refine q_t hst (wt_of 49 rfl rfl c1597) rfl (fun _ hsh => x_indexAddr hst Try.underlying35 el_23 rfl rfl (hsh.row 0 rfl) hx1605) ?_; intro a hst
               refine q_t hst (wt_of 49 rfl rfl c1597) rfl (fun _ hsh => x_loadEF (j := 0) (cs := [.int .u64 x1605]) hst sc_23 rfl (hsh.row 0 rfl) (Same.refl _ _) hx1605 rfl (fun _ h => h) rfl) ?_; intro a hst
               obtain ⟨r1606, hr1606, H⟩ := Option.bind_eq_some_iff.1 H
               refine q_call hst (wt_of 49 rfl rfl c1597) rfl fn_51 rfl (fun w9 hsh => cmp_Less_uint64.calls _ x1604 x1605 r1606 hr1606) ?_; intro a hst
               refine q_t hst trivial rfl (fun _ hsh => x_pickT hst rfl c1597 rfl) ?_; intro a hst
               exact hj _ ⟨r1606, H, hst.keep _ ⟨rfl, rfl, rfl, rfl, rfl, rfl, trivial⟩⟩
             · rw [if_neg c1597] at H
               replace c1597 := Bool.eq_false_iff.2 c1597
               refine q_not hst 49 rfl rfl c1597 rfl ?_; intro a hst
               refine q_not hst 49 rfl rfl c1597 rfl ?_; intro a hst
               refine q_not hst 49 rfl rfl c1597 rfl ?_; intro a hst
               refine q_not hst 49 rfl rfl c1597 rfl ?_; intro a hst
               refine q_not hst 49 rfl rfl c1597 rfl ?_; intro a hst
               refine q_not hst 49 rfl rfl c1597 rfl ?_; intro a hst
               refine q_not hst 49 rfl rfl c1597 rfl ?_; intro a hst
               refine q_not hst 49 rfl rfl c1597 rfl ?_; intro a hst
               refine q_not hst 49 rfl rfl c1597 rfl ?_; intro a hst
               refine q_t hst trivial rfl (fun _ hsh => x_pickF hst rfl c1597 rfl) ?_; intro a hst
               exact hj _ ⟨false, H, hst.keep _ ⟨rfl, rfl, rfl, rfl, rfl, rfl, trivial⟩⟩
    · refine wq_block ?_
      refine wq_loop_fuel (fun k_684 a w' => ∃ (i_674 : Int), slices_partitionEqualOrdered_uint64.l2 a1 l_462 i_464 J_609 k_684 i_674 = some r ∧ ST [] Try.f52.ntmps a [(0, va0), (1, .int .i64 a1), (8, .int .i64 0), (9, .int .i64 i_674), (10, .int .i64 i_464)] ∧ SH GG w w' [Row (Kd.int .u64) 23 va0 l_462]) k_580 ?_ ?_
      · exact ⟨i_463, H, hst.keep _ ⟨rfl, rfl, rfl, rfl, rfl, trivial⟩, hsh.pick [0]⟩
      · rintro k_684 a W_675 ⟨i_674, H, hst, hsh⟩
        cases k_684 with
        | zero => rw [slices_partitionEqualOrdered_uint64.l2] at H; cases H
        | succ k_684 =>
         rw [slices_partitionEqualOrdered_uint64.l2] at H
         refine wq_seq ?_
         refine wq_seq ?_
         refine wq_region_q (.inl rfl) (fun w' => SH GG w w' [Row (Kd.int .u64) 23 va0 l_462]) (shut_sh _ _ _) hsh.drew fo (by kernel_rfl) ?_
         refine q_t hst trivial rfl (fun _ hsh => x_move hst rfl) ?_; intro a hst
         refine q_t hst trivial rfl (fun _ hsh => x_move hst rfl) ?_; intro a hst
         refine q_t hst trivial rfl (fun _ hsh => x_cmpI (b := decide (i_674 ≤ i_464)) hst rfl rfl rfl) ?_; intro a hst
         refine q_t hst trivial rfl (fun _ hsh => x_move hst rfl) ?_; intro a hst
         obtain ⟨J_689, hJ_689, H⟩ := Jn.elim H
         refine q_join 15 (fun a => ∃ (b_688 : Bool), J_689 b_688 = some r ∧ ST [] Try.f52.ntmps a [(0, va0), (1, .int .i64 a1), (8, .int .i64 0), (9, .int .i64 i_674), (10, .int .i64 i_464), (43, .bool b_688)]) ?_ ?_
         · rintro a ⟨b_688, H, hst⟩
           subst hJ_689
           dsimp only at H
           refine q_nil ?_
           intro w1668 hsh
           refine then_normal ?_
           by_cases c1669 : b_688 = true
           · rw [if_pos c1669] at H
             refine wq_condT hst rfl c1669 ?_
             refine wq_skip ?_
             refine then_normal ?_
             refine wq_block ?_
             refine wq_region_lit (.inl rfl) ?_
             refine r_t hst trivial rfl (x_move hst rfl) ?_; intro a hst
             refine r_t hst trivial rfl (x_arI (r := w64 (i_674 + 1)) hst rfl rfl rfl) ?_; intro a hst
             refine r_t hst trivial rfl (x_assign hst rfl) ?_; intro a hst
             refine wpL_nil ?_
             refine block_normal ?_
             refine then_normal ?_
             exact ⟨k_684, Nat.lt_succ_self _, (w64 (i_674 + 1)), H, hst.keep _ ⟨rfl, rfl, rfl, rfl, rfl, trivial⟩, hsh.pick [0]⟩
           · rw [if_neg c1669] at H
             replace c1669 := Bool.eq_false_iff.2 c1669
             refine wq_condF hst rfl c1669 ?_
             refine wq_exit ?_
             refine then_exit ?_
             refine then_exit ?_
             refine block_hit ?_
             refine then_normal ?_
             exact ⟨i_674, H, hst.keep _ ⟨rfl, rfl, rfl, rfl, rfl, trivial⟩, hsh.pick [0]⟩
         · intro hj
           by_cases c1663 : (decide (i_674 ≤ i_464)) = true
           · rw [if_pos c1663] at H
             refine q_t hst (wt_of 32 rfl rfl c1663) rfl (fun _ hsh => x_move hst rfl) ?_; intro a hst
             refine q_t hst (wt_of 32 rfl rfl c1663) rfl (fun _ hsh => x_move hst rfl) ?_; intro a hst
             obtain ⟨x1670, hx1670, H⟩ := Option.bind_eq_some_iff.1 H
             refine q_t hst (wt_of 32 rfl rfl c1663) rfl (fun _ hsh => x_indexAddr hst Try.underlying35 el_23 rfl rfl (hsh.row 0 rfl) hx1670) ?_; intro a hst
             refine q_t hst (wt_of 32 rfl rfl c1663) rfl (fun _ hsh => x_loadEF (j := 0) (cs := [.int .u64 x1670]) hst sc_23 rfl (hsh.row 0 rfl) (Same.refl _ _) hx1670 rfl (fun _ h => h) rfl) ?_; intro a hst
             refine q_t hst (wt_of 32 rfl rfl c1663) rfl (fun _ hsh => x_move hst rfl) ?_; intro a hst
             refine q_t hst (wt_of 32 rfl rfl c1663) rfl (fun _ hsh => x_move hst rfl) ?_; intro a hst
             obtain ⟨x1671, hx1671, H⟩ := Option.bind_eq_some_iff.1 H
             refine q_t hst (wt_of 32 rfl rfl c1663) rfl (fun _ hsh => x_indexAddr hst Try.underlying35 el_23 rfl rfl (hsh.row 0 rfl) hx1671) ?_; intro a hst
             refine q_t hst (wt_of 32 rfl rfl c1663) rfl (fun _ hsh => x_loadEF (j := 0) (cs := [.int .u64 x1671]) hst sc_23 rfl (hsh.row 0 rfl) (Same.refl _ _) hx1671 rfl (fun _ h => h) rfl) ?_; intro a hst
             obtain ⟨r1672, hr1672, H⟩ := Option.bind_eq_some_iff.1 H
             refine q_call hst (wt_of 32 rfl rfl c1663) rfl fn_51 rfl (fun w9 hsh => cmp_Less_uint64.calls _ x1670 x1671 r1672 hr1672) ?_; intro a hst
             refine q_t hst (wt_of 32 rfl rfl c1663) rfl (fun _ hsh => x_notB hst rfl) ?_; intro a hst
             refine q_t hst trivial rfl (fun _ hsh => x_pickT hst rfl c1663 rfl) ?_; intro a hst
             exact hj _ ⟨(!r1672), H, hst.keep _ ⟨rfl, rfl, rfl, rfl, rfl, rfl, trivial⟩⟩
           · rw [if_neg c1663] at H
             replace c1663 := Bool.eq_false_iff.2 c1663
             refine q_not hst 32 rfl rfl c1663 rfl ?_; intro a hst
             refine q_not hst 32 rfl rfl c1663 rfl ?_; intro a hst
             refine q_not hst 32 rfl rfl c1663 rfl ?_; intro a hst
             refine q_not hst 32 rfl rfl c1663 rfl ?_; intro a hst
             refine q_not hst 32 rfl rfl c1663 rfl ?_; intro a hst
             refine q_not hst 32 rfl rfl c1663 rfl ?_; intro a hst
             refine q_not hst 32 rfl rfl c1663 rfl ?_; intro a hst
             refine q_not hst 32 rfl rfl c1663 rfl ?_; intro a hst
             refine q_not hst 32 rfl rfl c1663 rfl ?_; intro a hst
             refine q_not hst 32 rfl rfl c1663 rfl ?_; intro a hst
             refine q_t hst trivial rfl (fun _ hsh => x_pickF hst rfl c1663 rfl) ?_; intro a hst
             exact hj _ ⟨false, H, hst.keep _ ⟨rfl, rfl, rfl, rfl, rfl, rfl, trivial⟩⟩

set_option maxHeartbeats 4000000 in
set_option maxRecDepth 100000 in
theorem slices_partitionOrdered_uint64.calls (k : Nat) (w : World) (GG : Nat → Prop) (va0 : Value) (a0 : (List Int)) (a1 : Int) (a2 : Int) (a3 : Int) (hsep : Sep GG w [Row (Kd.int .u64) 23 va0 a0]) (r : (Int × Bool × (List Int))) (h : slices_partitionOrdered_uint64 k a0 a1 a2 a3 = some r) :
    Calls Try.prog 53 ([va0, .int .i64 a1, .int .i64 a2, .int .i64 a3] : List Value).toArray w fun e w' => e = .returned (.tuple #[.int .i64 r.1, .bool r.2.1]) ∧ SH GG w w' [Row (Kd.int .u64) 23 va0 r.2.2] := by
 have H := h
 clear h
 unfold slices_partitionOrdered_uint64 at H
 refine calls_enter Try.func53 rfl rfl ?_
 intro a hst
 have hsh := SH.start hsep
 refine wq_seq ?_
 refine wq_region_lit (.inl rfl) ?_
 refine r_t hst trivial rfl (x_assign hst rfl) ?_; intro a hst
 refine r_t hst trivial rfl (x_assign hst rfl) ?_; intro a hst
 refine wpL_nil ?_
 refine then_normal ?_
 refine wq_seq ?_
 have hw0_0 := hsh.row 0 rfl
 refine wq_region_t (.inl rfl) (.fin [(3, 0), (3, 1), (3, 2), (3, 3), (3, 4), (3, 5), (3, 6), (0, 7), (3, 8), (3, 9), (3, 10), (0, 11), (3, 12), (2, 13), (0, 14), (2, 15)]) (fun w' => SH GG w w' [Row (Kd.int .u64) 23 va0 a0]) (fun w' => SH GG w w' [Row (Kd.int .u64) 23 va0 a0]) (shut_sh _ _ _) (shut_sh _ _ _) (sub_sh [0] rfl) hsh.drew fo (by kernel_rfl) ?_
 refine t_fin ?_
 refine m_p hst trivial rfl (fun _ => x_move hst rfl) ?_; intro a hst
 refine m_p hst trivial rfl (fun _ => x_move hst rfl) ?_; intro a hst
 refine m_p hst trivial rfl (fun _ => x_move hst rfl) ?_; intro a hst
 refine m_p hst trivial rfl (fun _ => x_move hst rfl) ?_; intro a hst
 refine m_p hst trivial rfl (fun _ => x_move hst rfl) ?_; intro a hst
 refine m_p hst trivial rfl (fun _ => x_move hst rfl) ?_; intro a hst
 obtain ⟨x1, hx1, H⟩ := Option.bind_eq_some_iff.1 H
 refine m_p hst trivial rfl (fun _ => x_indexAddr hst Try.underlying35 el_23 rfl rfl hw0_0 hx1) ?_; intro a hst
 refine m_t hst trivial rfl (fun _ hsh => x_loadEF (j := 0) (cs := [.int .u64 x1]) hst sc_23 rfl (hsh.row 0 rfl) (Same.refl _ _) hx1 rfl (fun _ h => h) rfl) ?_; intro a hst
 refine m_p hst trivial rfl (fun _ => x_move hst rfl) ?_; intro a hst
 refine m_p hst trivial rfl (fun _ => x_move hst rfl) ?_; intro a hst
 obtain ⟨x2, hx2, H⟩ := Option.bind_eq_some_iff.1 H
 refine m_p hst trivial rfl (fun _ => x_indexAddr hst Try.underlying35 el_23 rfl rfl hw0_0 hx2) ?_; intro a hst
 refine m_t hst trivial rfl (fun _ hsh => x_loadEF (j := 0) (cs := [.int .u64 x2]) hst sc_23 rfl (hsh.row 0 rfl) (Same.refl _ _) hx2 rfl (fun _ h => h) rfl) ?_; intro a hst
 obtain ⟨x3, hx3, H⟩ := Option.bind_eq_some_iff.1 H
 refine m_p hst trivial rfl (fun _ => x_indexAddr hst Try.underlying35 el_23 rfl rfl hw0_0 hx3) ?_; intro a hst
 refine m_loud (.inr rfl) ?_
 intro w4 hsh
 obtain ⟨l5, hl5, H⟩ := Option.bind_eq_some_iff.1 H
 refine r_storeE (i := 0) (off := 0) (new := x1) (cs' := [.int .u64 x1]) hst hsh trivial sc_23 rfl rfl rfl hx3 rfl (Nat.le_of_ble_eq_true rfl) rfl (fun _ _ _ h => by rw [h]; rfl) (fun _ _ => rfl) ?_; intro a w6 hsh hst
 rw [← upd_some hl5] at hsh
 refine m_turn hsh ?_
 obtain ⟨x7, hx7, H⟩ := Option.bind_eq_some_iff.1 H
 refine m_t hst trivial rfl (fun _ hsh => x_indexAddr hst Try.underlying35 el_23 rfl rfl (hsh.row 0 rfl) hx7) ?_; intro a hst
 refine m_loud (.inr rfl) ?_
 intro w8 hsh
 obtain ⟨l9, hl9, H⟩ := Option.bind_eq_some_iff.1 H
 refine r_storeE (i := 0) (off := 0) (new := x2) (cs' := [.int .u64 x2]) hst hsh trivial sc_23 rfl rfl rfl hx7 rfl (Nat.le_of_ble_eq_true rfl) rfl (fun _ _ _ h => by rw [h]; rfl) (fun _ _ => rfl) ?_; intro a w10 hsh hst
 rw [← upd_some hl9] at hsh
 refine m_turn hsh ?_
 refine m_nil ?_
 intro w11 hsh
 refine qn_normal ?_
 refine then_normal ?_
 refine wq_seq ?_
 refine wq_region_lit (.inl rfl) ?_
 refine r_t hst trivial rfl (x_move hst rfl) ?_; intro a hst
 refine r_t hst trivial rfl (x_arI (r := w64 (a1 + 1)) hst rfl rfl rfl) ?_; intro a hst
 refine r_t hst trivial rfl (x_move hst rfl) ?_; intro a hst
 refine r_t hst trivial rfl (x_arI (r := w64 (a2 - 1)) hst rfl rfl rfl) ?_; intro a hst
 refine r_t hst trivial rfl (x_assign hst rfl) ?_; intro a hst
 refine r_t hst trivial rfl (x_assign hst rfl) ?_; intro a hst
 refine wpL_nil ?_
 refine then_normal ?_
 refine wq_seq ?_
 refine wq_block ?_
 refine wq_loop_fuel (fun k_32 a w' => ∃ (i_20 : Int), ∃ (i_21 : Int), slices_partitionOrdered_uint64.l0 a1 l9 k_32 i_20 i_21 = some r ∧ ST [] Try.f53.ntmps a [(0, va0), (1, .int .i64 a1), (8, .int .i64 0), (9, .bool false), (10, .int .i64 i_20), (11, .int .i64 i_21)] ∧ SH GG w w' [Row (Kd.int .u64) 23 va0 l9]) k ?_ ?_
 · exact ⟨(w64 (a1 + 1)), (w64 (a2 - 1)), H, hst.keep _ ⟨rfl, rfl, rfl, rfl, rfl, rfl, trivial⟩, hsh.pick [0]⟩
 · rintro k_32 a W_22 ⟨i_20, i_21, H, hst, hsh⟩
   cases k_32 with
   | zero => rw [slices_partitionOrdered_uint64.l0] at H; cases H
   | succ k_32 =>
    rw [slices_partitionOrdered_uint64.l0] at H
    refine wq_seq ?_
    refine wq_seq ?_
    refine wq_region_q (.inl rfl) (fun w' => SH GG w w' [Row (Kd.int .u64) 23 va0 l9]) (shut_sh _ _ _) hsh.drew fo (by kernel_rfl) ?_
    refine q_t hst trivial rfl (fun _ hsh => x_move hst rfl) ?_; intro a hst
    refine q_t hst trivial rfl (fun _ hsh => x_move hst rfl) ?_; intro a hst
    refine q_t hst trivial rfl (fun _ hsh => x_cmpI (b := decide (i_20 ≤ i_21)) hst rfl rfl rfl) ?_; intro a hst
    refine q_t hst trivial rfl (fun _ hsh => x_move hst rfl) ?_; intro a hst
    obtain ⟨J_37, hJ_37, H⟩ := Jn.elim H
    refine q_join 14 (fun a => ∃ (b_36 : Bool), J_37 b_36 = some r ∧ ST [] Try.f53.ntmps a [(0, va0), (1, .int .i64 a1), (8, .int .i64 0), (9, .bool false), (10, .int .i64 i_20), (11, .int .i64 i_21), (43, .bool b_36)]) ?_ ?_
    · rintro a ⟨b_36, H, hst⟩
      subst hJ_37
      dsimp only at H
      refine q_nil ?_
      intro w94 hsh
      refine then_normal ?_
      by_cases c95 : b_36 = true
      · rw [if_pos c95] at H
        refine wq_condT hst rfl c95 ?_
        refine wq_skip ?_
        refine then_normal ?_
        refine wq_block ?_
        refine wq_region_lit (.inl rfl) ?_
        refine r_t hst trivial rfl (x_move hst rfl) ?_; intro a hst
        refine r_t hst trivial rfl (x_arI (r := w64 (i_20 + 1)) hst rfl rfl rfl) ?_; intro a hst
        refine r_t hst trivial rfl (x_assign hst rfl) ?_; intro a hst
        refine wpL_nil ?_
        refine block_normal ?_
        refine then_normal ?_
        exact ⟨k_32, Nat.lt_succ_self _, (w64 (i_20 + 1)), i_21, H, hst.keep _ ⟨rfl, rfl, rfl, rfl, rfl, rfl, trivial⟩, hsh.pick [0]⟩
      · rw [if_neg c95] at H
        replace c95 := Bool.eq_false_iff.2 c95
        refine wq_condF hst rfl c95 ?_
        refine wq_exit ?_
        refine then_exit ?_
        refine then_exit ?_
        refine block_hit ?_
        refine then_normal ?_
        obtain ⟨J_67, hJ_67, H⟩ := Jn.elim H
        refine wq_cut (fun a w' => ∃ (i_65 : Int), J_67 i_65 = some r ∧ ST [] Try.f53.ntmps a [(0, va0), (1, .int .i64 a1), (8, .int .i64 0), (9, .bool false), (10, .int .i64 i_20), (11, .int .i64 i_65)] ∧ SH GG w w' [Row (Kd.int .u64) 23 va0 l9]) ?_ ?_
        · rintro a W_66 ⟨i_65, H, hst, hsh⟩
          subst hJ_67
          dsimp only at H
          refine wq_seq ?_
          refine wq_seq ?_
          refine wq_region_lit (.inl rfl) ?_
          refine r_t hst trivial rfl (x_move hst rfl) ?_; intro a hst
          refine r_t hst trivial rfl (x_move hst rfl) ?_; intro a hst
          refine r_t hst trivial rfl (x_cmpI (b := decide (i_65 < i_20)) hst rfl rfl rfl) ?_; intro a hst
          refine wpL_nil ?_
          refine then_normal ?_
          by_cases c174 : (decide (i_65 < i_20)) = true
          · rw [if_pos c174] at H
            refine wq_condT hst rfl c174 ?_
            refine wq_seq ?_
            have hw174_0 := hsh.row 0 rfl
            refine wq_region_t (.inl rfl) (.fin [(3, 0), (3, 1), (3, 2), (3, 3), (3, 4), (3, 5), (3, 6), (0, 7), (3, 8), (3, 9), (3, 10), (0, 11), (3, 12), (2, 13), (0, 14), (2, 15)]) (fun w' => SH GG w w' [Row (Kd.int .u64) 23 va0 l9]) (fun w' => SH GG w w' [Row (Kd.int .u64) 23 va0 l9]) (shut_sh _ _ _) (shut_sh _ _ _) (sub_sh [0] rfl) hsh.drew fo (by kernel_rfl) ?_
            refine t_fin ?_
            refine m_p hst trivial rfl (fun _ => x_move hst rfl) ?_; intro a hst
            refine m_p hst trivial rfl (fun _ => x_move hst rfl) ?_; intro a hst
            refine m_p hst trivial rfl (fun _ => x_move hst rfl) ?_; intro a hst
            refine m_p hst trivial rfl (fun _ => x_move hst rfl) ?_; intro a hst
            refine m_p hst trivial rfl (fun _ => x_move hst rfl) ?_; intro a hst
            refine m_p hst trivial rfl (fun _ => x_move hst rfl) ?_; intro a hst
            obtain ⟨x175, hx175, H⟩ := Option.bind_eq_some_iff.1 H
            refine m_p hst trivial rfl (fun _ => x_indexAddr hst Try.underlying35 el_23 rfl rfl hw174_0 hx175) ?_; intro a hst
            refine m_t hst trivial rfl (fun _ hsh => x_loadEF (j := 0) (cs := [.int .u64 x175]) hst sc_23 rfl (hsh.row 0 rfl) (Same.refl _ _) hx175 rfl (fun _ h => h) rfl) ?_; intro a hst
            refine m_p hst trivial rfl (fun _ => x_move hst rfl) ?_; intro a hst
            refine m_p hst trivial rfl (fun _ => x_move hst rfl) ?_; intro a hst
            obtain ⟨x176, hx176, H⟩ := Option.bind_eq_some_iff.1 H
            refine m_p hst trivial rfl (fun _ => x_indexAddr hst Try.underlying35 el_23 rfl rfl hw174_0 hx176) ?_; intro a hst
            refine m_t hst trivial rfl (fun _ hsh => x_loadEF (j := 0) (cs := [.int .u64 x176]) hst sc_23 rfl (hsh.row 0 rfl) (Same.refl _ _) hx176 rfl (fun _ h => h) rfl) ?_; intro a hst
            obtain ⟨x177, hx177, H⟩ := Option.bind_eq_some_iff.1 H
            refine m_p hst trivial rfl (fun _ => x_indexAddr hst Try.underlying35 el_23 rfl rfl hw174_0 hx177) ?_; intro a hst
            refine m_loud (.inr rfl) ?_
            intro w178 hsh
            obtain ⟨l179, hl179, H⟩ := Option.bind_eq_some_iff.1 H
            refine r_storeE (i := 0) (off := 0) (new := x175) (cs' := [.int .u64 x175]) hst hsh trivial sc_23 rfl rfl rfl hx177 rfl (Nat.le_of_ble_eq_true rfl) rfl (fun _ _ _ h => by rw [h]; rfl) (fun _ _ => rfl) ?_; intro a w180 hsh hst
            rw [← upd_some hl179] at hsh
            refine m_turn hsh ?_
            obtain ⟨x181, hx181, H⟩ := Option.bind_eq_some_iff.1 H
            refine m_t hst trivial rfl (fun _ hsh => x_indexAddr hst Try.underlying35 el_23 rfl rfl (hsh.row 0 rfl) hx181) ?_; intro a hst
            refine m_loud (.inr rfl) ?_
            intro w182 hsh
            obtain ⟨l183, hl183, H⟩ := Option.bind_eq_some_iff.1 H
            refine r_storeE (i := 0) (off := 0) (new := x176) (cs' := [.int .u64 x176]) hst hsh trivial sc_23 rfl rfl rfl hx181 rfl (Nat.le_of_ble_eq_true rfl) rfl (fun _ _ _ h => by rw [h]; rfl) (fun _ _ => rfl) ?_; intro a w184 hsh hst
            rw [← upd_some hl183] at hsh
            refine m_turn hsh ?_
            refine m_nil ?_
            intro w185 hsh
            refine qn_normal ?_
            refine then_normal ?_
            refine wq_seq ?_
            refine wq_region_lit (.inl rfl) ?_
            refine r_t hst trivial rfl (x_move hst rfl) ?_; intro a hst
            refine r_t hst trivial rfl (x_assign hst rfl) ?_; intro a hst
            refine r_t hst trivial rfl (x_assign hst rfl) ?_; intro a hst
            refine wpL_nil ?_
            refine then_normal ?_
            refine wq_ret ?_
            refine then_ret ?_
            obtain rfl := Option.some.inj H
            exact ret2 hst rfl rfl rfl ⟨rfl, hsh.pick [0]⟩
          · rw [if_neg c174] at H
            replace c174 := Bool.eq_false_iff.2 c174
            refine wq_condF hst rfl c174 ?_
            refine wq_skip ?_
            refine then_normal ?_
            refine wq_seq ?_
            have hw185_0 := hsh.row 0 rfl
            refine wq_region_t (.inl rfl) (.fin [(3, 0), (3, 1), (3, 2), (3, 3), (3, 4), (3, 5), (3, 6), (0, 7), (3, 8), (3, 9), (3, 10), (0, 11), (3, 12), (2, 13), (0, 14), (2, 15)]) (fun w' => SH GG w w' [Row (Kd.int .u64) 23 va0 l9]) (fun w' => SH GG w w' [Row (Kd.int .u64) 23 va0 l9]) (shut_sh _ _ _) (shut_sh _ _ _) (sub_sh [0] rfl) hsh.drew fo (by kernel_rfl) ?_
            refine t_fin ?_
            refine m_p hst trivial rfl (fun _ => x_move hst rfl) ?_; intro a hst
            refine m_p hst trivial rfl (fun _ => x_move hst rfl) ?_; intro a hst
            refine m_p hst trivial rfl (fun _ => x_move hst rfl) ?_; intro a hst
            refine m_p hst trivial rfl (fun _ => x_move hst rfl) ?_; intro a hst
            refine m_p hst trivial rfl (fun _ => x_move hst rfl) ?_; intro a hst
            refine m_p hst trivial rfl (fun _ => x_move hst rfl) ?_; intro a hst
            obtain ⟨x186, hx186, H⟩ := Option.bind_eq_some_iff.1 H
            refine m_p hst trivial rfl (fun _ => x_indexAddr hst Try.underlying35 el_23 rfl rfl hw185_0 hx186) ?_; intro a hst
            refine m_t hst trivial rfl (fun _ hsh => x_loadEF (j := 0) (cs := [.int .u64 x186]) hst sc_23 rfl (hsh.row 0 rfl) (Same.refl _ _) hx186 rfl (fun _ h => h) rfl) ?_; intro a hst
            refine m_p hst trivial rfl (fun _ => x_move hst rfl) ?_; intro a hst
            refine m_p hst trivial rfl (fun _ => x_move hst rfl) ?_; intro a hst
            obtain ⟨x187, hx187, H⟩ := Option.bind_eq_some_iff.1 H
            refine m_p hst trivial rfl (fun _ => x_indexAddr hst Try.underlying35 el_23 rfl rfl hw185_0 hx187) ?_; intro a hst
            refine m_t hst trivial rfl (fun _ hsh => x_loadEF (j := 0) (cs := [.int .u64 x187]) hst sc_23 rfl (hsh.row 0 rfl) (Same.refl _ _) hx187 rfl (fun _ h => h) rfl) ?_; intro a hst
            obtain ⟨x188, hx188, H⟩ := Option.bind_eq_some_iff.1 H
            refine m_p hst trivial rfl (fun _ => x_indexAddr hst Try.underlying35 el_23 rfl rfl hw185_0 hx188) ?_; intro a hst
            refine m_loud (.inr rfl) ?_
            intro w189 hsh
            obtain ⟨l190, hl190, H⟩ := Option.bind_eq_some_iff.1 H
            refine r_storeE (i := 0) (off := 0) (new := x186) (cs' := [.int .u64 x186]) hst hsh trivial sc_23 rfl rfl rfl hx188 rfl (Nat.le_of_ble_eq_true rfl) rfl (fun _ _ _ h => by rw [h]; rfl) (fun _ _ => rfl) ?_; intro a w191 hsh hst
            rw [← upd_some hl190] at hsh
            refine m_turn hsh ?_
            obtain ⟨x192, hx192, H⟩ := Option.bind_eq_some_iff.1 H
            refine m_t hst trivial rfl (fun _ hsh => x_indexAddr hst Try.underlying35 el_23 rfl rfl (hsh.row 0 rfl) hx192) ?_; intro a hst
            refine m_loud (.inr rfl) ?_
            intro w193 hsh
            obtain ⟨l194, hl194, H⟩ := Option.bind_eq_some_iff.1 H
            refine r_storeE (i := 0) (off := 0) (new := x187) (cs' := [.int .u64 x187]) hst hsh trivial sc_23 rfl rfl rfl hx192 rfl (Nat.le_of_ble_eq_true rfl) rfl (fun _ _ _ h => by rw [h]; rfl) (fun _ _ => rfl) ?_; intro a w195 hsh hst
            rw [← upd_some hl194] at hsh
            refine m_turn hsh ?_
            refine m_nil ?_
            intro w196 hsh
            refine qn_normal ?_
            refine then_normal ?_
            refine wq_seq ?_
            refine wq_region_lit (.inl rfl) ?_
            refine r_t hst trivial rfl (x_move hst rfl) ?_; intro a hst
            refine r_t hst trivial rfl (x_arI (r := w64 (i_20 + 1)) hst rfl rfl rfl) ?_; intro a hst
            refine r_t hst trivial rfl (x_assign hst rfl) ?_; intro a hst
            refine wpL_nil ?_
            refine then_normal ?_
            refine wq_seq ?_
            refine wq_region_lit (.inl rfl) ?_
            refine r_t hst trivial rfl (x_move hst rfl) ?_; intro a hst
            refine r_t hst trivial rfl (x_arI (r := w64 (i_65 - 1)) hst rfl rfl rfl) ?_; intro a hst
            refine r_t hst trivial rfl (x_assign hst rfl) ?_; intro a hst
            refine wpL_nil ?_
            refine then_normal ?_
            obtain ⟨J_415, hJ_415, H⟩ := Jn.elim H
            refine wq_cut (fun a w' => ∃ (l_412 : (List Int)), ∃ (i_413 : Int), J_415 l_412 i_413 = some r ∧ ST [] Try.f53.ntmps a [(0, va0), (1, .int .i64 a1), (8, .int .i64 0), (9, .bool false), (11, .int .i64 i_413)] ∧ SH GG w w' [Row (Kd.int .u64) 23 va0 l_412]) ?_ ?_
            · rintro a W_414 ⟨l_412, i_413, H, hst, hsh⟩
              subst hJ_415
              dsimp only at H
              refine wq_seq ?_
              have hw1027_0 := hsh.row 0 rfl
              refine wq_region_t (.inl rfl) (.fin [(3, 0), (3, 1), (3, 2), (3, 3), (3, 4), (3, 5), (3, 6), (0, 7), (3, 8), (3, 9), (3, 10), (0, 11), (3, 12), (2, 13), (0, 14), (2, 15)]) (fun w' => SH GG w w' [Row (Kd.int .u64) 23 va0 l_412]) (fun w' => SH GG w w' [Row (Kd.int .u64) 23 va0 l_412]) (shut_sh _ _ _) (shut_sh _ _ _) (sub_sh [0] rfl) hsh.drew fo (by kernel_rfl) ?_
              refine t_fin ?_
              refine m_p hst trivial rfl (fun _ => x_move hst rfl) ?_; intro a hst
              refine m_p hst trivial rfl (fun _ => x_move hst rfl) ?_; intro a hst
              refine m_p hst trivial rfl (fun _ => x_move hst rfl) ?_; intro a hst
              refine m_p hst trivial rfl (fun _ => x_move hst rfl) ?_; intro a hst
              refine m_p hst trivial rfl (fun _ => x_move hst rfl) ?_; intro a hst
              refine m_p hst trivial rfl (fun _ => x_move hst rfl) ?_; intro a hst
              obtain ⟨x1028, hx1028, H⟩ := Option.bind_eq_some_iff.1 H
              refine m_p hst trivial rfl (fun _ => x_indexAddr hst Try.underlying35 el_23 rfl rfl hw1027_0 hx1028) ?_; intro a hst
              refine m_t hst trivial rfl (fun _ hsh => x_loadEF (j := 0) (cs := [.int .u64 x1028]) hst sc_23 rfl (hsh.row 0 rfl) (Same.refl _ _) hx1028 rfl (fun _ h => h) rfl) ?_; intro a hst
              refine m_p hst trivial rfl (fun _ => x_move hst rfl) ?_; intro a hst
              refine m_p hst trivial rfl (fun _ => x_move hst rfl) ?_; intro a hst
              obtain ⟨x1029, hx1029, H⟩ := Option.bind_eq_some_iff.1 H
              refine m_p hst trivial rfl (fun _ => x_indexAddr hst Try.underlying35 el_23 rfl rfl hw1027_0 hx1029) ?_; intro a hst
              refine m_t hst trivial rfl (fun _ hsh => x_loadEF (j := 0) (cs := [.int .u64 x1029]) hst sc_23 rfl (hsh.row 0 rfl) (Same.refl _ _) hx1029 rfl (fun _ h => h) rfl) ?_; intro a hst
              obtain ⟨x1030, hx1030, H⟩ := Option.bind_eq_some_iff.1 H
              refine m_p hst trivial rfl (fun _ => x_indexAddr hst Try.underlying35 el_23 rfl rfl hw1027_0 hx1030) ?_; intro a hst
              refine m_loud (.inr rfl) ?_
              intro w1031 hsh
              obtain ⟨l1032, hl1032, H⟩ := Option.bind_eq_some_iff.1 H
              refine r_storeE (i := 0) (off := 0) (new := x1028) (cs' := [.int .u64 x1028]) hst hsh trivial sc_23 rfl rfl rfl hx1030 rfl (Nat.le_of_ble_eq_true rfl) rfl (fun _ _ _ h => by rw [h]; rfl) (fun _ _ => rfl) ?_; intro a w1033 hsh hst
              rw [← upd_some hl1032] at hsh
              refine m_turn hsh ?_
              obtain ⟨x1034, hx1034, H⟩ := Option.bind_eq_some_iff.1 H
              refine m_t hst trivial rfl (fun _ hsh => x_indexAddr hst Try.underlying35 el_23 rfl rfl (hsh.row 0 rfl) hx1034) ?_; intro a hst
              refine m_loud (.inr rfl) ?_
              intro w1035 hsh
              obtain ⟨l1036, hl1036, H⟩ := Option.bind_eq_some_iff.1 H
              refine r_storeE (i := 0) (off := 0) (new := x1029) (cs' := [.int .u64 x1029]) hst hsh trivial sc_23 rfl rfl rfl hx1034 rfl (Nat.le_of_ble_eq_true rfl) rfl (fun _ _ _ h => by rw [h]; rfl) (fun _ _ => rfl) ?_; intro a w1037 hsh hst
              rw [← upd_some hl1036] at hsh
              refine m_turn hsh ?_
              refine m_nil ?_
              intro w1038 hsh
              refine qn_normal ?_
              refine then_normal ?_
              refine wq_seq ?_
              refine wq_region_lit (.inl rfl) ?_
              refine r_t hst trivial rfl (x_move hst rfl) ?_; intro a hst
              refine r_t hst trivial rfl (x_assign hst rfl) ?_; intro a hst
              refine r_t hst trivial rfl (x_assign hst rfl) ?_; intro a hst
              refine wpL_nil ?_
              refine then_normal ?_
              refine wq_ret ?_
              obtain rfl := Option.some.inj H
              exact ret2 hst rfl rfl rfl ⟨rfl, hsh.pick [0]⟩
            · refine wq_block ?_
              refine wq_loop_fuel (fun k_649 a w' => ∃ (l_531 : (List Int)), ∃ (i_532 : Int), ∃ (i_533 : Int), slices_partitionOrdered_uint64.l1 a1 J_415 k_649 l_531 i_532 i_533 = some r ∧ ST [] Try.f53.ntmps a [(0, va0), (1, .int .i64 a1), (8, .int .i64 0), (9, .bool false), (10, .int .i64 i_532), (11, .int .i64 i_533)] ∧ SH GG w w' [Row (Kd.int .u64) 23 va0 l_531]) k_32 ?_ ?_
              · exact ⟨l194, (w64 (i_20 + 1)), (w64 (i_65 - 1)), H, hst.keep _ ⟨rfl, rfl, rfl, rfl, rfl, rfl, trivial⟩, hsh.pick [0]⟩
              · rintro k_649 a W_534 ⟨l_531, i_532, i_533, H, hst, hsh⟩
                cases k_649 with
                | zero => rw [slices_partitionOrdered_uint64.l1] at H; cases H
                | succ k_649 =>
                 rw [slices_partitionOrdered_uint64.l1] at H
                 refine wq_block ?_
                 obtain ⟨J_678, hJ_678, H⟩ := Jn.elim H
                 refine wq_cut (fun a w' => ∃ (i_676 : Int), J_678 i_676 = some r ∧ ST [] Try.f53.ntmps a [(0, va0), (1, .int .i64 a1), (8, .int .i64 0), (9, .bool false), (10, .int .i64 i_676), (11, .int .i64 i_533)] ∧ SH GG w w' [Row (Kd.int .u64) 23 va0 l_531]) ?_ ?_
                 · rintro a W_677 ⟨i_676, H, hst, hsh⟩
                   subst hJ_678
                   dsimp only at H
                   obtain ⟨J_707, hJ_707, H⟩ := Jn.elim H
                   refine wq_cut (fun a w' => ∃ (i_705 : Int), J_707 i_705 = some r ∧ ST [] Try.f53.ntmps a [(0, va0), (1, .int .i64 a1), (8, .int .i64 0), (9, .bool false), (10, .int .i64 i_676), (11, .int .i64 i_705)] ∧ SH GG w w' [Row (Kd.int .u64) 23 va0 l_531]) ?_ ?_
                   · rintro a W_706 ⟨i_705, H, hst, hsh⟩
                     subst hJ_707
                     dsimp only at H
                     refine wq_seq ?_
                     refine wq_seq ?_
                     refine wq_region_lit (.inl rfl) ?_
                     refine r_t hst trivial rfl (x_move hst rfl) ?_; intro a hst
                     refine r_t hst trivial rfl (x_move hst rfl) ?_; intro a hst
                     refine r_t hst trivial rfl (x_cmpI (b := decide (i_705 < i_676)) hst rfl rfl rfl) ?_; intro a hst
                     refine wpL_nil ?_
                     refine then_normal ?_
                     by_cases c1726 : (decide (i_705 < i_676)) = true
                     · rw [if_pos c1726] at H
                       refine wq_condT hst rfl c1726 ?_
                       refine wq_exit ?_
                       refine then_exit ?_
                       refine block_miss rfl ?_
                       refine then_exit ?_
                       refine block_hit ?_
                       refine then_normal ?_
                       exact ⟨l_531, i_705, H, hst.keep _ ⟨rfl, rfl, rfl, rfl, rfl, trivial⟩, hsh.pick [0]⟩
                     · rw [if_neg c1726] at H
                       replace c1726 := Bool.eq_false_iff.2 c1726
                       refine wq_condF hst rfl c1726 ?_
                       refine wq_skip ?_
                       refine then_normal ?_
                       refine wq_seq ?_
                       have hw1726_0 := hsh.row 0 rfl
                       refine wq_region_t (.inl rfl) (.fin [(3, 0), (3, 1), (3, 2), (3, 3), (3, 4), (3, 5), (3, 6), (0, 7), (3, 8), (3, 9), (3, 10), (0, 11), (3, 12), (2, 13), (0, 14), (2, 15)]) (fun w' => SH GG w w' [Row (Kd.int .u64) 23 va0 l_531]) (fun w' => SH GG w w' [Row (Kd.int .u64) 23 va0 l_531]) (shut_sh _ _ _) (shut_sh _ _ _) (sub_sh [0] rfl) hsh.drew fo (by kernel_rfl) ?_
                       refine t_fin ?_
                       refine m_p hst trivial rfl (fun _ => x_move hst rfl) ?_; intro a hst
                       refine m_p hst trivial rfl (fun _ => x_move hst rfl) ?_; intro a hst
                       refine m_p hst trivial rfl (fun _ => x_move hst rfl) ?_; intro a hst
                       refine m_p hst trivial rfl (fun _ => x_move hst rfl) ?_; intro a hst
                       refine m_p hst trivial rfl (fun _ => x_move hst rfl) ?_; intro a hst
                       refine m_p hst trivial rfl (fun _ => x_move hst rfl) ?_; intro a hst
                       obtain ⟨x1727, hx1727, H⟩ := Option.bind_eq_some_iff.1 H
                       refine m_p hst trivial rfl (fun _ => x_indexAddr hst Try.underlying35 el_23 rfl rfl hw1726_0 hx1727) ?_; intro a hst
                       refine m_t hst trivial rfl (fun _ hsh => x_loadEF (j := 0) (cs := [.int .u64 x1727]) hst sc_23 rfl (hsh.row 0 rfl) (Same.refl _ _) hx1727 rfl (fun _ h => h) rfl) ?_; intro a hst
                       refine m_p hst trivial rfl (fun _ => x_move hst rfl) ?_; intro a hst
                       refine m_p hst trivial rfl (fun _ => x_move hst rfl) ?_; intro a hst
                       obtain ⟨x1728, hx1728, H⟩ := Option.bind_eq_some_iff.1 H
                       refine m_p hst trivial rfl (fun _ => x_indexAddr hst Try.underlying35 el_23 rfl rfl hw1726_0 hx1728) ?_; intro a hst
                       refine m_t hst trivial rfl (fun _ hsh => x_loadEF (j := 0) (cs := [.int .u64 x1728]) hst sc_23 rfl (hsh.row 0 rfl) (Same.refl _ _) hx1728 rfl (fun _ h => h) rfl) ?_; intro a hst
                       obtain ⟨x1729, hx1729, H⟩ := Option.bind_eq_some_iff.1 H
                       refine m_p hst trivial rfl (fun _ => x_indexAddr hst Try.underlying35 el_23 rfl rfl hw1726_0 hx1729) ?_; intro a hst
                       refine m_loud (.inr rfl) ?_
                       intro w1730 hsh
                       obtain ⟨l1731, hl1731, H⟩ := Option.bind_eq_some_iff.1 H
                       refine r_storeE (i := 0) (off := 0) (new := x1727) (cs' := [.int .u64 x1727]) hst hsh trivial sc_23 rfl rfl rfl hx1729 rfl (Nat.le_of_ble_eq_true rfl) rfl (fun _ _ _ h => by rw [h]; rfl) (fun _ _ => rfl) ?_; intro a w1732 hsh hst
                       rw [← upd_some hl1731] at hsh
                       refine m_turn hsh ?_
                       obtain ⟨x1733, hx1733, H⟩ := Option.bind_eq_some_iff.1 H
                       refine m_t hst trivial rfl (fun _ hsh => x_indexAddr hst Try.underlying35 el_23 rfl rfl (hsh.row 0 rfl) hx1733) ?_; intro a hst
                       refine m_loud (.inr rfl) ?_
                       intro w1734 hsh
                       obtain ⟨l1735, hl1735, H⟩ := Option.bind_eq_some_iff.1 H
                       refine r_storeE (i := 0) (off := 0) (new := x1728) (cs' := [.int .u64 x1728]) hst hsh trivial sc_23 rfl rfl rfl hx1733 rfl (Nat.le_of_ble_eq_true rfl) rfl (fun _ _ _ h => by rw [h]; rfl) (fun _ _ => rfl) ?_; intro a w1736 hsh hst
                       rw [← upd_some hl1735] at hsh
                       refine m_turn hsh ?_
                       refine m_nil ?_
                       intro w1737 hsh
                       refine qn_normal ?_
                       refine then_normal ?_
                       refine wq_seq ?_
                       refine wq_region_lit (.inl rfl) ?_
                       refine r_t hst trivial rfl (x_move hst rfl) ?_; intro a hst
                       refine r_t hst trivial rfl (x_arI (r := w64 (i_676 + 1)) hst rfl rfl rfl) ?_; intro a hst
                       refine r_t hst trivial rfl (x_assign hst rfl) ?_; intro a hst
                       refine wpL_nil ?_
                       refine then_normal ?_
                       refine wq_region_lit (.inl rfl) ?_
                       refine r_t hst trivial rfl (x_move hst rfl) ?_; intro a hst
                       refine r_t hst trivial rfl (x_arI (r := w64 (i_705 - 1)) hst rfl rfl rfl) ?_; intro a hst
                       refine r_t hst trivial rfl (x_assign hst rfl) ?_; intro a hst
                       refine wpL_nil ?_
                       refine block_normal ?_
                       refine then_normal ?_
                       exact ⟨k_649, Nat.lt_succ_self _, l1735, (w64 (i_676 + 1)), (w64 (i_705 - 1)), H, hst.keep _ ⟨rfl, rfl, rfl, rfl, rfl, rfl, trivial⟩, hsh.pick [0]⟩
                   · refine wq_block ?_
                     refine wq_loop_fuel (fun k_727 a w' => ∃ (i_717 : Int), slices_partitionOrdered_uint64.l2 a1 l_531 i_676 J_707 k_727 i_717 = some r ∧ ST [] Try.f53.ntmps a [(0, va0), (1, .int .i64 a1), (8, .int .i64 0), (9, .bool false), (10, .int .i64 i_676), (11, .int .i64 i_717)] ∧ SH GG w w' [Row (Kd.int .u64) 23 va0 l_531]) k_649 ?_ ?_
                     · exact ⟨i_533, H, hst.keep _ ⟨rfl, rfl, rfl, rfl, rfl, rfl, trivial⟩, hsh.pick [0]⟩
                     · rintro k_727 a W_718 ⟨i_717, H, hst, hsh⟩
                       cases k_727 with
                       | zero => rw [slices_partitionOrdered_uint64.l2] at H; cases H
                       | succ k_727 =>
                        rw [slices_partitionOrdered_uint64.l2] at H
                        refine wq_seq ?_
                        refine wq_seq ?_
                        refine wq_region_q (.inl rfl) (fun w' => SH GG w w' [Row (Kd.int .u64) 23 va0 l_531]) (shut_sh _ _ _) hsh.drew fo (by kernel_rfl) ?_
                        refine q_t hst trivial rfl (fun _ hsh => x_move hst rfl) ?_; intro a hst
                        refine q_t hst trivial rfl (fun _ hsh => x_move hst rfl) ?_; intro a hst
                        refine q_t hst trivial rfl (fun _ hsh => x_cmpI (b := decide (i_676 ≤ i_717)) hst rfl rfl rfl) ?_; intro a hst
                        refine q_t hst trivial rfl (fun _ hsh => x_move hst rfl) ?_; intro a hst
                        obtain ⟨J_732, hJ_732, H⟩ := Jn.elim H
                        refine q_join 15 (fun a => ∃ (b_731 : Bool), J_732 b_731 = some r ∧ ST [] Try.f53.ntmps a [(0, va0), (1, .int .i64 a1), (8, .int .i64 0), (9, .bool false), (10, .int .i64 i_676), (11, .int .i64 i_717), (129, .bool b_731)]) ?_ ?_
                        · rintro a ⟨b_731, H, hst⟩
                          subst hJ_732
                          dsimp only at H
                          refine q_nil ?_
                          intro w1798 hsh
                          refine then_normal ?_
                          by_cases c1799 : b_731 = true
                          · rw [if_pos c1799] at H
                            refine wq_condT hst rfl c1799 ?_
                            refine wq_skip ?_
                            refine then_normal ?_
                            refine wq_block ?_
                            refine wq_region_lit (.inl rfl) ?_
                            refine r_t hst trivial rfl (x_move hst rfl) ?_; intro a hst
                            refine r_t hst trivial rfl (x_arI (r := w64 (i_717 - 1)) hst rfl rfl rfl) ?_; intro a hst
                            refine r_t hst trivial rfl (x_assign hst rfl) ?_; intro a hst
                            refine wpL_nil ?_
                            refine block_normal ?_
                            refine then_normal ?_
                            exact ⟨k_727, Nat.lt_succ_self _, (w64 (i_717 - 1)), H, hst.keep _ ⟨rfl, rfl, rfl, rfl, rfl, rfl, trivial⟩, hsh.pick [0]⟩
                          · rw [if_neg c1799] at H
                            replace c1799 := Bool.eq_false_iff.2 c1799
                            refine wq_condF hst rfl c1799 ?_
                            refine wq_exit ?_
                            refine then_exit ?_
                            refine then_exit ?_
                            refine block_hit ?_
                            refine then_normal ?_
                            exact ⟨i_717, H, hst.keep _ ⟨rfl, rfl, rfl, rfl, rfl, rfl, trivial⟩, hsh.pick [0]⟩
                        · intro hj
                          by_cases c1793 : (decide (i_676 ≤ i_717)) = true
                          · rw [if_pos c1793] at H
                            refine q_t hst (wt_of 118 rfl rfl c1793) rfl (fun _ hsh => x_move hst rfl) ?_; intro a hst
                            refine q_t hst (wt_of 118 rfl rfl c1793) rfl (fun _ hsh => x_move hst rfl) ?_; intro a hst
                            obtain ⟨x1800, hx1800, H⟩ := Option.bind_eq_some_iff.1 H
                            refine q_t hst (wt_of 118 rfl rfl c1793) rfl (fun _ hsh => x_indexAddr hst Try.underlying35 el_23 rfl rfl (hsh.row 0 rfl) hx1800) ?_; intro a hst
                            refine q_t hst (wt_of 118 rfl rfl c1793) rfl (fun _ hsh => x_loadEF (j := 0) (cs := [.int .u64 x1800]) hst sc_23 rfl (hsh.row 0 rfl) (Same.refl _ _) hx1800 rfl (fun _ h => h) rfl) ?_; intro a hst
                            refine q_t hst (wt_of 118 rfl rfl c1793) rfl (fun _ hsh => x_move hst rfl) ?_; intro a hst
                            refine q_t hst (wt_of 118 rfl rfl c1793) rfl (fun _ hsh => x_move hst rfl) ?_; intro a hst
                            obtain ⟨x1801, hx1801, H⟩ := Option.bind_eq_some_iff.1 H
                            refine q_t hst (wt_of 118 rfl rfl c1793) rfl (fun _ hsh => x_indexAddr hst Try.underlying35 el_23 rfl rfl (hsh.row 0 rfl) hx1801) ?_; intro a hst
                            refine q_t hst (wt_of 118 rfl rfl c1793) rfl (fun _ hsh => x_loadEF (j := 0) (cs := [.int .u64 x1801]) hst sc_23 rfl (hsh.row 0 rfl) (Same.refl _ _) hx1801 rfl (fun _ h => h) rfl) ?_; intro a hst
                            obtain ⟨r1802, hr1802, H⟩ := Option.bind_eq_some_iff.1 H
                            refine q_call hst (wt_of 118 rfl rfl c1793) rfl fn_51 rfl (fun w9 hsh => cmp_Less_uint64.calls _ x1800 x1801 r1802 hr1802) ?_; intro a hst
                            refine q_t hst (wt_of 118 rfl rfl c1793) rfl (fun _ hsh => x_notB hst rfl) ?_; intro a hst
                            refine q_t hst trivial rfl (fun _ hsh => x_pickT hst rfl c1793 rfl) ?_; intro a hst
                            exact hj _ ⟨(!r1802), H, hst.keep _ ⟨rfl, rfl, rfl, rfl, rfl, rfl, rfl, trivial⟩⟩
                          · rw [if_neg c1793] at H
                            replace c1793 := Bool.eq_false_iff.2 c1793
                            refine q_not hst 118 rfl rfl c1793 rfl ?_; intro a hst
                            refine q_not hst 118 rfl rfl c1793 rfl ?_; intro a hst
                            refine q_not hst 118 rfl rfl c1793 rfl ?_; intro a hst
                            refine q_not hst 118 rfl rfl c1793 rfl ?_; intro a hst
                            refine q_not hst 118 rfl rfl c1793 rfl ?_; intro a hst
                            refine q_not hst 118 rfl rfl c1793 rfl ?_; intro a hst
                            refine q_not hst 118 rfl rfl c1793 rfl ?_; intro a hst
                            refine q_not hst 118 rfl rfl c1793 rfl ?_; intro a hst
                            refine q_not hst 118 rfl rfl c1793 rfl ?_; intro a hst
                            refine q_not hst 118 rfl rfl c1793 rfl ?_; intro a hst
                            refine q_t hst trivial rfl (fun _ hsh => x_pickF hst rfl c1793 rfl) ?_; intro a hst
                            exact hj _ ⟨false, H, hst.keep _ ⟨rfl, rfl, rfl, rfl, rfl, rfl, rfl, trivial⟩⟩
                 · refine wq_block ?_
                   refine wq_loop_fuel (fun k_753 a w' => ∃ (i_743 : Int), slices_partitionOrdered_uint64.l3 a1 l_531 i_533 J_678 k_753 i_743 = some r ∧ ST [] Try.f53.ntmps a [(0, va0), (1, .int .i64 a1), (8, .int .i64 0), (9, .bool false), (10, .int .i64 i_743), (11, .int .i64 i_533)] ∧ SH GG w w' [Row (Kd.int .u64) 23 va0 l_531]) k_649 ?_ ?_
                   · exact ⟨i_532, H, hst.keep _ ⟨rfl, rfl, rfl, rfl, rfl, rfl, trivial⟩, hsh.pick [0]⟩
                   · rintro k_753 a W_744 ⟨i_743, H, hst, hsh⟩
                     cases k_753 with
                     | zero => rw [slices_partitionOrdered_uint64.l3] at H; cases H
                     | succ k_753 =>
                      rw [slices_partitionOrdered_uint64.l3] at H
                      refine wq_seq ?_
                      refine wq_seq ?_
                      refine wq_region_q (.inl rfl) (fun w' => SH GG w w' [Row (Kd.int .u64) 23 va0 l_531]) (shut_sh _ _ _) hsh.drew fo (by kernel_rfl) ?_
                      refine q_t hst trivial rfl (fun _ hsh => x_move hst rfl) ?_; intro a hst
                      refine q_t hst trivial rfl (fun _ hsh => x_move hst rfl) ?_; intro a hst
                      refine q_t hst trivial rfl (fun _ hsh => x_cmpI (b := decide (i_743 ≤ i_533)) hst rfl rfl rfl) ?_; intro a hst
                      refine q_t hst trivial rfl (fun _ hsh => x_move hst rfl) ?_; intro a hst
                      obtain ⟨J_758, hJ_758, H⟩ := Jn.elim H
                      refine q_join 14 (fun a => ∃ (b_757 : Bool), J_758 b_757 = some r ∧ ST [] Try.f53.ntmps a [(0, va0), (1, .int .i64 a1), (8, .int .i64 0), (9, .bool false), (10, .int .i64 i_743), (11, .int .i64 i_533), (112, .bool b_757)]) ?_ ?_
                      · rintro a ⟨b_757, H, hst⟩
                        subst hJ_758
                        dsimp only at H
                        refine q_nil ?_
                        intro w1864 hsh
                        refine then_normal ?_
                        by_cases c1865 : b_757 = true
                        · rw [if_pos c1865] at H
                          refine wq_condT hst rfl c1865 ?_
                          refine wq_skip ?_
                          refine then_normal ?_
                          refine wq_block ?_
                          refine wq_region_lit (.inl rfl) ?_
                          refine r_t hst trivial rfl (x_move hst rfl) ?_; intro a hst
                          refine r_t hst trivial rfl (x_arI (r := w64 (i_743 + 1)) hst rfl rfl rfl) ?_; intro a hst
                          refine r_t hst trivial rfl (x_assign hst rfl) ?_; intro a hst
                          refine wpL_nil ?_
                          refine block_normal ?_
                          refine then_normal ?_
                          exact ⟨k_753, Nat.lt_succ_self _, (w64 (i_743 + 1)), H, hst.keep _ ⟨rfl, rfl, rfl, rfl, rfl, rfl, trivial⟩, hsh.pick [0]⟩
                        · rw [if_neg c1865] at H
                          replace c1865 := Bool.eq_false_iff.2 c1865
                          refine wq_condF hst rfl c1865 ?_
                          refine wq_exit ?_
                          refine then_exit ?_
                          refine then_exit ?_
                          refine block_hit ?_
                          refine then_normal ?_
                          exact ⟨i_743, H, hst.keep _ ⟨rfl, rfl, rfl, rfl, rfl, rfl, trivial⟩, hsh.pick [0]⟩
                      · intro hj
                        by_cases c1859 : (decide (i_743 ≤ i_533)) = true
                        · rw [if_pos c1859] at H
                          refine q_t hst (wt_of 102 rfl rfl c1859) rfl (fun _ hsh => x_move hst rfl) ?_; intro a hst
                          refine q_t hst (wt_of 102 rfl rfl c1859) rfl (fun _ hsh => x_move hst rfl) ?_; intro a hst
                          obtain ⟨x1866, hx1866, H⟩ := Option.bind_eq_some_iff.1 H
                          refine q_t hst (wt_of 102 rfl rfl c1859) rfl (fun _ hsh => x_indexAddr hst Try.underlying35 el_23 rfl rfl (hsh.row 0 rfl) hx1866) ?_; intro a hst
                          refine q_t hst (wt_of 102 rfl rfl c1859) rfl (fun _ hsh => x_loadEF (j := 0) (cs := [.int .u64 x1866]) hst sc_23 rfl (hsh.row 0 rfl) (Same.refl _ _) hx1866 rfl (fun _ h => h) rfl) ?_; intro a hst
                          refine q_t hst (wt_of 102 rfl rfl c1859) rfl (fun _ hsh => x_move hst rfl) ?_; intro a hst
                          refine q_t hst (wt_of 102 rfl rfl c1859) rfl (fun _ hsh => x_move hst rfl) ?_; intro a hst
                          obtain ⟨x1867, hx1867, H⟩ := Option.bind_eq_some_iff.1 H
                          refine q_t hst (wt_of 102 rfl rfl c1859) rfl (fun _ hsh => x_indexAddr hst Try.underlying35 el_23 rfl rfl (hsh.row 0 rfl) hx1867) ?_; intro a hst
                          refine q_t hst (wt_of 102 rfl rfl c1859) rfl (fun _ hsh => x_loadEF (j := 0) (cs := [.int .u64 x1867]) hst sc_23 rfl (hsh.row 0 rfl) (Same.refl _ _) hx1867 rfl (fun _ h => h) rfl) ?_; intro a hst
                          obtain ⟨r1868, hr1868, H⟩ := Option.bind_eq_some_iff.1 H
                          refine q_call hst (wt_of 102 rfl rfl c1859) rfl fn_51 rfl (fun w9 hsh => cmp_Less_uint64.calls _ x1866 x1867 r1868 hr1868) ?_; intro a hst
                          refine q_t hst trivial rfl (fun _ hsh => x_pickT hst rfl c1859 rfl) ?_; intro a hst
                          exact hj _ ⟨r1868, H, hst.keep _ ⟨rfl, rfl, rfl, rfl, rfl, rfl, rfl, trivial⟩⟩
                        · rw [if_neg c1859] at H
                          replace c1859 := Bool.eq_false_iff.2 c1859
                          refine q_not hst 102 rfl rfl c1859 rfl ?_; intro a hst
                          refine q_not hst 102 rfl rfl c1859 rfl ?_; intro a hst
                          refine q_not hst 102 rfl rfl c1859 rfl ?_; intro a hst
                          refine q_not hst 102 rfl rfl c1859 rfl ?_; intro a hst
                          refine q_not hst 102 rfl rfl c1859 rfl ?_; intro a hst
                          refine q_not hst 102 rfl rfl c1859 rfl ?_; intro a hst
                          refine q_not hst 102 rfl rfl c1859 rfl ?_; intro a hst
                          refine q_not hst 102 rfl rfl c1859 rfl ?_; intro a hst
                          refine q_not hst 102 rfl rfl c1859 rfl ?_; intro a hst
                          refine q_t hst trivial rfl (fun _ hsh => x_pickF hst rfl c1859 rfl) ?_; intro a hst
                          exact hj _ ⟨false, H, hst.keep _ ⟨rfl, rfl, rfl, rfl, rfl, rfl, rfl, trivial⟩⟩
        · refine wq_block ?_
          refine wq_loop_fuel (fun k_779 a w' => ∃ (i_769 : Int), slices_partitionOrdered_uint64.l4 a1 l9 i_20 J_67 k_779 i_769 = some r ∧ ST [] Try.f53.ntmps a [(0, va0), (1, .int .i64 a1), (8, .int .i64 0), (9, .bool false), (10, .int .i64 i_20), (11, .int .i64 i_769)] ∧ SH GG w w' [Row (Kd.int .u64) 23 va0 l9]) k_32 ?_ ?_
          · exact ⟨i_21, H, hst.keep _ ⟨rfl, rfl, rfl, rfl, rfl, rfl, trivial⟩, hsh.pick [0]⟩
          · rintro k_779 a W_770 ⟨i_769, H, hst, hsh⟩
            cases k_779 with
            | zero => rw [slices_partitionOrdered_uint64.l4] at H; cases H
            | succ k_779 =>
             rw [slices_partitionOrdered_uint64.l4] at H
             refine wq_seq ?_
             refine wq_seq ?_
             refine wq_region_q (.inl rfl) (fun w' => SH GG w w' [Row (Kd.int .u64) 23 va0 l9]) (shut_sh _ _ _) hsh.drew fo (by kernel_rfl) ?_
             refine q_t hst trivial rfl (fun _ hsh => x_move hst rfl) ?_; intro a hst
             refine q_t hst trivial rfl (fun _ hsh => x_move hst rfl) ?_; intro a hst
             refine q_t hst trivial rfl (fun _ hsh => x_cmpI (b := decide (i_20 ≤ i_769)) hst rfl rfl rfl) ?_; intro a hst
             refine q_t hst trivial rfl (fun _ hsh => x_move hst rfl) ?_; intro a hst
             obtain ⟨J_784, hJ_784, H⟩ := Jn.elim H
             refine q_join 15 (fun a => ∃ (b_783 : Bool), J_784 b_783 = some r ∧ ST [] Try.f53.ntmps a [(0, va0), (1, .int .i64 a1), (8, .int .i64 0), (9, .bool false), (10, .int .i64 i_20), (11, .int .i64 i_769), (60, .bool b_783)]) ?_ ?_
             · rintro a ⟨b_783, H, hst⟩
               subst hJ_784
               dsimp only at H
               refine q_nil ?_
               intro w1930 hsh
               refine then_normal ?_
               by_cases c1931 : b_783 = true
               · rw [if_pos c1931] at H
                 refine wq_condT hst rfl c1931 ?_
                 refine wq_skip ?_
                 refine then_normal ?_
                 refine wq_block ?_
                 refine wq_region_lit (.inl rfl) ?_
                 refine r_t hst trivial rfl (x_move hst rfl) ?_; intro a hst
                 refine r_t hst trivial rfl (x_arI (r := w64 (i_769 - 1)) hst rfl rfl rfl) ?_; intro a hst
                 refine r_t hst trivial rfl (x_assign hst rfl) ?_; intro a hst
                 refine wpL_nil ?_
                 refine block_normal ?_
                 refine then_normal ?_
                 exact ⟨k_779, Nat.lt_succ_self _, (w64 (i_769 - 1)), H, hst.keep _ ⟨rfl, rfl, rfl, rfl, rfl, rfl, trivial⟩, hsh.pick [0]⟩
               · rw [if_neg c1931] at H
                 replace c1931 := Bool.eq_false_iff.2 c1931
                 refine wq_condF hst rfl c1931 ?_
                 refine wq_exit ?_
                 refine then_exit ?_
                 refine then_exit ?_
                 refine block_hit ?_
                 refine then_normal ?_
                 exact ⟨i_769, H, hst.keep _ ⟨rfl, rfl, rfl, rfl, rfl, rfl, trivial⟩, hsh.pick [0]⟩
             · intro hj
               by_cases c1925 : (decide (i_20 ≤ i_769)) = true
               · rw [if_pos c1925] at H
                 refine q_t hst (wt_of 49 rfl rfl c1925) rfl (fun _ hsh => x_move hst rfl) ?_; intro a hst
                 refine q_t hst (wt_of 49 rfl rfl c1925) rfl (fun _ hsh => x_move hst rfl) ?_; intro a hst
                 obtain ⟨x1932, hx1932, H⟩ := Option.bind_eq_some_iff.1 H
                 refine q_t hst (wt_of 49 rfl rfl c1925) rfl (fun _ hsh => x_indexAddr hst Try.underlying35 el_23 rfl rfl (hsh.row 0 rfl) hx1932) ?_; intro a hst
                 refine q_t hst (wt_of 49 rfl rfl c1925) rfl (fun _ hsh => x_loadEF (j := 0) (cs := [.int .u64 x1932]) hst sc_23 rfl (hsh.row 0 rfl) (Same.refl _ _) hx1932 rfl (fun _ h => h) rfl) ?_; intro a hst
                 refine q_t hst (wt_of 49 rfl rfl c1925) rfl (fun _ hsh => x_move hst rfl) ?_; intro a hst
                 refine q_t hst (wt_of 49 rfl rfl c1925) rfl (fun _ hsh => x_move hst rfl) ?_; intro a hst
                 obtain ⟨x1933, hx1933, H⟩ := Option.bind_eq_some_iff.1 H
                 refine q_t hst (wt_of 49 rfl rfl c1925) rfl (fun _ hsh => x_indexAddr hst Try.underlying35 el_23 rfl rfl (hsh.row 0 rfl) hx1933) ?_; intro a hst
                 refine q_t hst (wt_of 49 rfl rfl c1925) rfl (fun _ hsh => x_loadEF (j := 0) (cs := [.int .u64 x1933]) hst sc_23 rfl (hsh.row 0 rfl) (Same.refl _ _) hx1933 rfl (fun _ h => h) rfl) ?_; intro a hst
                 obtain ⟨r1934, hr1934, H⟩ := Option.bind_eq_some_iff.1 H
                 refine q_call hst (wt_of 49 rfl rfl c1925) rfl fn_51 rfl (fun w9 hsh => cmp_Less_uint64.calls _ x1932 x1933 r1934 hr1934) ?_; intro a hst
                 refine q_t hst (wt_of 49 rfl rfl c1925) rfl (fun _ hsh => x_notB hst rfl) ?_; intro a hst
                 refine q_t hst trivial rfl (fun _ hsh => x_pickT hst rfl c1925 rfl) ?_; intro a hst
                 exact hj _ ⟨(!r1934), H, hst.keep _ ⟨rfl, rfl, rfl, rfl, rfl, rfl, rfl, trivial⟩⟩
               · rw [if_neg c1925] at H
                 replace c1925 := Bool.eq_false_iff.2 c1925
                 refine q_not hst 49 rfl rfl c1925 rfl ?_; intro a hst
                 refine q_not hst 49 rfl rfl c1925 rfl ?_; intro a hst
                 refine q_not hst 49 rfl rfl c1925 rfl ?_; intro a hst
                 refine q_not hst 49 rfl rfl c1925 rfl ?_; intro a hst
                 refine q_not hst 49 rfl rfl c1925 rfl ?_; intro a hst
                 refine q_not hst 49 rfl rfl c1925 rfl ?_; intro a hst
                 refine q_not hst 49 rfl rfl c1925 rfl ?_; intro a hst
                 refine q_not hst 49 rfl rfl c1925 rfl ?_; intro a hst
                 refine q_not hst 49 rfl rfl c1925 rfl ?_; intro a hst
                 refine q_not hst 49 rfl rfl c1925 rfl ?_; intro a hst
                 refine q_t hst trivial rfl (fun _ hsh => x_pickF hst rfl c1925 rfl) ?_; intro a hst
                 exact hj _ ⟨false, H, hst.keep _ ⟨rfl, rfl, rfl, rfl, rfl, rfl, rfl, trivial⟩⟩
    · intro hj
      by_cases c89 : (decide (i_20 ≤ i_21)) = true
      · rw [if_pos c89] at H
        refine q_t hst (wt_of 33 rfl rfl c89) rfl (fun _ hsh => x_move hst rfl) ?_; intro a hst
        refine q_t hst (wt_of 33 rfl rfl c89) rfl (fun _ hsh => x_move hst rfl) ?_; intro a hst
        obtain ⟨x1936, hx1936, H⟩ := Option.bind_eq_some_iff.1 H
        refine q_t hst (wt_of 33 rfl rfl c89) rfl (fun _ hsh => x_indexAddr hst Try.underlying35 el_23 rfl rfl (hsh.row 0 rfl) hx1936) ?_; intro a hst
        refine q_t hst (wt_of 33 rfl rfl c89) rfl (fun _ hsh => x_loadEF (j := 0) (cs := [.int .u64 x1936]) hst sc_23 rfl (hsh.row 0 rfl) (Same.refl _ _) hx1936 rfl (fun _ h => h) rfl) ?_; intro a hst
        refine q_t hst (wt_of 33 rfl rfl c89) rfl (fun _ hsh => x_move hst rfl) ?_; intro a hst
        refine q_t hst (wt_of 33 rfl rfl c89) rfl (fun _ hsh => x_move hst rfl) ?_; intro a hst
        obtain ⟨x1937, hx1937, H⟩ := Option.bind_eq_some_iff.1 H
        refine q_t hst (wt_of 33 rfl rfl c89) rfl (fun _ hsh => x_indexAddr hst Try.underlying35 el_23 rfl rfl (hsh.row 0 rfl) hx1937) ?_; intro a hst
        refine q_t hst (wt_of 33 rfl rfl c89) rfl (fun _ hsh => x_loadEF (j := 0) (cs := [.int .u64 x1937]) hst sc_23 rfl (hsh.row 0 rfl) (Same.refl _ _) hx1937 rfl (fun _ h => h) rfl) ?_; intro a hst
        obtain ⟨r1938, hr1938, H⟩ := Option.bind_eq_some_iff.1 H
        refine q_call hst (wt_of 33 rfl rfl c89) rfl fn_51 rfl (fun w9 hsh => cmp_Less_uint64.calls _ x1936 x1937 r1938 hr1938) ?_; intro a hst
        refine q_t hst trivial rfl (fun _ hsh => x_pickT hst rfl c89 rfl) ?_; intro a hst
        exact hj _ ⟨r1938, H, hst.keep _ ⟨rfl, rfl, rfl, rfl, rfl, rfl, rfl, trivial⟩⟩
      · rw [if_neg c89] at H
        replace c89 := Bool.eq_false_iff.2 c89
        refine q_not hst 33 rfl rfl c89 rfl ?_; intro a hst
        refine q_not hst 33 rfl rfl c89 rfl ?_; intro a hst
        refine q_not hst 33 rfl rfl c89 rfl ?_; intro a hst
        refine q_not hst 33 rfl rfl c89 rfl ?_; intro a hst
        refine q_not hst 33 rfl rfl c89 rfl ?_; intro a hst
        refine q_not hst 33 rfl rfl c89 rfl ?_; intro a hst
        refine q_not hst 33 rfl rfl c89 rfl ?_; intro a hst
        refine q_not hst 33 rfl rfl c89 rfl ?_; intro a hst
        refine q_not hst 33 rfl rfl c89 rfl ?_; intro a hst
        refine q_t hst trivial rfl (fun _ hsh => x_pickF hst rfl c89 rfl) ?_; intro a hst
        exact hj _ ⟨false, H, hst.keep _ ⟨rfl, rfl, rfl, rfl, rfl, rfl, rfl, trivial⟩⟩

set_option maxHeartbeats 4000000 in
set_option maxRecDepth 100000 in
theorem slices_pdqsortOrdered_uint64.calls (k : Nat) : ∀ (w : World) (GG : Nat → Prop) (va0 : Value) (a0 : (List Int)) (a1 : Int) (a2 : Int) (a3 : Int) (hsep : Sep GG w [Row (Kd.int .u64) 23 va0 a0]) (r : (List Int)) (h : slices_pdqsortOrdered_uint64 k a0 a1 a2 a3 = some r),
    Calls Try.prog 33 ([va0, .int .i64 a1, .int .i64 a2, .int .i64 a3] : List Value).toArray w fun e w' => e = .returned (.tuple #[]) ∧ SH GG w w' [Row (Kd.int .u64) 23 va0 r] := by
 induction k with
 | zero =>
  intros
  rename_i h
  rw [slices_pdqsortOrdered_uint64] at h
  cases h
 | succ k ih =>
  intro w GG va0 a0 a1 a2 a3 hsep r h
  have H := h
  clear h
  rw [slices_pdqsortOrdered_uint64] at H
  refine calls_enter Try.func33 rfl rfl ?_
  intro a hst
  have hsh := SH.start hsep
  refine wq_seq ?_
  refine wq_region_lit (.inl rfl) ?_
  refine r_t hst trivial rfl (x_assign hst rfl) ?_; intro a hst
  refine wpL_nil ?_
  refine then_normal ?_
  refine wq_seq ?_
  refine wq_region_lit (.inl rfl) ?_
  refine r_t hst trivial rfl (x_assign hst rfl) ?_; intro a hst
  refine wpL_nil ?_
  refine then_normal ?_
  refine wq_block ?_
  refine wq_loop_fuel (fun k_60 a w' => ∃ (l_28 : (List Int)), ∃ (i_29 : Int), ∃ (i_30 : Int), ∃ (i_31 : Int), ∃ (b_32 : Bool), ∃ (b_33 : Bool), slices_pdqsortOrdered_uint64.l0 (fun x0 x1 x2 x3 => slices_pdqsortOrdered_uint64 k x0 x1 x2 x3) k_60 l_28 i_29 i_30 i_31 b_32 b_33 = some r ∧ ST [] Try.f33.ntmps a [(0, va0), (1, .int .i64 i_29), (2, .int .i64 i_30), (3, .int .i64 i_31), (8, .bool b_32), (9, .bool b_33)] ∧ SH GG w w' [Row (Kd.int .u64) 23 va0 l_28]) k ?_ ?_
  · exact ⟨a0, a1, a2, a3, true, true, H, hst.keep _ ⟨rfl, rfl, rfl, rfl, rfl, rfl, trivial⟩, hsh.pick [0]⟩
  · rintro k_60 a W_34 ⟨l_28, i_29, i_30, i_31, b_32, b_33, H, hst, hsh⟩
    cases k_60 with
    | zero => rw [slices_pdqsortOrdered_uint64.l0] at H; cases H
    | succ k_60 =>
     rw [slices_pdqsortOrdered_uint64.l0] at H
     refine wq_block ?_
     refine wq_seq ?_
     refine wq_region_lit (.inl rfl) ?_
     refine r_t hst trivial rfl (x_move hst rfl) ?_; intro a hst
     refine r_t hst trivial rfl (x_move hst rfl) ?_; intro a hst
     refine r_t hst trivial rfl (x_arI (r := w64 (i_30 - i_29)) hst rfl rfl rfl) ?_; intro a hst
     refine r_t hst trivial rfl (x_assign hst rfl) ?_; intro a hst
     refine wpL_nil ?_
     refine then_normal ?_
     refine wq_seq ?_
     refine wq_seq ?_
     refine wq_region_lit (.inl rfl) ?_
     refine r_t hst trivial rfl (x_move hst rfl) ?_; intro a hst
     refine r_t hst trivial rfl (x_cmpI (b := decide ((w64 (i_30 - i_29)) ≤ 12)) hst rfl rfl rfl) ?_; intro a hst
     refine wpL_nil ?_
     refine then_normal ?_
     by_cases c177 : (decide ((w64 (i_30 - i_29)) ≤ 12)) = true
     · rw [if_pos c177] at H
       refine wq_condT hst rfl c177 ?_
       refine wq_seq ?_
       refine wq_region_lit (.inl rfl) ?_
       refine r_t hst trivial rfl (x_move hst rfl) ?_; intro a hst
       refine r_t hst trivial rfl (x_move hst rfl) ?_; intro a hst
       refine r_t hst trivial rfl (x_move hst rfl) ?_; intro a hst
       replace hsh := hsh.pick [0]
       obtain ⟨GG180, hsp, hG, hbx, hfx, hk⟩ := SH.callD (L1 := [Row (Kd.int .u64) 23 va0 l_28]) (L2 := []) hsh
       obtain ⟨r178, hr178, H⟩ := Option.bind_eq_some_iff.1 H
       refine r_callD hst trivial rfl fn_45 rfl (slices_insertionSortOrdered_uint64.calls k_60 _ GG180 _ l_28 i_29 i_30 hsp r178 hr178) ?_
       rintro e w179 ⟨rfl, hc⟩
       replace hsh := hk _ _ hc
       clear hc
       refine ⟨_, rfl, fun a hst => ?_⟩
       refine wpL_nil ?_
       refine then_normal ?_
       refine wq_ret ?_
       refine then_ret ?_
       refine block_ret ?_
       refine then_ret ?_
       refine block_ret ?_
       obtain rfl := Option.some.inj H
       exact ret0 hst rfl ⟨rfl, hsh.pick [0]⟩
     · rw [if_neg c177] at H
       replace c177 := Bool.eq_false_iff.2 c177
       refine wq_condF hst rfl c177 ?_
       refine wq_skip ?_
       refine then_normal ?_
       refine wq_seq ?_
       refine wq_seq ?_
       refine wq_region_lit (.inl rfl) ?_
       refine r_t hst trivial rfl (x_move hst rfl) ?_; intro a hst
       refine r_t hst trivial rfl (x_cmpI (b := (i_31 == 0)) hst rfl rfl rfl) ?_; intro a hst
       refine wpL_nil ?_
       refine then_normal ?_
       by_cases c185 : (i_31 == 0) = true
       · rw [if_pos c185] at H
         refine wq_condT hst rfl c185 ?_
         refine wq_seq ?_
         refine wq_region_lit (.inl rfl) ?_
         refine r_t hst trivial rfl (x_move hst rfl) ?_; intro a hst
         refine r_t hst trivial rfl (x_move hst rfl) ?_; intro a hst
         refine r_t hst trivial rfl (x_move hst rfl) ?_; intro a hst
         replace hsh := hsh.pick [0]
         obtain ⟨GG188, hsp, hG, hbx, hfx, hk⟩ := SH.callD (L1 := [Row (Kd.int .u64) 23 va0 l_28]) (L2 := []) hsh
         obtain ⟨r186, hr186, H⟩ := Option.bind_eq_some_iff.1 H
         refine r_callD hst trivial rfl fn_46 rfl (slices_heapSortOrdered_uint64.calls k_60 _ GG188 _ l_28 i_29 i_30 hsp r186 hr186) ?_
         rintro e w187 ⟨rfl, hc⟩
         replace hsh := hk _ _ hc
         clear hc
         refine ⟨_, rfl, fun a hst => ?_⟩
         refine wpL_nil ?_
         refine then_normal ?_
         refine wq_ret ?_
         refine then_ret ?_
         refine block_ret ?_
         refine then_ret ?_
         refine block_ret ?_
         obtain rfl := Option.some.inj H
         exact ret0 hst rfl ⟨rfl, hsh.pick [0]⟩
       · rw [if_neg c185] at H
         replace c185 := Bool.eq_false_iff.2 c185
         refine wq_condF hst rfl c185 ?_
         refine wq_skip ?_
         refine then_normal ?_
         obtain ⟨J_64, hJ_64, H⟩ := Jn.elim H
         refine wq_cut (fun a w' => ∃ (l_61 : (List Int)), ∃ (i_62 : Int), J_64 l_61 i_62 = some r ∧ ST [] Try.f33.ntmps a [(0, va0), (1, .int .i64 i_29), (2, .int .i64 i_30), (3, .int .i64 i_62), (8, .bool b_32), (9, .bool b_33), (10, .int .i64 (w64 (i_30 - i_29)))] ∧ SH GG w w' [Row (Kd.int .u64) 23 va0 l_61]) ?_ ?_
         · rintro a W_63 ⟨l_61, i_62, H, hst, hsh⟩
           subst hJ_64
           dsimp only at H
           refine wq_seq ?_
           refine wq_region_lit (.inl rfl) ?_
           refine r_t hst trivial rfl (x_move hst rfl) ?_; intro a hst
           refine r_t hst trivial rfl (x_move hst rfl) ?_; intro a hst
           refine r_t hst trivial rfl (x_move hst rfl) ?_; intro a hst
           obtain ⟨r193, hr193, H⟩ := Option.bind_eq_some_iff.1 H
           refine r_callD hst trivial rfl fn_48 rfl (slices_choosePivotOrdered_uint64.calls _ _ _ _ (Same.refl _ _) _ (hsh.row 0 rfl) i_29 i_30 r193 hr193) ?_
           rintro e w194 ⟨rfl, hc⟩
           replace hsh := hsh.call0 hc
           clear hc
           refine ⟨_, rfl, fun a hst => ?_⟩
           refine r_t hst trivial rfl (x_move hst rfl) ?_; intro a hst
           refine r_t hst trivial rfl (x_extract hst rfl rfl) ?_; intro a hst
           refine r_t hst trivial rfl (x_extract hst rfl rfl) ?_; intro a hst
           refine r_t hst trivial rfl (x_assign hst rfl) ?_; intro a hst
           refine r_t hst trivial rfl (x_assign hst rfl) ?_; intro a hst
           refine wpL_nil ?_
           refine then_normal ?_
           obtain ⟨J_69, hJ_69, H⟩ := Jn.elim H
           refine wq_cut (fun a w' => ∃ (l_65 : (List Int)), ∃ (i_66 : Int), ∃ (i_67 : Int), J_69 l_65 i_66 i_67 = some r ∧ ST [] Try.f33.ntmps a [(0, va0), (1, .int .i64 i_29), (2, .int .i64 i_30), (3, .int .i64 i_62), (8, .bool b_32), (9, .bool b_33), (10, .int .i64 (w64 (i_30 - i_29))), (11, .int .i64 i_66), (12, .int .i64 i_67)] ∧ SH GG w w' [Row (Kd.int .u64) 23 va0 l_65]) ?_ ?_
           · rintro a W_68 ⟨l_65, i_66, i_67, H, hst, hsh⟩
             subst hJ_69
             dsimp only at H
             obtain ⟨J_72, hJ_72, H⟩ := Jn.elim H
             refine wq_cut (fun a w' => ∃ (l_70 : (List Int)), J_72 l_70 = some r ∧ ST [] Try.f33.ntmps a [(0, va0), (1, .int .i64 i_29), (2, .int .i64 i_30), (3, .int .i64 i_62), (8, .bool b_32), (9, .bool b_33), (10, .int .i64 (w64 (i_30 - i_29))), (11, .int .i64 i_66)] ∧ SH GG w w' [Row (Kd.int .u64) 23 va0 l_70]) ?_ ?_
             · rintro a W_71 ⟨l_70, H, hst, hsh⟩
               subst hJ_72
               dsimp only at H
               refine wq_seq ?_
               refine wq_seq ?_
               refine wq_region_q (.inl rfl) (fun w' => SH GG w w' [Row (Kd.int .u64) 23 va0 l_70]) (shut_sh _ _ _) hsh.drew fo (by kernel_rfl) ?_
               refine q_t hst trivial rfl (fun _ hsh => x_move hst rfl) ?_; intro a hst
               refine q_t hst trivial rfl (fun _ hsh => x_cmpI (b := decide (0 < i_29)) hst rfl rfl rfl) ?_; intro a hst
               refine q_t hst trivial rfl (fun _ hsh => x_move hst rfl) ?_; intro a hst
               obtain ⟨J_77, hJ_77, H⟩ := Jn.elim H
               refine q_join 15 (fun a => ∃ (b_76 : Bool), J_77 b_76 = some r ∧ ST [] Try.f33.ntmps a [(0, va0), (1, .int .i64 i_29), (2, .int .i64 i_30), (3, .int .i64 i_62), (8, .bool b_32), (9, .bool b_33), (10, .int .i64 (w64 (i_30 - i_29))), (11, .int .i64 i_66), (87, .bool b_76)]) ?_ ?_
               · rintro a ⟨b_76, H, hst⟩
                 subst hJ_77
                 dsimp only at H
                 refine q_nil ?_
                 intro w225 hsh
                 refine then_normal ?_
                 by_cases c226 : b_76 = true
                 · rw [if_pos c226] at H
                   refine wq_condT hst rfl c226 ?_
                   refine wq_seq ?_
                   refine wq_region_lit (.inl rfl) ?_
                   refine r_t hst trivial rfl (x_move hst rfl) ?_; intro a hst
                   refine r_t hst trivial rfl (x_move hst rfl) ?_; intro a hst
                   refine r_t hst trivial rfl (x_move hst rfl) ?_; intro a hst
                   refine r_t hst trivial rfl (x_move hst rfl) ?_; intro a hst
                   replace hsh := hsh.pick [0]
                   obtain ⟨GG229, hsp, hG, hbx, hfx, hk⟩ := SH.callD (L1 := [Row (Kd.int .u64) 23 va0 l_70]) (L2 := []) hsh
                   obtain ⟨r227, hr227, H⟩ := Option.bind_eq_some_iff.1 H
                   refine r_callD hst trivial rfl fn_52 rfl (slices_partitionEqualOrdered_uint64.calls k_60 _ GG229 _ l_70 i_29 i_30 i_66 hsp r227 hr227) ?_
                   rintro e w228 ⟨rfl, hc⟩
                   replace hsh := hk _ _ hc
                   clear hc
                   refine ⟨_, rfl, fun a hst => ?_⟩
                   refine r_t hst trivial rfl (x_assign hst rfl) ?_; intro a hst
                   refine wpL_nil ?_
                   refine then_normal ?_
                   refine wq_seq ?_
                   refine wq_region_lit (.inl rfl) ?_
                   refine r_t hst trivial rfl (x_move hst rfl) ?_; intro a hst
                   refine r_t hst trivial rfl (x_assign hst rfl) ?_; intro a hst
                   refine wpL_nil ?_
                   refine then_normal ?_
                   refine wq_exit ?_
                   refine then_exit ?_
                   refine block_hit ?_
                   refine then_normal ?_
                   exact ⟨k_60, Nat.lt_succ_self _, r227.2, r227.1, i_30, i_62, b_32, b_33, H, hst.keep _ ⟨rfl, rfl, rfl, rfl, rfl, rfl, trivial⟩, hsh.pick [0]⟩
                 · rw [if_neg c226] at H
                   replace c226 := Bool.eq_false_iff.2 c226
                   refine wq_condF hst rfl c226 ?_
                   refine wq_skip ?_
                   refine then_normal ?_
                   refine wq_seq ?_
                   refine wq_region_lit (.inl rfl) ?_
                   refine r_t hst trivial rfl (x_move hst rfl) ?_; intro a hst
                   refine r_t hst trivial rfl (x_move hst rfl) ?_; intro a hst
                   refine r_t hst trivial rfl (x_move hst rfl) ?_; intro a hst
                   refine r_t hst trivial rfl (x_move hst rfl) ?_; intro a hst
                   replace hsh := hsh.pick [0]
                   obtain ⟨GG232, hsp, hG, hbx, hfx, hk⟩ := SH.callD (L1 := [Row (Kd.int .u64) 23 va0 l_70]) (L2 := []) hsh
                   obtain ⟨r230, hr230, H⟩ := Option.bind_eq_some_iff.1 H
                   refine r_callD hst trivial rfl fn_53 rfl (slices_partitionOrdered_uint64.calls k_60 _ GG232 _ l_70 i_29 i_30 i_66 hsp r230 hr230) ?_
                   rintro e w231 ⟨rfl, hc⟩
                   replace hsh := hk _ _ hc
                   clear hc
                   refine ⟨_, rfl, fun a hst => ?_⟩
                   refine r_t hst trivial rfl (x_move hst rfl) ?_; intro a hst
                   refine r_t hst trivial rfl (x_extract hst rfl rfl) ?_; intro a hst
                   refine r_t hst trivial rfl (x_extract hst rfl rfl) ?_; intro a hst
                   refine r_t hst trivial rfl (x_assign hst rfl) ?_; intro a hst
                   refine r_t hst trivial rfl (x_assign hst rfl) ?_; intro a hst
                   refine wpL_nil ?_
                   refine then_normal ?_
                   refine wq_seq ?_
                   refine wq_region_lit (.inl rfl) ?_
                   refine r_t hst trivial rfl (x_move hst rfl) ?_; intro a hst
                   refine r_t hst trivial rfl (x_assign hst rfl) ?_; intro a hst
                   refine wpL_nil ?_
                   refine then_normal ?_
                   refine wq_seq ?_
                   refine wq_region_lit (.inl rfl) ?_
                   refine r_t hst trivial rfl (x_move hst rfl) ?_; intro a hst
                   refine r_t hst trivial rfl (x_move hst rfl) ?_; intro a hst
                   refine r_t hst trivial rfl (x_arI (r := w64 (r230.1 - i_29)) hst rfl rfl rfl) ?_; intro a hst
                   refine r_t hst trivial rfl (x_move hst rfl) ?_; intro a hst
                   refine r_t hst trivial rfl (x_move hst rfl) ?_; intro a hst
                   refine r_t hst trivial rfl (x_arI (r := w64 (i_30 - r230.1)) hst rfl rfl rfl) ?_; intro a hst
                   refine r_t hst trivial rfl (x_assign hst rfl) ?_; intro a hst
                   refine r_t hst trivial rfl (x_assign hst rfl) ?_; intro a hst
                   refine wpL_nil ?_
                   refine then_normal ?_
                   refine wq_seq ?_
                   refine wq_region_lit (.inl rfl) ?_
                   refine r_t hst trivial rfl (x_move hst rfl) ?_; intro a hst
                   refine r_t hst trivial rfl (x_quo hst rfl rfl (by decide)) ?_; intro a hst
                   refine r_t hst trivial rfl (x_assign hst rfl) ?_; intro a hst
                   refine wpL_nil ?_
                   refine then_normal ?_
                   refine wq_seq ?_
                   refine wq_region_lit (.inl rfl) ?_
                   refine r_t hst trivial rfl (x_move hst rfl) ?_; intro a hst
                   refine r_t hst trivial rfl (x_move hst rfl) ?_; intro a hst
                   refine r_t hst trivial rfl (x_cmpI (b := decide ((w64 (r230.1 - i_29)) < (w64 (i_30 - r230.1)))) hst rfl rfl rfl) ?_; intro a hst
                   refine wpL_nil ?_
                   refine then_normal ?_
                   by_cases c233 : (decide ((w64 (r230.1 - i_29)) < (w64 (i_30 - r230.1)))) = true
                   · rw [if_pos c233] at H
                     refine wq_condT hst rfl c233 ?_
                     refine wq_seq ?_
                     refine wq_region_lit (.inl rfl) ?_
                     refine r_t hst trivial rfl (x_move hst rfl) ?_; intro a hst
                     refine r_t hst trivial rfl (x_move hst rfl) ?_; intro a hst
                     refine r_t hst trivial rfl (x_cmpI (b := decide ((w64 (Int.tdiv (w64 (i_30 - i_29)) 8)) ≤ (w64 (r230.1 - i_29)))) hst rfl rfl rfl) ?_; intro a hst
                     refine r_t hst trivial rfl (x_assign hst rfl) ?_; intro a hst
                     refine wpL_nil ?_
                     refine then_normal ?_
                     refine wq_seq ?_
                     refine wq_region_lit (.inl rfl) ?_
                     refine r_t hst trivial rfl (x_move hst rfl) ?_; intro a hst
                     refine r_t hst trivial rfl (x_move hst rfl) ?_; intro a hst
                     refine r_t hst trivial rfl (x_move hst rfl) ?_; intro a hst
                     refine r_t hst trivial rfl (x_move hst rfl) ?_; intro a hst
                     replace hsh := hsh.pick [0]
                     obtain ⟨GG236, hsp, hG, hbx, hfx, hk⟩ := SH.callD (L1 := [Row (Kd.int .u64) 23 va0 r230.2.2]) (L2 := []) hsh
                     obtain ⟨r234, hr234, H⟩ := Option.bind_eq_some_iff.1 H
                     refine r_callD hst trivial rfl fn_33 rfl (ih _ GG236 _ r230.2.2 i_29 r230.1 i_62 hsp r234 hr234) ?_
                     rintro e w235 ⟨rfl, hc⟩
                     replace hsh := hk _ _ hc
                     clear hc
                     refine ⟨_, rfl, fun a hst => ?_⟩
                     refine wpL_nil ?_
                     refine then_normal ?_
                     refine wq_region_lit (.inl rfl) ?_
                     refine r_t hst trivial rfl (x_move hst rfl) ?_; intro a hst
                     refine r_t hst trivial rfl (x_arI (r := w64 (r230.1 + 1)) hst rfl rfl rfl) ?_; intro a hst
                     refine r_t hst trivial rfl (x_assign hst rfl) ?_; intro a hst
                     refine wpL_nil ?_
                     refine block_normal ?_
                     refine then_normal ?_
                     exact ⟨k_60, Nat.lt_succ_self _, r234, (w64 (r230.1 + 1)), i_30, i_62, (decide ((w64 (Int.tdiv (w64 (i_30 - i_29)) 8)) ≤ (w64 (r230.1 - i_29)))), r230.2.1, H, hst.keep _ ⟨rfl, rfl, rfl, rfl, rfl, rfl, trivial⟩, hsh.pick [0]⟩
                   · rw [if_neg c233] at H
                     replace c233 := Bool.eq_false_iff.2 c233
                     refine wq_condF hst rfl c233 ?_
                     refine wq_seq ?_
                     refine wq_region_lit (.inl rfl) ?_
                     refine r_t hst trivial rfl (x_move hst rfl) ?_; intro a hst
                     refine r_t hst trivial rfl (x_move hst rfl) ?_; intro a hst
                     refine r_t hst trivial rfl (x_cmpI (b := decide ((w64 (Int.tdiv (w64 (i_30 - i_29)) 8)) ≤ (w64 (i_30 - r230.1)))) hst rfl rfl rfl) ?_; intro a hst
                     refine r_t hst trivial rfl (x_assign hst rfl) ?_; intro a hst
                     refine wpL_nil ?_
                     refine then_normal ?_
                     refine wq_seq ?_
                     refine wq_region_lit (.inl rfl) ?_
                     refine r_t hst trivial rfl (x_move hst rfl) ?_; intro a hst
                     refine r_t hst trivial rfl (x_move hst rfl) ?_; intro a hst
                     refine r_t hst trivial rfl (x_arI (r := w64 (r230.1 + 1)) hst rfl rfl rfl) ?_; intro a hst
                     refine r_t hst trivial rfl (x_move hst rfl) ?_; intro a hst
                     refine r_t hst trivial rfl (x_move hst rfl) ?_; intro a hst
                     replace hsh := hsh.pick [0]
                     obtain ⟨GG239, hsp, hG, hbx, hfx, hk⟩ := SH.callD (L1 := [Row (Kd.int .u64) 23 va0 r230.2.2]) (L2 := []) hsh
                     obtain ⟨r237, hr237, H⟩ := Option.bind_eq_some_iff.1 H
                     refine r_callD hst trivial rfl fn_33 rfl (ih _ GG239 _ r230.2.2 (w64 (r230.1 + 1)) i_30 i_62 hsp r237 hr237) ?_
                     rintro e w238 ⟨rfl, hc⟩
                     replace hsh := hk _ _ hc
                     clear hc
                     refine ⟨_, rfl, fun a hst => ?_⟩
                     refine wpL_nil ?_
                     refine then_normal ?_
                     refine wq_region_lit (.inl rfl) ?_
                     refine r_t hst trivial rfl (x_move hst rfl) ?_; intro a hst
                     refine r_t hst trivial rfl (x_assign hst rfl) ?_; intro a hst
                     refine wpL_nil ?_
                     refine block_normal ?_
                     refine then_normal ?_
                     exact ⟨k_60, Nat.lt_succ_self _, r237, i_29, r230.1, i_62, (decide ((w64 (Int.tdiv (w64 (i_30 - i_29)) 8)) ≤ (w64 (i_30 - r230.1)))), r230.2.1, H, hst.keep _ ⟨rfl, rfl, rfl, rfl, rfl, rfl, trivial⟩, hsh.pick [0]⟩
               · intro hj
                 by_cases c220 : (decide (0 < i_29)) = true
                 · rw [if_pos c220] at H
                   refine q_t hst (wt_of 75 rfl rfl c220) rfl (fun _ hsh => x_move hst rfl) ?_; intro a hst
                   refine q_t hst (wt_of 75 rfl rfl c220) rfl (fun _ hsh => x_move hst rfl) ?_; intro a hst
                   refine q_t hst (wt_of 75 rfl rfl c220) rfl (fun _ hsh => x_arI (r := w64 (i_29 - 1)) hst rfl rfl rfl) ?_; intro a hst
                   obtain ⟨x240, hx240, H⟩ := Option.bind_eq_some_iff.1 H
                   refine q_t hst (wt_of 75 rfl rfl c220) rfl (fun _ hsh => x_indexAddr hst Try.underlying35 el_23 rfl rfl (hsh.row 0 rfl) hx240) ?_; intro a hst
                   refine q_t hst (wt_of 75 rfl rfl c220) rfl (fun _ hsh => x_loadEF (j := 0) (cs := [.int .u64 x240]) hst sc_23 rfl (hsh.row 0 rfl) (Same.refl _ _) hx240 rfl (fun _ h => h) rfl) ?_; intro a hst
                   refine q_t hst (wt_of 75 rfl rfl c220) rfl (fun _ hsh => x_move hst rfl) ?_; intro a hst
                   refine q_t hst (wt_of 75 rfl rfl c220) rfl (fun _ hsh => x_move hst rfl) ?_; intro a hst
                   obtain ⟨x241, hx241, H⟩ := Option.bind_eq_some_iff.1 H
                   refine q_t hst (wt_of 75 rfl rfl c220) rfl (fun _ hsh => x_indexAddr hst Try.underlying35 el_23 rfl rfl (hsh.row 0 rfl) hx241) ?_; intro a hst
                   refine q_t hst (wt_of 75 rfl rfl c220) rfl (fun _ hsh => x_loadEF (j := 0) (cs := [.int .u64 x241]) hst sc_23 rfl (hsh.row 0 rfl) (Same.refl _ _) hx241 rfl (fun _ h => h) rfl) ?_; intro a hst
                   obtain ⟨r242, hr242, H⟩ := Option.bind_eq_some_iff.1 H
                   refine q_call hst (wt_of 75 rfl rfl c220) rfl fn_51 rfl (fun w9 hsh => cmp_Less_uint64.calls _ x240 x241 r242 hr242) ?_; intro a hst
                   refine q_t hst (wt_of 75 rfl rfl c220) rfl (fun _ hsh => x_notB hst rfl) ?_; intro a hst
                   refine q_t hst trivial rfl (fun _ hsh => x_pickT hst rfl c220 rfl) ?_; intro a hst
                   exact hj _ ⟨(!r242), H, hst.keep _ ⟨rfl, rfl, rfl, rfl, rfl, rfl, rfl, rfl, rfl, trivial⟩⟩
                 · rw [if_neg c220] at H
                   replace c220 := Bool.eq_false_iff.2 c220
                   refine q_not hst 75 rfl rfl c220 rfl ?_; intro a hst
                   refine q_not hst 75 rfl rfl c220 rfl ?_; intro a hst
                   refine q_not hst 75 rfl rfl c220 rfl ?_; intro a hst
                   refine q_not hst 75 rfl rfl c220 rfl ?_; intro a hst
                   refine q_not hst 75 rfl rfl c220 rfl ?_; intro a hst
                   refine q_not hst 75 rfl rfl c220 rfl ?_; intro a hst
                   refine q_not hst 75 rfl rfl c220 rfl ?_; intro a hst
                   refine q_not hst 75 rfl rfl c220 rfl ?_; intro a hst
                   refine q_not hst 75 rfl rfl c220 rfl ?_; intro a hst
                   refine q_not hst 75 rfl rfl c220 rfl ?_; intro a hst
                   refine q_not hst 75 rfl rfl c220 rfl ?_; intro a hst
                   refine q_t hst trivial rfl (fun _ hsh => x_pickF hst rfl c220 rfl) ?_; intro a hst
                   exact hj _ ⟨false, H, hst.keep _ ⟨rfl, rfl, rfl, rfl, rfl, rfl, rfl, rfl, rfl, trivial⟩⟩
             · refine wq_seq ?_
               refine wq_region_lit (.inl rfl) ?_
               refine r_t hst trivial rfl (x_move hst rfl) ?_; intro a hst
               refine r_t hst trivial rfl (x_move hst rfl) ?_; intro a hst
               refine wl_join0 (Δ := []) (N := Try.f33.ntmps) 4 [(0, va0), (1, .int .i64 i_29), (2, .int .i64 i_30), (3, .int .i64 i_62), (8, .bool b_32), (9, .bool b_33), (10, .int .i64 (w64 (i_30 - i_29))), (11, .int .i64 i_66), (12, .int .i64 i_67), (64, .bool (b_32 && b_33))] ?_ ?_
               · intro a hst
                 refine r_t hst trivial rfl (x_move hst rfl) ?_; intro a hst
                 refine wl_join0 (Δ := []) (N := Try.f33.ntmps) 8 [(0, va0), (1, .int .i64 i_29), (2, .int .i64 i_30), (3, .int .i64 i_62), (8, .bool b_32), (9, .bool b_33), (10, .int .i64 (w64 (i_30 - i_29))), (11, .int .i64 i_66), (68, .bool ((b_32 && b_33) && (i_67 == 1)))] ?_ ?_
                 · intro a hst
                   refine wpL_nil ?_
                   refine then_normal ?_
                   by_cases c246 : ((b_32 && b_33) && (i_67 == 1)) = true
                   · rw [if_pos c246] at H
                     refine wq_condT hst rfl c246 ?_
                     refine wq_seq ?_
                     refine wq_region_lit (.inl rfl) ?_
                     refine r_t hst trivial rfl (x_move hst rfl) ?_; intro a hst
                     refine r_t hst trivial rfl (x_move hst rfl) ?_; intro a hst
                     refine r_t hst trivial rfl (x_move hst rfl) ?_; intro a hst
                     replace hsh := hsh.pick [0]
                     obtain ⟨GG249, hsp, hG, hbx, hfx, hk⟩ := SH.callD (L1 := [Row (Kd.int .u64) 23 va0 l_65]) (L2 := []) hsh
                     obtain ⟨r247, hr247, H⟩ := Option.bind_eq_some_iff.1 H
                     refine r_callD hst trivial rfl fn_50 rfl (slices_partialInsertionSortOrdered_uint64.calls k_60 _ GG249 _ l_65 i_29 i_30 hsp r247 hr247) ?_
                     rintro e w248 ⟨rfl, hc⟩
                     replace hsh := hk _ _ hc
                     clear hc
                     refine ⟨_, rfl, fun a hst => ?_⟩
                     refine wpL_nil ?_
                     refine then_normal ?_
                     by_cases c250 : r247.1 = true
                     · rw [if_pos c250] at H
                       refine wq_condT hst rfl c250 ?_
                       refine wq_ret ?_
                       refine then_ret ?_
                       refine block_ret ?_
                       refine then_ret ?_
                       refine block_ret ?_
                       obtain rfl := Option.some.inj H
                       exact ret0 hst rfl ⟨rfl, hsh.pick [0]⟩
                     · rw [if_neg c250] at H
                       replace c250 := Bool.eq_false_iff.2 c250
                       refine wq_condF hst rfl c250 ?_
                       refine wq_skip ?_
                       refine then_normal ?_
                       exact ⟨r247.2, H, hst.keep _ ⟨rfl, rfl, rfl, rfl, rfl, rfl, rfl, rfl, trivial⟩, hsh.pick [0]⟩
                   · rw [if_neg c246] at H
                     replace c246 := Bool.eq_false_iff.2 c246
                     refine wq_condF hst rfl c246 ?_
                     refine wq_skip ?_
                     refine then_normal ?_
                     exact ⟨l_65, H, hst.keep _ ⟨rfl, rfl, rfl, rfl, rfl, rfl, rfl, rfl, trivial⟩, hsh.pick [0]⟩
                 · intro hj
                   by_cases c245 : (b_32 && b_33) = true
                   · refine r_t hst (wt_of 65 rfl rfl c245) rfl (x_move hst rfl) ?_; intro a hst
                     refine r_t hst (wt_of 65 rfl rfl c245) rfl (x_cmpI (b := (i_67 == 1)) hst rfl rfl rfl) ?_; intro a hst
                     refine r_t hst trivial rfl (x_andT hst rfl c245 rfl) ?_; intro a hst
                     exact hj _ (hst.keep _ ⟨rfl, rfl, rfl, rfl, rfl, rfl, rfl, rfl, rfl, trivial⟩)
                   · replace c245 := Bool.eq_false_iff.2 c245
                     refine r_not hst 65 rfl rfl c245 rfl ?_; intro a hst
                     refine r_not hst 65 rfl rfl c245 rfl ?_; intro a hst
                     refine r_t hst trivial rfl (x_andF (i_67 == 1) hst rfl c245 rfl) ?_; intro a hst
                     exact hj _ (hst.keep _ ⟨rfl, rfl, rfl, rfl, rfl, rfl, rfl, rfl, rfl, trivial⟩)
               · intro hj
                 by_cases c244 : b_32 = true
                 · refine r_t hst (wt_of 62 rfl rfl c244) rfl (x_move hst rfl) ?_; intro a hst
                   refine r_t hst trivial rfl (x_andT hst rfl c244 rfl) ?_; intro a hst
                   exact hj _ (hst.keep _ ⟨rfl, rfl, rfl, rfl, rfl, rfl, rfl, rfl, rfl, rfl, trivial⟩)
                 · replace c244 := Bool.eq_false_iff.2 c244
                   refine r_not hst 62 rfl rfl c244 rfl ?_; intro a hst
                   refine r_t hst trivial rfl (x_andF b_33 hst rfl c244 rfl) ?_; intro a hst
                   exact hj _ (hst.keep _ ⟨rfl, rfl, rfl, rfl, rfl, rfl, rfl, rfl, rfl, rfl, trivial⟩)
           · refine wq_seq ?_
             refine wq_region_lit (.inl rfl) ?_
             refine r_t hst trivial rfl (x_move hst rfl) ?_; intro a hst
             refine r_t hst trivial rfl (x_cmpI (b := (r193.2 == 2)) hst rfl rfl rfl) ?_; intro a hst
             refine wpL_nil ?_
             refine then_normal ?_
             by_cases c251 : (r193.2 == 2) = true
             · rw [if_pos c251] at H
               refine wq_condT hst rfl c251 ?_
               refine wq_seq ?_
               refine wq_region_lit (.inl rfl) ?_
               refine r_t hst trivial rfl (x_move hst rfl) ?_; intro a hst
               refine r_t hst trivial rfl (x_move hst rfl) ?_; intro a hst
               refine r_t hst trivial rfl (x_move hst rfl) ?_; intro a hst
               replace hsh := hsh.pick [0]
               obtain ⟨GG254, hsp, hG, hbx, hfx, hk⟩ := SH.callD (L1 := [Row (Kd.int .u64) 23 va0 l_61]) (L2 := []) hsh
               obtain ⟨r252, hr252, H⟩ := Option.bind_eq_some_iff.1 H
               refine r_callD hst trivial rfl fn_49 rfl (slices_reverseRangeOrdered_uint64.calls k_60 _ GG254 _ l_61 i_29 i_30 hsp r252 hr252) ?_
               rintro e w253 ⟨rfl, hc⟩
               replace hsh := hk _ _ hc
               clear hc
               refine ⟨_, rfl, fun a hst => ?_⟩
               refine wpL_nil ?_
               refine then_normal ?_
               refine wq_seq ?_
               refine wq_region_lit (.inl rfl) ?_
               refine r_t hst trivial rfl (x_move hst rfl) ?_; intro a hst
               refine r_t hst trivial rfl (x_arI (r := w64 (i_30 - 1)) hst rfl rfl rfl) ?_; intro a hst
               refine r_t hst trivial rfl (x_move hst rfl) ?_; intro a hst
               refine r_t hst trivial rfl (x_move hst rfl) ?_; intro a hst
               refine r_t hst trivial rfl (x_arI (r := w64 (r193.1 - i_29)) hst rfl rfl rfl) ?_; intro a hst
               refine r_t hst trivial rfl (x_arI (r := w64 ((w64 (i_30 - 1)) - (w64 (r193.1 - i_29)))) hst rfl rfl rfl) ?_; intro a hst
               refine r_t hst trivial rfl (x_assign hst rfl) ?_; intro a hst
               refine wpL_nil ?_
               refine then_normal ?_
               refine wq_region_lit (.inl rfl) ?_
               refine r_t hst trivial rfl (x_assign hst rfl) ?_; intro a hst
               refine wpL_nil ?_
               refine then_normal ?_
               exact ⟨r252, (w64 ((w64 (i_30 - 1)) - (w64 (r193.1 - i_29)))), 1, H, hst.keep _ ⟨rfl, rfl, rfl, rfl, rfl, rfl, rfl, rfl, rfl, trivial⟩, hsh.pick [0]⟩
             · rw [if_neg c251] at H
               replace c251 := Bool.eq_false_iff.2 c251
               refine wq_condF hst rfl c251 ?_
               refine wq_skip ?_
               refine then_normal ?_
               exact ⟨l_61, r193.1, r193.2, H, hst.keep _ ⟨rfl, rfl, rfl, rfl, rfl, rfl, rfl, rfl, rfl, trivial⟩, hsh.pick [0]⟩
         · refine wq_seq ?_
           refine wq_region_lit (.inl rfl) ?_
           refine r_t hst trivial rfl (x_move hst rfl) ?_; intro a hst
           refine r_t hst trivial rfl (x_notB hst rfl) ?_; intro a hst
           refine wpL_nil ?_
           refine then_normal ?_
           by_cases c255 : (!b_32) = true
           · rw [if_pos c255] at H
             refine wq_condT hst rfl c255 ?_
             refine wq_seq ?_
             refine wq_region_lit (.inl rfl) ?_
             refine r_t hst trivial rfl (x_move hst rfl) ?_; intro a hst
             refine r_t hst trivial rfl (x_move hst rfl) ?_; intro a hst
             refine r_t hst trivial rfl (x_move hst rfl) ?_; intro a hst
             replace hsh := hsh.pick [0]
             obtain ⟨GG258, hsp, hG, hbx, hfx, hk⟩ := SH.callD (L1 := [Row (Kd.int .u64) 23 va0 l_28]) (L2 := []) hsh
             obtain ⟨r256, hr256, H⟩ := Option.bind_eq_some_iff.1 H
             refine r_callD hst trivial rfl fn_47 rfl (slices_breakPatternsOrdered_uint64.calls k_60 _ GG258 _ l_28 i_29 i_30 hsp r256 hr256) ?_
             rintro e w257 ⟨rfl, hc⟩
             replace hsh := hk _ _ hc
             clear hc
             refine ⟨_, rfl, fun a hst => ?_⟩
             refine wpL_nil ?_
             refine then_normal ?_
             refine wq_region_lit (.inl rfl) ?_
             refine r_t hst trivial rfl (x_move hst rfl) ?_; intro a hst
             refine r_t hst trivial rfl (x_arI (r := w64 (i_31 - 1)) hst rfl rfl rfl) ?_; intro a hst
             refine r_t hst trivial rfl (x_assign hst rfl) ?_; intro a hst
             refine wpL_nil ?_
             refine then_normal ?_
             exact ⟨r256, (w64 (i_31 - 1)), H, hst.keep _ ⟨rfl, rfl, rfl, rfl, rfl, rfl, rfl, trivial⟩, hsh.pick [0]⟩
           · rw [if_neg c255] at H
             replace c255 := Bool.eq_false_iff.2 c255
             refine wq_condF hst rfl c255 ?_
             refine wq_skip ?_
             refine then_normal ?_
             exact ⟨l_28, i_31, H, hst.keep _ ⟨rfl, rfl, rfl, rfl, rfl, rfl, rfl, trivial⟩, hsh.pick [0]⟩

set_option maxHeartbeats 4000000 in
set_option maxRecDepth 100000 in
theorem slices_Sort_uint64.calls (k : Nat) (w : World) (GG : Nat → Prop) (va0 : Value) (a0 : (List Int)) (hsep : Sep GG w [Row (Kd.int .u64) 23 va0 a0]) (r : (List Int)) (h : slices_Sort_uint64 k a0 = some r) :
    Calls Try.prog 29 ([va0] : List Value).toArray w fun e w' => e = .returned (.tuple #[]) ∧ SH GG w w' [Row (Kd.int .u64) 23 va0 r] := by
 have H := h
 clear h
 unfold slices_Sort_uint64 at H
 refine calls_enter Try.func29 rfl rfl ?_
 intro a hst
 have hsh := SH.start hsep
 refine wq_seq ?_
 refine wq_region_lit (.inl rfl) ?_
 refine r_t hst trivial rfl (x_move hst rfl) ?_; intro a hst
 refine r_t hst trivial rfl (x_lenSl hst Try.underlying35 rfl (hsh.row 0 rfl).slen) ?_; intro a hst
 refine r_t hst trivial rfl (x_assign hst rfl) ?_; intro a hst
 refine wpL_nil ?_
 refine then_normal ?_
 refine wq_region_lit (.inl rfl) ?_
 refine r_t hst trivial rfl (x_move hst rfl) ?_; intro a hst
 refine r_t hst trivial rfl (x_move hst rfl) ?_; intro a hst
 refine r_t hst trivial rfl (x_move hst rfl) ?_; intro a hst
 refine r_t hst trivial rfl (x_convI hst Try.underlying3 Try.underlying67 rfl) ?_; intro a hst
 obtain ⟨r1, hr1, H⟩ := Option.bind_eq_some_iff.1 H
 refine r_callD hst trivial rfl fn_32 rfl (math_bits_Len.calls _ (wu64 (a0.length : Int)) r1 hr1) ?_
 rintro e w2 ⟨rfl, hc⟩
 replace hsh := hsh.call0 hc
 clear hc
 refine ⟨_, rfl, fun a hst => ?_⟩
 replace hsh := hsh.pick [0]
 obtain ⟨GG5, hsp, hG, hbx, hfx, hk⟩ := SH.callD (L1 := [Row (Kd.int .u64) 23 va0 a0]) (L2 := []) hsh
 obtain ⟨r3, hr3, H⟩ := Option.bind_eq_some_iff.1 H
 refine r_callD hst trivial rfl fn_33 rfl (slices_pdqsortOrdered_uint64.calls k _ GG5 _ a0 0 (a0.length : Int) r1 hsp r3 hr3) ?_
 rintro e w4 ⟨rfl, hc⟩
 replace hsh := hk _ _ hc
 clear hc
 refine ⟨_, rfl, fun a hst => ?_⟩
 refine wpL_nil ?_
 obtain rfl := Option.some.inj H
 exact end0 hst rfl ⟨rfl, hsh.pick [0]⟩

set_option maxHeartbeats 4000000 in
set_option maxRecDepth 100000 in
theorem slices_Compact_uint64.calls (k : Nat) (w : World) (GG : Nat → Prop) (va0 : Value) (a0 : (List Int)) (hsep : Sep GG w [Row (Kd.int .u64) 23 va0 a0]) (r : (List Int)) (h : slices_Compact_uint64 k a0 = some r) :
    Calls Try.prog 30 ([va0] : List Value).toArray w fun e w' => ∃ v0_ : Value, e = .returned (v0_) ∧ SH GG w w' [Row (Kd.int .u64) 23 v0_ r] := by
 have H := h
 clear h
 unfold slices_Compact_uint64 at H
 refine calls_enter Try.func30 rfl rfl ?_
 intro a hst
 have hsh := SH.start hsep
 refine wq_seq ?_
 refine wq_region_lit (.inl rfl) ?_
 refine r_t hst trivial rfl (x_assign hst rfl) ?_; intro a hst
 refine wpL_nil ?_
 refine then_normal ?_
 refine wq_seq ?_
 refine wq_seq ?_
 refine wq_region_lit (.inl rfl) ?_
 refine r_t hst trivial rfl (x_move hst rfl) ?_; intro a hst
 refine r_t hst trivial rfl (x_lenSl hst Try.underlying35 rfl (hsh.row 0 rfl).slen) ?_; intro a hst
 refine r_t hst trivial rfl (x_cmpI (b := decide ((a0.length : Int) < 2)) hst rfl rfl rfl) ?_; intro a hst
 refine wpL_nil ?_
 refine then_normal ?_
 by_cases c2 : (decide ((a0.length : Int) < 2)) = true
 · rw [if_pos c2] at H
   refine wq_condT hst rfl c2 ?_
   refine wq_seq ?_
   refine wq_region_lit (.inl rfl) ?_
   refine r_t hst trivial rfl (x_move hst rfl) ?_; intro a hst
   refine r_t hst trivial rfl (x_assign hst rfl) ?_; intro a hst
   refine wpL_nil ?_
   refine then_normal ?_
   refine wq_ret ?_
   refine then_ret ?_
   obtain rfl := Option.some.inj H
   exact ret1 hst rfl rfl ⟨va0, rfl, hsh.pick [0]⟩
 · rw [if_neg c2] at H
   replace c2 := Bool.eq_false_iff.2 c2
   refine wq_condF hst rfl c2 ?_
   refine wq_skip ?_
   refine then_normal ?_
   refine wq_seq ?_
   refine wq_seq ?_
   refine wq_region_lit (.inl rfl) ?_
   refine r_t hst trivial rfl (x_assign hst rfl) ?_; intro a hst
   refine wpL_nil ?_
   refine then_normal ?_
   refine wq_block ?_
   refine wq_loop_fuel (fun k_586 a w' => ∃ (i_468 : Int), slices_Compact_uint64.l0 a0 k_586 i_468 = some r ∧ ST [] Try.f30.ntmps a [(0, va0), (2, (.slice none 0 0)), (3, .int .i64 i_468)] ∧ SH GG w w' [Row (Kd.int .u64) 23 va0 a0]) k ?_ ?_
   · exact ⟨1, H, hst.keep _ ⟨rfl, rfl, rfl, trivial⟩, hsh.pick [0]⟩
   · rintro k_586 a W_469 ⟨i_468, H, hst, hsh⟩
     cases k_586 with
     | zero => rw [slices_Compact_uint64.l0] at H; cases H
     | succ k_586 =>
      rw [slices_Compact_uint64.l0] at H
      refine wq_seq ?_
      refine wq_seq ?_
      refine wq_region_lit (.inl rfl) ?_
      refine r_t hst trivial rfl (x_move hst rfl) ?_; intro a hst
      refine r_t hst trivial rfl (x_move hst rfl) ?_; intro a hst
      refine r_t hst trivial rfl (x_lenSl hst Try.underlying35 rfl (hsh.row 0 rfl).slen) ?_; intro a hst
      refine r_t hst trivial rfl (x_cmpI (b := decide (i_468 < (a0.length : Int))) hst rfl rfl rfl) ?_; intro a hst
      refine wpL_nil ?_
      refine then_normal ?_
      by_cases c1294 : (decide (i_468 < (a0.length : Int))) = true
      · rw [if_pos c1294] at H
        refine wq_condT hst rfl c1294 ?_
        refine wq_skip ?_
        refine then_normal ?_
        obtain ⟨J_644, hJ_644, H⟩ := Jn.elim H
        refine wq_cut (fun a w' => J_644 = some r ∧ ST [] Try.f30.ntmps a [(0, va0), (2, (.slice none 0 0)), (3, .int .i64 i_468)] ∧ SH GG w w' [Row (Kd.int .u64) 23 va0 a0]) ?_ ?_
        · rintro a W_643 ⟨H, hst, hsh⟩
          subst hJ_644
          refine wq_region_lit (.inl rfl) ?_
          refine r_t hst trivial rfl (x_move hst rfl) ?_; intro a hst
          refine r_t hst trivial rfl (x_arI (r := w64 (i_468 + 1)) hst rfl rfl rfl) ?_; intro a hst
          refine r_t hst trivial rfl (x_assign hst rfl) ?_; intro a hst
          refine wpL_nil ?_
          refine then_normal ?_
          exact ⟨k_586, Nat.lt_succ_self _, (w64 (i_468 + 1)), H, hst.keep _ ⟨rfl, rfl, rfl, trivial⟩, hsh.pick [0]⟩
        · refine wq_block ?_
          refine wq_seq ?_
          refine wq_region_q (.inl rfl) (fun w' => SH GG w w' [Row (Kd.int .u64) 23 va0 a0]) (shut_sh _ _ _) hsh.drew fo (by kernel_rfl) ?_
          refine q_t hst trivial rfl (fun _ hsh => x_move hst rfl) ?_; intro a hst
          refine q_t hst trivial rfl (fun _ hsh => x_move hst rfl) ?_; intro a hst
          obtain ⟨x1423, hx1423, H⟩ := Option.bind_eq_some_iff.1 H
          refine q_t hst trivial rfl (fun _ hsh => x_indexAddr hst Try.underlying35 el_23 rfl rfl (hsh.row 0 rfl) hx1423) ?_; intro a hst
          refine q_t hst trivial rfl (fun _ hsh => x_loadEF (j := 0) (cs := [.int .u64 x1423]) hst sc_23 rfl (hsh.row 0 rfl) (Same.refl _ _) hx1423 rfl (fun _ h => h) rfl) ?_; intro a hst
          refine q_t hst trivial rfl (fun _ hsh => x_move hst rfl) ?_; intro a hst
          refine q_t hst trivial rfl (fun _ hsh => x_move hst rfl) ?_; intro a hst
          refine q_t hst trivial rfl (fun _ hsh => x_arI (r := w64 (i_468 - 1)) hst rfl rfl rfl) ?_; intro a hst
          obtain ⟨x1424, hx1424, H⟩ := Option.bind_eq_some_iff.1 H
          refine q_t hst trivial rfl (fun _ hsh => x_indexAddr hst Try.underlying35 el_23 rfl rfl (hsh.row 0 rfl) hx1424) ?_; intro a hst
          refine q_t hst trivial rfl (fun _ hsh => x_loadEF (j := 0) (cs := [.int .u64 x1424]) hst sc_23 rfl (hsh.row 0 rfl) (Same.refl _ _) hx1424 rfl (fun _ h => h) rfl) ?_; intro a hst
          refine q_t hst trivial rfl (fun _ hsh => x_cmpI (b := (x1423 == x1424)) hst rfl rfl rfl) ?_; intro a hst
          refine q_nil ?_
          intro w1425 hsh
          refine then_normal ?_
          by_cases c1426 : (x1423 == x1424) = true
          · rw [if_pos c1426] at H
            refine wq_condT hst rfl c1426 ?_
            refine wq_seq ?_
            refine wq_region_lit (.inl rfl) ?_
            refine r_t hst trivial rfl (x_move hst rfl) ?_; intro a hst
            refine r_t hst trivial rfl (x_move hst rfl) ?_; intro a hst
            obtain ⟨l1427, hl1427, H⟩ := Option.bind_eq_some_iff.1 H
            refine r_t hst trivial rfl (x_cutL hst Try.underlying35 el_23 rfl rfl (hsh.row 0 rfl) hl1427) ?_; intro a hst
            refine r_t hst trivial rfl (x_assign hst rfl) ?_; intro a hst
            refine wpL_nil ?_
            refine then_normal ?_
            obtain ⟨J_674, hJ_674, H⟩ := Jn.elim H
            refine wq_cut (fun a w' => ∃ (l_671 : (List Int)), ∃ (i_672 : Int), J_674 l_671 i_672 = some r ∧ ST [] Try.f30.ntmps a [(0, va0), (2, (.slice none 0 0)), (3, .int .i64 i_672)] ∧ SH GG w w' [Row (Kd.int .u64) 23 va0 l_671]) ?_ ?_
            · rintro a W_673 ⟨l_671, i_672, H, hst, hsh⟩
              subst hJ_674
              dsimp only at H
              refine wq_seq ?_
              refine wq_region_lit (.inl rfl) ?_
              refine r_t hst trivial rfl (x_move hst rfl) ?_; intro a hst
              refine r_t hst trivial rfl (x_move hst rfl) ?_; intro a hst
              obtain ⟨l1488, hl1488, H⟩ := Option.bind_eq_some_iff.1 H
              refine r_t hst trivial rfl (x_cutL hst Try.underlying35 el_23 rfl rfl (hsh.row 0 rfl) hl1488) ?_; intro a hst
              refine r_clear (i := 0) (z := 0) (zc := [.int .u64 0]) hst hsh trivial Try.underlying35 el_23 zr_23 (by decide) rfl (fun _ _ => rfl) rfl hl1488 ?_; intro a w1489 hsh hst
              refine wpL_nil ?_
              refine then_normal ?_
              refine wq_seq ?_
              refine wq_region_lit (.inl rfl) ?_
              refine r_t hst trivial rfl (x_move hst rfl) ?_; intro a hst
              refine r_t hst trivial rfl (x_move hst rfl) ?_; intro a hst
              obtain ⟨l1490, hl1490, H⟩ := Option.bind_eq_some_iff.1 H
              refine r_t hst trivial rfl (x_cutH hst Try.underlying35 el_23 rfl rfl (hsh.row 0 rfl) hl1490) ?_; intro a hst
              refine r_t hst trivial rfl (x_assign hst rfl) ?_; intro a hst
              refine wpL_nil ?_
              refine then_normal ?_
              refine wq_ret ?_
              refine block_ret ?_
              refine then_ret ?_
              refine then_ret ?_
              refine block_ret ?_
              refine then_ret ?_
              obtain rfl := Option.some.inj H
              replace hsh := hsh.cutRow 0 rfl hl1490
              exact ret1 hst rfl rfl ⟨(cutV va0 (Int.toNat 0) (Int.toNat i_672) (Kd.int .u64).sz), rfl, hsh.pick [0]⟩
            · refine wq_seq ?_
              refine wq_region_lit (.inl rfl) ?_
              refine r_t hst trivial rfl (x_assign hst rfl) ?_; intro a hst
              refine wpL_nil ?_
              refine then_normal ?_
              refine wq_block ?_
              refine wq_loop_fuel (fun k_696 a w' => ∃ (l_684 : (List Int)), ∃ (i_685 : Int), ∃ (i_686 : Int), slices_Compact_uint64.l1 a0 i_468 J_674 k_696 l_684 i_685 i_686 = some r ∧ ST [] Try.f30.ntmps a [(0, va0), (2, (.slice none 0 0)), (3, .int .i64 i_685), (4, (cutV va0 (Int.toNat i_468) (Int.toNat (a0.length : Int)) (Kd.int .u64).sz)), (5, .int .i64 i_686)] ∧ SH GG w w' [Row (Kd.int .u64) 23 va0 l_684]) k_586 ?_ ?_
              · exact ⟨a0, i_468, 1, H, hst.keep _ ⟨rfl, rfl, rfl, rfl, rfl, trivial⟩, hsh.pick [0]⟩
              · rintro k_696 a W_687 ⟨l_684, i_685, i_686, H, hst, hsh⟩
                cases k_696 with
                | zero => rw [slices_Compact_uint64.l1] at H; cases H
                | succ k_696 =>
                 rw [slices_Compact_uint64.l1] at H
                 refine wq_seq ?_
                 refine wq_seq ?_
                 refine wq_region_lit (.inl rfl) ?_
                 refine r_t hst trivial rfl (x_move hst rfl) ?_; intro a hst
                 refine r_t hst trivial rfl (x_move hst rfl) ?_; intro a hst
                 obtain ⟨l1533, hl1533, H⟩ := Option.bind_eq_some_iff.1 H
                 refine r_t hst trivial rfl (x_lenSl hst Try.underlying35 rfl ((hsh.row 0 rfl).cut (by decide) hl1533).slen) ?_; intro a hst
                 refine r_t hst trivial rfl (x_cmpI (b := decide (i_686 < (l1533.length : Int))) hst rfl rfl rfl) ?_; intro a hst
                 refine wpL_nil ?_
                 refine then_normal ?_
                 by_cases c1534 : (decide (i_686 < (l1533.length : Int))) = true
                 · rw [if_pos c1534] at H
                   refine wq_condT hst rfl c1534 ?_
                   refine wq_skip ?_
                   refine then_normal ?_
                   obtain ⟨J_700, hJ_700, H⟩ := Jn.elim H
                   refine wq_cut (fun a w' => ∃ (l_697 : (List Int)), ∃ (i_698 : Int), J_700 l_697 i_698 = some r ∧ ST [] Try.f30.ntmps a [(0, va0), (2, (.slice none 0 0)), (3, .int .i64 i_698), (4, (cutV va0 (Int.toNat i_468) (Int.toNat (a0.length : Int)) (Kd.int .u64).sz)), (5, .int .i64 i_686)] ∧ SH GG w w' [Row (Kd.int .u64) 23 va0 l_697]) ?_ ?_
                   · rintro a W_699 ⟨l_697, i_698, H, hst, hsh⟩
                     subst hJ_700
                     dsimp only at H
                     refine wq_region_lit (.inl rfl) ?_
                     refine r_t hst trivial rfl (x_move hst rfl) ?_; intro a hst
                     refine r_t hst trivial rfl (x_arI (r := w64 (i_686 + 1)) hst rfl rfl rfl) ?_; intro a hst
                     refine r_t hst trivial rfl (x_assign hst rfl) ?_; intro a hst
                     refine wpL_nil ?_
                     refine then_normal ?_
                     exact ⟨k_696, Nat.lt_succ_self _, l_697, i_698, (w64 (i_686 + 1)), H, hst.keep _ ⟨rfl, rfl, rfl, rfl, rfl, trivial⟩, hsh.pick [0]⟩
                   · refine wq_block ?_
                     refine wq_seq ?_
                     refine wq_region_q (.inl rfl) (fun w' => SH GG w w' [Row (Kd.int .u64) 23 va0 l_684]) (shut_sh _ _ _) hsh.drew fo (by kernel_rfl) ?_
                     refine q_t hst trivial rfl (fun _ hsh => x_move hst rfl) ?_; intro a hst
                     refine q_t hst trivial rfl (fun _ hsh => x_move hst rfl) ?_; intro a hst
                     obtain ⟨x1543, hx1543, H⟩ := Option.bind_eq_some_iff.1 H
                     refine q_t hst trivial rfl (fun _ hsh => x_indexAddr hst Try.underlying35 el_23 rfl rfl ((hsh.row 0 rfl).cut (by decide) hl1533) hx1543) ?_; intro a hst
                     refine q_t hst trivial rfl (fun _ hsh => x_loadEF (j := 0) (cs := [.int .u64 x1543]) hst sc_23 rfl ((hsh.row 0 rfl).cut (by decide) hl1533) (Same.refl _ _) hx1543 rfl (fun _ h => h) rfl) ?_; intro a hst
                     refine q_t hst trivial rfl (fun _ hsh => x_move hst rfl) ?_; intro a hst
                     refine q_t hst trivial rfl (fun _ hsh => x_move hst rfl) ?_; intro a hst
                     refine q_t hst trivial rfl (fun _ hsh => x_arI (r := w64 (i_686 - 1)) hst rfl rfl rfl) ?_; intro a hst
                     obtain ⟨x1544, hx1544, H⟩ := Option.bind_eq_some_iff.1 H
                     refine q_t hst trivial rfl (fun _ hsh => x_indexAddr hst Try.underlying35 el_23 rfl rfl ((hsh.row 0 rfl).cut (by decide) hl1533) hx1544) ?_; intro a hst
                     refine q_t hst trivial rfl (fun _ hsh => x_loadEF (j := 0) (cs := [.int .u64 x1544]) hst sc_23 rfl ((hsh.row 0 rfl).cut (by decide) hl1533) (Same.refl _ _) hx1544 rfl (fun _ h => h) rfl) ?_; intro a hst
                     refine q_t hst trivial rfl (fun _ hsh => x_cmpI (b := (x1543 != x1544)) hst rfl rfl rfl) ?_; intro a hst
                     refine q_nil ?_
                     intro w1545 hsh
                     refine then_normal ?_
                     by_cases c1546 : (x1543 != x1544) = true
                     · rw [if_pos c1546] at H
                       refine wq_condT hst rfl c1546 ?_
                       refine wq_seq ?_
                       refine wq_region_lit (.inl rfl) ?_
                       refine r_t hst trivial rfl (x_move hst rfl) ?_; intro a hst
                       refine r_t hst trivial rfl (x_move hst rfl) ?_; intro a hst
                       refine r_t hst trivial rfl (x_move hst rfl) ?_; intro a hst
                       refine r_t hst trivial rfl (x_move hst rfl) ?_; intro a hst
                       obtain ⟨x1547, hx1547, H⟩ := Option.bind_eq_some_iff.1 H
                       refine r_t hst trivial rfl (x_indexAddr hst Try.underlying35 el_23 rfl rfl ((hsh.row 0 rfl).cut (by decide) hl1533) hx1547) ?_; intro a hst
                       refine r_t hst trivial rfl (x_loadEF (j := 0) (cs := [.int .u64 x1547]) hst sc_23 rfl ((hsh.row 0 rfl).cut (by decide) hl1533) (Same.refl _ _) hx1547 rfl (fun _ h => h) rfl) ?_; intro a hst
                       obtain ⟨x1548, hx1548, H⟩ := Option.bind_eq_some_iff.1 H
                       refine r_t hst trivial rfl (x_indexAddr hst Try.underlying35 el_23 rfl rfl (hsh.row 0 rfl) hx1548) ?_; intro a hst
                       obtain ⟨l1549, hl1549, H⟩ := Option.bind_eq_some_iff.1 H
                       refine r_storeE (i := 0) (off := 0) (new := x1547) (cs' := [.int .u64 x1547]) hst hsh trivial sc_23 rfl rfl rfl hx1548 rfl (Nat.le_of_ble_eq_true rfl) rfl (fun _ _ _ h => by rw [h]; rfl) (fun _ _ => rfl) ?_; intro a w1550 hsh hst
                       rw [← upd_some hl1549] at hsh
                       refine wpL_nil ?_
                       refine then_normal ?_
                       refine wq_region_lit (.inl rfl) ?_
                       refine r_t hst trivial rfl (x_move hst rfl) ?_; intro a hst
                       refine r_t hst trivial rfl (x_arI (r := w64 (i_685 + 1)) hst rfl rfl rfl) ?_; intro a hst
                       refine r_t hst trivial rfl (x_assign hst rfl) ?_; intro a hst
                       refine wpL_nil ?_
                       refine block_normal ?_
                       refine then_normal ?_
                       exact ⟨l1549, (w64 (i_685 + 1)), H, hst.keep _ ⟨rfl, rfl, rfl, rfl, rfl, trivial⟩, hsh.pick [0]⟩
                     · rw [if_neg c1546] at H
                       replace c1546 := Bool.eq_false_iff.2 c1546
                       refine wq_condF hst rfl c1546 ?_
                       refine wq_skip ?_
                       refine block_normal ?_
                       refine then_normal ?_
                       exact ⟨l_684, i_685, H, hst.keep _ ⟨rfl, rfl, rfl, rfl, rfl, trivial⟩, hsh.pick [0]⟩
                 · rw [if_neg c1534] at H
                   replace c1534 := Bool.eq_false_iff.2 c1534
                   refine wq_condF hst rfl c1534 ?_
                   refine wq_exit ?_
                   refine then_exit ?_
                   refine then_exit ?_
                   refine block_hit ?_
                   refine then_normal ?_
                   exact ⟨l_684, i_685, H, hst.keep _ ⟨rfl, rfl, rfl, trivial⟩, hsh.pick [0]⟩
          · rw [if_neg c1426] at H
            replace c1426 := Bool.eq_false_iff.2 c1426
            refine wq_condF hst rfl c1426 ?_
            refine wq_skip ?_
            refine block_normal ?_
            refine then_normal ?_
            exact ⟨H, hst.keep _ ⟨rfl, rfl, rfl, trivial⟩, hsh.pick [0]⟩
      · rw [if_neg c1294] at H
        replace c1294 := Bool.eq_false_iff.2 c1294
        refine wq_condF hst rfl c1294 ?_
        refine wq_exit ?_
        refine then_exit ?_
        refine then_exit ?_
        refine block_hit ?_
        refine then_normal ?_
        refine wq_seq ?_
        refine wq_region_lit (.inl rfl) ?_
        refine r_t hst trivial rfl (x_move hst rfl) ?_; intro a hst
        refine r_t hst trivial rfl (x_assign hst rfl) ?_; intro a hst
        refine wpL_nil ?_
        refine then_normal ?_
        refine wq_ret ?_
        obtain rfl := Option.some.inj H
        exact ret1 hst rfl rfl ⟨va0, rfl, hsh.pick [0]⟩

set_option maxHeartbeats 4000000 in
set_option maxRecDepth 100000 in
theorem tomb_unlike_uint64.calls (k : Nat) (w : World) (GG : Nat → Prop) (va0 : Value) (a0 : (List Int)) (hsep : Sep GG w [Row (Kd.int .u64) 23 va0 a0]) (r : (List Int)) (h : tomb_unlike_uint64 k a0 = some r) :
    Calls Try.prog 21 ([va0] : List Value).toArray w fun e w' => ∃ v0_ : Value, e = .returned (v0_) ∧ SH GG w w' [Row (Kd.int .u64) 23 v0_ r] := by
 have H := h
 clear h
 unfold tomb_unlike_uint64 at H
 refine calls_enter Try.func21 rfl rfl ?_
 intro a hst
 have hsh := SH.start hsep
 refine wq_seq ?_
 refine wq_region_lit (.inl rfl) ?_
 refine r_t hst trivial rfl (x_assign hst rfl) ?_; intro a hst
 refine wpL_nil ?_
 refine then_normal ?_
 refine wq_seq ?_
 refine wq_region_lit (.inl rfl) ?_
 refine r_t hst trivial rfl (x_move hst rfl) ?_; intro a hst
 replace hsh := hsh.pick [0]
 obtain ⟨GG3, hsp, hG, hbx, hfx, hk⟩ := SH.callD (L1 := [Row (Kd.int .u64) 23 va0 a0]) (L2 := []) hsh
 obtain ⟨r1, hr1, H⟩ := Option.bind_eq_some_iff.1 H
 refine r_callD hst trivial rfl fn_29 rfl (slices_Sort_uint64.calls k _ GG3 _ a0 hsp r1 hr1) ?_
 rintro e w2 ⟨rfl, hc⟩
 replace hsh := hk _ _ hc
 clear hc
 refine ⟨_, rfl, fun a hst => ?_⟩
 refine wpL_nil ?_
 refine then_normal ?_
 refine wq_seq ?_
 refine wq_region_lit (.inl rfl) ?_
 refine r_t hst trivial rfl (x_move hst rfl) ?_; intro a hst
 replace hsh := hsh.pick [0]
 obtain ⟨GG6, hsp, hG, hbx, hfx, hk⟩ := SH.callD (L1 := [Row (Kd.int .u64) 23 va0 r1]) (L2 := []) hsh
 obtain ⟨r4, hr4, H⟩ := Option.bind_eq_some_iff.1 H
 refine r_callD hst trivial rfl fn_30 rfl (slices_Compact_uint64.calls k _ GG6 _ r1 hsp r4 hr4) ?_
 rintro e w5 ⟨v7, rfl, hc⟩
 replace hsh := hk _ _ hc
 clear hc
 refine ⟨_, rfl, fun a hst => ?_⟩
 refine r_t hst trivial rfl (x_assign hst rfl) ?_; intro a hst
 refine wpL_nil ?_
 refine then_normal ?_
 refine wq_ret ?_
 obtain rfl := Option.some.inj H
 exact ret1 hst rfl rfl ⟨v7, rfl, hsh.pick [0]⟩

set_option maxHeartbeats 4000000 in
set_option maxRecDepth 100000 in
theorem slices_Reverse_uint64.calls (k : Nat) (w : World) (GG : Nat → Prop) (va0 : Value) (a0 : (List Int)) (hsep : Sep GG w [Row (Kd.int .u64) 23 va0 a0]) (r : (List Int)) (h : slices_Reverse_uint64 k a0 = some r) :
    Calls Try.prog 22 ([va0] : List Value).toArray w fun e w' => e = .returned (.tuple #[]) ∧ SH GG w w' [Row (Kd.int .u64) 23 va0 r] := by
 have H := h
 clear h
 unfold slices_Reverse_uint64 at H
 refine calls_enter Try.func22 rfl rfl ?_
 intro a hst
 have hsh := SH.start hsep
 refine wq_seq ?_
 refine wq_region_lit (.inl rfl) ?_
 refine r_t hst trivial rfl (x_move hst rfl) ?_; intro a hst
 refine r_t hst trivial rfl (x_lenSl hst Try.underlying35 rfl (hsh.row 0 rfl).slen) ?_; intro a hst
 refine r_t hst trivial rfl (x_arI (r := w64 ((a0.length : Int) - 1)) hst rfl rfl rfl) ?_; intro a hst
 refine r_t hst trivial rfl (x_assign hst rfl) ?_; intro a hst
 refine r_t hst trivial rfl (x_assign hst rfl) ?_; intro a hst
 refine wpL_nil ?_
 refine then_normal ?_
 refine wq_block ?_
 refine wq_loop_fuel (fun k_15 a w' => ∃ (l_7 : (List Int)), ∃ (i_8 : Int), ∃ (i_9 : Int), slices_Reverse_uint64.l0 k_15 l_7 i_8 i_9 = some r ∧ ST [] Try.f22.ntmps a [(0, va0), (2, .int .i64 i_8), (3, .int .i64 i_9)] ∧ SH GG w w' [Row (Kd.int .u64) 23 va0 l_7]) k ?_ ?_
 · exact ⟨a0, 0, (w64 ((a0.length : Int) - 1)), H, hst.keep _ ⟨rfl, rfl, rfl, trivial⟩, hsh.pick [0]⟩
 · rintro k_15 a W_10 ⟨l_7, i_8, i_9, H, hst, hsh⟩
   cases k_15 with
   | zero => rw [slices_Reverse_uint64.l0] at H; cases H
   | succ k_15 =>
    rw [slices_Reverse_uint64.l0] at H
    refine wq_seq ?_
    refine wq_seq ?_
    refine wq_region_lit (.inl rfl) ?_
    refine r_t hst trivial rfl (x_move hst rfl) ?_; intro a hst
    refine r_t hst trivial rfl (x_move hst rfl) ?_; intro a hst
    refine r_t hst trivial rfl (x_cmpI (b := decide (i_8 < i_9)) hst rfl rfl rfl) ?_; intro a hst
    refine wpL_nil ?_
    refine then_normal ?_
    by_cases c50 : (decide (i_8 < i_9)) = true
    · rw [if_pos c50] at H
      refine wq_condT hst rfl c50 ?_
      refine wq_skip ?_
      refine then_normal ?_
      refine wq_seq ?_
      refine wq_block ?_
      have hw61_0 := hsh.row 0 rfl
      refine wq_region_t (.inl rfl) (.fin [(3, 0), (3, 1), (3, 2), (3, 3), (3, 4), (3, 5), (3, 6), (0, 7), (3, 8), (3, 9), (3, 10), (0, 11), (3, 12), (2, 13), (0, 14), (2, 15)]) (fun w' => SH GG w w' [Row (Kd.int .u64) 23 va0 l_7]) (fun w' => SH GG w w' [Row (Kd.int .u64) 23 va0 l_7]) (shut_sh _ _ _) (shut_sh _ _ _) (sub_sh [0] rfl) hsh.drew fo (by kernel_rfl) ?_
      refine t_fin ?_
      refine m_p hst trivial rfl (fun _ => x_move hst rfl) ?_; intro a hst
      refine m_p hst trivial rfl (fun _ => x_move hst rfl) ?_; intro a hst
      refine m_p hst trivial rfl (fun _ => x_move hst rfl) ?_; intro a hst
      refine m_p hst trivial rfl (fun _ => x_move hst rfl) ?_; intro a hst
      refine m_p hst trivial rfl (fun _ => x_move hst rfl) ?_; intro a hst
      refine m_p hst trivial rfl (fun _ => x_move hst rfl) ?_; intro a hst
      obtain ⟨x62, hx62, H⟩ := Option.bind_eq_some_iff.1 H
      refine m_p hst trivial rfl (fun _ => x_indexAddr hst Try.underlying35 el_23 rfl rfl hw61_0 hx62) ?_; intro a hst
      refine m_t hst trivial rfl (fun _ hsh => x_loadEF (j := 0) (cs := [.int .u64 x62]) hst sc_23 rfl (hsh.row 0 rfl) (Same.refl _ _) hx62 rfl (fun _ h => h) rfl) ?_; intro a hst
      refine m_p hst trivial rfl (fun _ => x_move hst rfl) ?_; intro a hst
      refine m_p hst trivial rfl (fun _ => x_move hst rfl) ?_; intro a hst
      obtain ⟨x63, hx63, H⟩ := Option.bind_eq_some_iff.1 H
      refine m_p hst trivial rfl (fun _ => x_indexAddr hst Try.underlying35 el_23 rfl rfl hw61_0 hx63) ?_; intro a hst
      refine m_t hst trivial rfl (fun _ hsh => x_loadEF (j := 0) (cs := [.int .u64 x63]) hst sc_23 rfl (hsh.row 0 rfl) (Same.refl _ _) hx63 rfl (fun _ h => h) rfl) ?_; intro a hst
      obtain ⟨x64, hx64, H⟩ := Option.bind_eq_some_iff.1 H
      refine m_p hst trivial rfl (fun _ => x_indexAddr hst Try.underlying35 el_23 rfl rfl hw61_0 hx64) ?_; intro a hst
      refine m_loud (.inr rfl) ?_
      intro w65 hsh
      obtain ⟨l66, hl66, H⟩ := Option.bind_eq_some_iff.1 H
      refine r_storeE (i := 0) (off := 0) (new := x62) (cs' := [.int .u64 x62]) hst hsh trivial sc_23 rfl rfl rfl hx64 rfl (Nat.le_of_ble_eq_true rfl) rfl (fun _ _ _ h => by rw [h]; rfl) (fun _ _ => rfl) ?_; intro a w67 hsh hst
      rw [← upd_some hl66] at hsh
      refine m_turn hsh ?_
      obtain ⟨x68, hx68, H⟩ := Option.bind_eq_some_iff.1 H
      refine m_t hst trivial rfl (fun _ hsh => x_indexAddr hst Try.underlying35 el_23 rfl rfl (hsh.row 0 rfl) hx68) ?_; intro a hst
      refine m_loud (.inr rfl) ?_
      intro w69 hsh
      obtain ⟨l70, hl70, H⟩ := Option.bind_eq_some_iff.1 H
      refine r_storeE (i := 0) (off := 0) (new := x63) (cs' := [.int .u64 x63]) hst hsh trivial sc_23 rfl rfl rfl hx68 rfl (Nat.le_of_ble_eq_true rfl) rfl (fun _ _ _ h => by rw [h]; rfl) (fun _ _ => rfl) ?_; intro a w71 hsh hst
      rw [← upd_some hl70] at hsh
      refine m_turn hsh ?_
      refine m_nil ?_
      intro w72 hsh
      refine qn_normal ?_
      refine block_normal ?_
      refine then_normal ?_
      refine wq_region_lit (.inl rfl) ?_
      refine r_t hst trivial rfl (x_move hst rfl) ?_; intro a hst
      refine r_t hst trivial rfl (x_arI (r := w64 (i_8 + 1)) hst rfl rfl rfl) ?_; intro a hst
      refine r_t hst trivial rfl (x_move hst rfl) ?_; intro a hst
      refine r_t hst trivial rfl (x_arI (r := w64 (i_9 - 1)) hst rfl rfl rfl) ?_; intro a hst
      refine r_t hst trivial rfl (x_assign hst rfl) ?_; intro a hst
      refine r_t hst trivial rfl (x_assign hst rfl) ?_; intro a hst
      refine wpL_nil ?_
      refine then_normal ?_
      exact ⟨k_15, Nat.lt_succ_self _, l70, (w64 (i_8 + 1)), (w64 (i_9 - 1)), H, hst.keep _ ⟨rfl, rfl, rfl, trivial⟩, hsh.pick [0]⟩
    · rw [if_neg c50] at H
      replace c50 := Bool.eq_false_iff.2 c50
      refine wq_condF hst rfl c50 ?_
      refine wq_exit ?_
      refine then_exit ?_
      refine then_exit ?_
      refine block_hit ?_
      obtain rfl := Option.some.inj H
      exact end0 hst rfl ⟨rfl, hsh.pick [0]⟩

set_option maxHeartbeats 4000000 in
set_option maxRecDepth 100000 in
theorem slices_Equal_uint64.calls (k : Nat) (w : World) (va0 : Value) (Za0 : Nat → Prop) (wra0 : World) (hsa0 : Same Za0 wra0 w) (a0 : (List Int)) (hra0 : RD (Kd.int .u64) Za0 wra0 va0 a0) (va1 : Value) (Za1 : Nat → Prop) (wra1 : World) (hsa1 : Same Za1 wra1 w) (a1 : (List Int)) (hra1 : RD (Kd.int .u64) Za1 wra1 va1 a1) (r : Bool) (h : slices_Equal_uint64 k a0 a1 = some r) :
    Calls Try.prog 23 ([va0, va1] : List Value).toArray w fun e w' => e = .returned (.bool r) ∧ SH (fun _ => False) w w' [] := by
 have H := h
 clear h
 unfold slices_Equal_uint64 at H
 refine calls_enter Try.func23 rfl rfl ?_
 intro a hst
 have hsh := SH.zero (fun _ => False) w
 refine wq_seq ?_
 refine wq_region_lit (.inl rfl) ?_
 refine r_t hst trivial rfl (x_assign hst rfl) ?_; intro a hst
 refine wpL_nil ?_
 refine then_normal ?_
 refine wq_seq ?_
 refine wq_seq ?_
 refine wq_region_lit (.inl rfl) ?_
 refine r_t hst trivial rfl (x_move hst rfl) ?_; intro a hst
 refine r_t hst trivial rfl (x_lenSl hst Try.underlying35 rfl hra0.slen) ?_; intro a hst
 refine r_t hst trivial rfl (x_move hst rfl) ?_; intro a hst
 refine r_t hst trivial rfl (x_lenSl hst Try.underlying35 rfl hra1.slen) ?_; intro a hst
 refine r_t hst trivial rfl (x_cmpI (b := ((a0.length : Int) != (a1.length : Int))) hst rfl rfl rfl) ?_; intro a hst
 refine wpL_nil ?_
 refine then_normal ?_
 by_cases c2 : ((a0.length : Int) != (a1.length : Int)) = true
 · rw [if_pos c2] at H
   refine wq_condT hst rfl c2 ?_
   refine wq_seq ?_
   refine wq_region_lit (.inl rfl) ?_
   refine r_t hst trivial rfl (x_assign hst rfl) ?_; intro a hst
   refine wpL_nil ?_
   refine then_normal ?_
   refine wq_ret ?_
   refine then_ret ?_
   obtain rfl := Option.some.inj H
   exact ret1 hst rfl rfl ⟨rfl, hsh.pick []⟩
 · rw [if_neg c2] at H
   replace c2 := Bool.eq_false_iff.2 c2
   refine wq_condF hst rfl c2 ?_
   refine wq_skip ?_
   refine then_normal ?_
   refine wq_seq ?_
   refine wq_seq ?_
   refine wq_region_lit (.inl rfl) ?_
   refine r_t hst trivial rfl (x_move hst rfl) ?_; intro a hst
   refine r_t hst trivial rfl (x_lenSl hst Try.underlying35 rfl hra0.slen) ?_; intro a hst
   refine r_t hst trivial rfl (x_move hst rfl) ?_; intro a hst
   refine wpL_nil ?_
   refine then_normal ?_
   refine wq_block ?_
   refine wq_loop_fuel (fun k_16 a w' => ∃ (i_12 : Int), slices_Equal_uint64.l0 a0 a1 k_16 i_12 = some r ∧ ST [] Try.f23.ntmps a [(0, va0), (1, va1), (4, .bool false), (12, .int .i64 (a0.length : Int)), (13, .int .i64 i_12)] ∧ SH (fun _ => False) w w' []) k ?_ ?_
   · exact ⟨0, H, hst.keep _ ⟨rfl, rfl, rfl, rfl, rfl, trivial⟩, hsh.pick []⟩
   · rintro k_16 a W_13 ⟨i_12, H, hst, hsh⟩
     cases k_16 with
     | zero => rw [slices_Equal_uint64.l0] at H; cases H
     | succ k_16 =>
      rw [slices_Equal_uint64.l0] at H
      refine wq_seq ?_
      refine wq_region_lit (.inl rfl) ?_
      refine r_t hst trivial rfl (x_cmpI (b := decide (i_12 < (a0.length : Int))) hst rfl rfl rfl) ?_; intro a hst
      refine wpL_nil ?_
      refine then_normal ?_
      refine wq_seq ?_
      by_cases c54 : (decide (i_12 < (a0.length : Int))) = true
      · rw [if_pos c54] at H
        refine wq_condT hst rfl c54 ?_
        refine wq_skip ?_
        refine then_normal ?_
        refine wq_seq ?_
        refine wq_block ?_
        refine wq_seq ?_
        refine wq_region_lit (.inl rfl) ?_
        refine r_t hst trivial rfl (x_move hst rfl) ?_; intro a hst
        refine r_t hst trivial rfl (x_assign hst rfl) ?_; intro a hst
        refine wpL_nil ?_
        refine then_normal ?_
        refine wq_seq ?_
        refine wq_region_q (.inl rfl) (fun w' => SH (fun _ => False) w w' []) (shut_sh _ _ _) hsh.drew fo (by kernel_rfl) ?_
        refine q_t hst trivial rfl (fun _ hsh => x_move hst rfl) ?_; intro a hst
        refine q_t hst trivial rfl (fun _ hsh => x_move hst rfl) ?_; intro a hst
        obtain ⟨x59, hx59, H⟩ := Option.bind_eq_some_iff.1 H
        refine q_t hst trivial rfl (fun _ hsh => x_indexAddr hst Try.underlying35 el_23 rfl rfl hra0 hx59) ?_; intro a hst
        refine q_t hst trivial rfl (fun _ hsh => x_loadEF (j := 0) (cs := [.int .u64 x59]) hst sc_23 rfl hra0 (Same.sh0 hsa0 hsh) hx59 rfl (fun _ h => h) rfl) ?_; intro a hst
        refine q_t hst trivial rfl (fun _ hsh => x_move hst rfl) ?_; intro a hst
        refine q_t hst trivial rfl (fun _ hsh => x_move hst rfl) ?_; intro a hst
        obtain ⟨x60, hx60, H⟩ := Option.bind_eq_some_iff.1 H
        refine q_t hst trivial rfl (fun _ hsh => x_indexAddr hst Try.underlying35 el_23 rfl rfl hra1 hx60) ?_; intro a hst
        refine q_t hst trivial rfl (fun _ hsh => x_loadEF (j := 0) (cs := [.int .u64 x60]) hst sc_23 rfl hra1 (Same.sh0 hsa1 hsh) hx60 rfl (fun _ h => h) rfl) ?_; intro a hst
        refine q_t hst trivial rfl (fun _ hsh => x_cmpI (b := (x59 != x60)) hst rfl rfl rfl) ?_; intro a hst
        refine q_nil ?_
        intro w61 hsh
        refine then_normal ?_
        by_cases c62 : (x59 != x60) = true
        · rw [if_pos c62] at H
          refine wq_condT hst rfl c62 ?_
          refine wq_seq ?_
          refine wq_region_lit (.inl rfl) ?_
          refine r_t hst trivial rfl (x_assign hst rfl) ?_; intro a hst
          refine wpL_nil ?_
          refine then_normal ?_
          refine wq_ret ?_
          refine block_ret ?_
          refine then_ret ?_
          refine then_ret ?_
          refine block_ret ?_
          refine then_ret ?_
          obtain rfl := Option.some.inj H
          exact ret1 hst rfl rfl ⟨rfl, hsh.pick []⟩
        · rw [if_neg c62] at H
          replace c62 := Bool.eq_false_iff.2 c62
          refine wq_condF hst rfl c62 ?_
          refine wq_skip ?_
          refine block_normal ?_
          refine then_normal ?_
          refine wq_region_lit (.inl rfl) ?_
          refine r_t hst trivial rfl (x_arI (r := w64 (i_12 + 1)) hst rfl rfl rfl) ?_; intro a hst
          refine r_t hst trivial rfl (x_move hst rfl) ?_; intro a hst
          refine wpL_nil ?_
          refine then_normal ?_
          exact ⟨k_16, Nat.lt_succ_self _, (w64 (i_12 + 1)), H, hst.keep _ ⟨rfl, rfl, rfl, rfl, rfl, trivial⟩, hsh.pick []⟩
      · rw [if_neg c54] at H
        replace c54 := Bool.eq_false_iff.2 c54
        refine wq_condF hst rfl c54 ?_
        refine wq_exit ?_
        refine then_exit ?_
        refine then_exit ?_
        refine block_hit ?_
        refine then_normal ?_
        refine wq_seq ?_
        refine wq_region_lit (.inl rfl) ?_
        refine r_t hst trivial rfl (x_assign hst rfl) ?_; intro a hst
        refine wpL_nil ?_
        refine then_normal ?_
        refine wq_ret ?_
        obtain rfl := Option.some.inj H
        exact ret1 hst rfl rfl ⟨rfl, hsh.pick []⟩

set_option maxHeartbeats 4000000 in
set_option maxRecDepth 100000 in
theorem tomb_Fragments.calls (k : Nat) (w : World) (va0 : Value) (Za0 : Nat → Prop) (wra0 : World) (hsa0 : Same Za0 wra0 w) (a0 : (List Tomb)) (hra0 : RD k_Tomb Za0 wra0 va0 a0) (r : (List Fragment)) (h : tomb_Fragments k a0 = some r) :
    Calls Try.prog 10 ([va0] : List Value).toArray w fun e w' => ∃ v0_ : Value, e = .returned (v0_) ∧ SH (fun _ => False) w w' [Row k_Fragment 37 v0_ r] := by
 have H := h
 clear h
 unfold tomb_Fragments at H
 refine calls_enter Try.func10 rfl rfl ?_
 intro a hst
 have hsh := SH.zero (fun _ => False) w
 refine wq_seq ?_
 refine wq_region_lit (.inl rfl) ?_
 refine r_t hst trivial rfl (x_assign hst rfl) ?_; intro a hst
 refine wpL_nil ?_
 refine then_normal ?_
 refine wq_seq ?_
 refine wq_region_lit (.inl rfl) ?_
 refine r_t hst trivial rfl (x_move hst rfl) ?_; intro a hst
 obtain ⟨r1, hr1, H⟩ := Option.bind_eq_some_iff.1 H
 refine r_callD hst trivial rfl fn_19 rfl (tomb_valid.calls k _ _ _ _ (Same.sh0 hsa0 hsh) _ hra0 r1 hr1) ?_
 rintro e w2 ⟨v3, rfl, hc⟩
 replace hsh := hsh.call0 hc
 clear hc
 refine ⟨_, rfl, fun a hst => ?_⟩
 refine r_t hst trivial rfl (x_assign hst rfl) ?_; intro a hst
 refine wpL_nil ?_
 refine then_normal ?_
 refine wq_seq ?_
 refine wq_region_lit (.inl rfl) ?_
 refine r_t hst trivial rfl (x_assign hst rfl) ?_; intro a hst
 refine wpL_nil ?_
 refine then_normal ?_
 refine wq_seq ?_
 refine wq_seq ?_
 refine wq_region_lit (.inl rfl) ?_
 refine r_t hst trivial rfl (x_move hst rfl) ?_; intro a hst
 refine r_t hst trivial rfl (x_lenSl hst Try.underlying22 rfl (hsh.row 0 rfl).slen) ?_; intro a hst
 refine r_t hst trivial rfl (x_move hst rfl) ?_; intro a hst
 refine wpL_nil ?_
 refine then_normal ?_
 refine wq_block ?_
 have hsh := hsh.addNil Kd.str 9
 refine wq_loop_fuel (fun k_34 a w' => ∃ (v_25 : Value), ∃ (l_26 : (List ByteArray)), ∃ (i_27 : Int), tomb_Fragments.l0 r1 k_34 l_26 i_27 = some r ∧ ST [] Try.f10.ntmps a [(0, v3), (2, (.slice none 0 0)), (3, v_25), (14, v3), (15, .int .i64 (r1.length : Int)), (16, .int .i64 i_27)] ∧ SH (fun _ => False) w w' [Row k_Tomb 30 v3 r1, Row Kd.str 9 v_25 l_26]) k ?_ ?_
 · exact ⟨(.slice none 0 0), ([]), 0, H, hst.keep _ ⟨rfl, rfl, rfl, rfl, rfl, rfl, trivial⟩, hsh.pick [1, 0]⟩
 · rintro k_34 a W_28 ⟨v_25, l_26, i_27, H, hst, hsh⟩
   cases k_34 with
   | zero => rw [tomb_Fragments.l0] at H; cases H
   | succ k_34 =>
    rw [tomb_Fragments.l0] at H
    refine wq_seq ?_
    refine wq_region_lit (.inl rfl) ?_
    refine r_t hst trivial rfl (x_cmpI (b := decide (i_27 < (r1.length : Int))) hst rfl rfl rfl) ?_; intro a hst
    refine wpL_nil ?_
    refine then_normal ?_
    refine wq_seq ?_
    by_cases c121 : (decide (i_27 < (r1.length : Int))) = true
    · rw [if_pos c121] at H
      refine wq_condT hst rfl c121 ?_
      refine wq_skip ?_
      refine then_normal ?_
      refine wq_seq ?_
      refine wq_block ?_
      refine wq_seq ?_
      refine wq_region_lit (.inl rfl) ?_
      obtain ⟨x132, hx132, H⟩ := Option.bind_eq_some_iff.1 H
      refine r_t hst trivial rfl (x_indexAddr hst Try.underlying22 el_30 rfl rfl (hsh.row 0 rfl) hx132) ?_; intro a hst
      refine r_t hst trivial rfl (x_loadEsF (j := 0) (cs := [.string x132.Begin, .string x132.End, .int .u64 x132.Seq]) (ps := [.string x132.Begin, .string x132.End, .int .u64 x132.Seq]) hst ag_30 rfl (hsh.row 0 rfl) (Same.refl _ _) hx132 rfl (fun _ h => h) rfl) ?_; intro a hst
      refine r_alloc hst hsh trivial rfl zr_30 ?_
      intro g133 a w134 hgg133 hsh hst
      refine r_storeBs (i := 0) (cs' := [.string x132.Begin, .string x132.End, .int .u64 x132.Seq]) (vs := [.string x132.Begin, .string x132.End, .int .u64 x132.Seq]) hst hsh trivial ag_30 rfl rfl rfl rfl rfl rfl ?_; intro a w135 hsh hst
      refine wpL_nil ?_
      refine then_normal ?_
      refine wq_region_lit (.inl rfl) ?_
      refine r_t hst trivial rfl (x_move hst rfl) ?_; intro a hst
      refine r_t hst trivial rfl (x_fieldAddr (j' := 0) hst fa_30_0 rfl rfl) ?_; intro a hst
      refine r_t hst trivial rfl (x_loadB (i := 0) hst hsh sc_9 rfl rfl rfl) ?_; intro a hst
      refine r_t hst trivial rfl (x_fieldAddr (j' := 1) hst fa_30_1 rfl rfl) ?_; intro a hst
      refine r_t hst trivial rfl (x_loadB (i := 0) hst hsh sc_9 rfl rfl rfl) ?_; intro a hst
      refine r_buildSlice (vs := [.string x132.Begin, .string x132.End]) (cs := [.string x132.Begin, .string x132.End]) hst hsh trivial rfl Try.underlying57 el_9 rfl rfl (by simp [Value.cells]) rfl rfl ?_
      intro g136 a w137 hgg136 hsh hst
      replace hsh := hsh.pick [0, 0, 0, 0]
      replace hsh : SH (fun _ => False) w w137 [Row Kd.str 9 (.slice (some ⟨g136, 0, none⟩) 2 2) ([x132.Begin, x132.End]), Box g133 [.string x132.Begin, .string x132.End, .int .u64 x132.Seq] 30, Row k_Tomb 30 v3 r1, Row Kd.str 9 v_25 l_26] := SH.boxRow ([x132.Begin, x132.End] : List ByteArray) hsh rfl rfl rfl
      replace hsh := hsh.pick [3, 0, 0, 0]
      obtain ⟨l139, hl139, H⟩ := Option.bind_eq_some_iff.1 H
      refine r_appendN (M := [Row Kd.str 9 (.slice (some ⟨g136, 0, none⟩) 2 2) ([x132.Begin, x132.End]), Box g133 [.string x132.Begin, .string x132.End, .int .u64 x132.Seq] 30, Row k_Tomb 30 v3 r1]) hst hsh trivial rfl Try.underlying57 el_9 (by decide) (by decide) (by decide) rfl rfl (flat_flat _ _ _ _) (hsh.row 1 rfl) (Same.refl _ _) hl139 ?_
      intro v140 a w141 hsh hst
      refine r_t hst trivial rfl (x_assign hst rfl) ?_; intro a hst
      refine wpL_nil ?_
      refine block_normal ?_
      refine then_normal ?_
      refine wq_region_lit (.inl rfl) ?_
      refine r_t hst trivial rfl (x_arI (r := w64 (i_27 + 1)) hst rfl rfl rfl) ?_; intro a hst
      refine r_t hst trivial rfl (x_move hst rfl) ?_; intro a hst
      refine wpL_nil ?_
      refine then_normal ?_
      exact ⟨k_34, Nat.lt_succ_self _, v140, l139, (w64 (i_27 + 1)), H, hst.keep _ ⟨rfl, rfl, rfl, rfl, rfl, rfl, trivial⟩, hsh.pick [3, 0]⟩
    · rw [if_neg c121] at H
      replace c121 := Bool.eq_false_iff.2 c121
      refine wq_condF hst rfl c121 ?_
      refine wq_exit ?_
      refine then_exit ?_
      refine then_exit ?_
      refine block_hit ?_
      refine then_normal ?_
      refine wq_seq ?_
      refine wq_region_lit (.inl rfl) ?_
      refine r_t hst trivial rfl (x_move hst rfl) ?_; intro a hst
      replace hsh := hsh.pick [1, 0]
      obtain ⟨GG144, hsp, hG, hbx, hfx, hk⟩ := SH.callD (L1 := [Row Kd.str 9 v_25 l_26]) (L2 := [Row k_Tomb 30 v3 r1]) hsh
      obtain ⟨r142, hr142, H⟩ := Option.bind_eq_some_iff.1 H
      refine r_callD hst trivial rfl fn_20 rfl (tomb_unlike_string.calls k_34 _ GG144 _ l_26 hsp r142 hr142) ?_
      rintro e w143 ⟨v145, rfl, hc⟩
      replace hsh := hk _ _ hc
      clear hc
      refine ⟨_, rfl, fun a hst => ?_⟩
      refine r_t hst trivial rfl (x_assign hst rfl) ?_; intro a hst
      refine wpL_nil ?_
      refine then_normal ?_
      refine wq_seq ?_
      refine wq_region_lit (.inl rfl) ?_
      refine r_t hst trivial rfl (x_assign hst rfl) ?_; intro a hst
      refine wpL_nil ?_
      refine then_normal ?_
      obtain ⟨J_531, hJ_531, H⟩ := Jn.elim H
      refine wq_cut (fun a w' => ∃ (v_528 : Value), ∃ (l_529 : (List Fragment)), J_531 l_529 = some r ∧ ST [] Try.f10.ntmps a [(2, (.slice none 0 0)), (6, v_528)] ∧ SH (fun _ => False) w w' [Row k_Fragment 37 v_528 l_529]) ?_ ?_
      · rintro a W_530 ⟨v_528, l_529, H, hst, hsh⟩
        subst hJ_531
        dsimp only at H
        refine wq_seq ?_
        refine wq_region_lit (.inl rfl) ?_
        refine r_t hst trivial rfl (x_move hst rfl) ?_; intro a hst
        refine r_t hst trivial rfl (x_assign hst rfl) ?_; intro a hst
        refine wpL_nil ?_
        refine then_normal ?_
        refine wq_ret ?_
        obtain rfl := Option.some.inj H
        exact ret1 hst rfl rfl ⟨v_528, rfl, hsh.pick [0]⟩
      · refine wq_seq ?_
        refine wq_region_lit (.inl rfl) ?_
        refine r_t hst trivial rfl (x_assign hst rfl) ?_; intro a hst
        refine wpL_nil ?_
        refine then_normal ?_
        refine wq_block ?_
        have hsh := hsh.addNil k_Fragment 37
        refine wq_loop_fuel (fun k_865 a w' => ∃ (v_698 : Value), ∃ (l_699 : (List Fragment)), ∃ (i_700 : Int), tomb_Fragments.l1 r1 r142 J_531 k_865 l_699 i_700 = some r ∧ ST [] Try.f10.ntmps a [(0, v3), (2, (.slice none 0 0)), (3, v145), (6, v_698), (7, .int .i64 i_700)] ∧ SH (fun _ => False) w w' [Row k_Tomb 30 v3 r1, Row Kd.str 9 v145 r142, Row k_Fragment 37 v_698 l_699]) k_34 ?_ ?_
        · exact ⟨(.slice none 0 0), ([]), 1, H, hst.keep _ ⟨rfl, rfl, rfl, rfl, rfl, trivial⟩, hsh.pick [2, 1, 0]⟩
        · rintro k_865 a W_701 ⟨v_698, l_699, i_700, H, hst, hsh⟩
          cases k_865 with
          | zero => rw [tomb_Fragments.l1] at H; cases H
          | succ k_865 =>
           rw [tomb_Fragments.l1] at H
           refine wq_seq ?_
           refine wq_seq ?_
           refine wq_region_lit (.inl rfl) ?_
           refine r_t hst trivial rfl (x_move hst rfl) ?_; intro a hst
           refine r_t hst trivial rfl (x_move hst rfl) ?_; intro a hst
           refine r_t hst trivial rfl (x_lenSl hst Try.underlying57 rfl (hsh.row 1 rfl).slen) ?_; intro a hst
           refine r_t hst trivial rfl (x_cmpI (b := decide (i_700 < (r142.length : Int))) hst rfl rfl rfl) ?_; intro a hst
           refine wpL_nil ?_
           refine then_normal ?_
           by_cases c2549 : (decide (i_700 < (r142.length : Int))) = true
           · rw [if_pos c2549] at H
             refine wq_condT hst rfl c2549 ?_
             refine wq_skip ?_
             refine then_normal ?_
             obtain ⟨J_946, hJ_946, H⟩ := Jn.elim H
             refine wq_cut (fun a w' => ∃ (v_943 : Value), ∃ (l_944 : (List Fragment)), J_946 l_944 = some r ∧ ST [] Try.f10.ntmps a [(0, v3), (2, (.slice none 0 0)), (3, v145), (6, v_943), (7, .int .i64 i_700)] ∧ SH (fun _ => False) w w' [Row k_Tomb 30 v3 r1, Row Kd.str 9 v145 r142, Row k_Fragment 37 v_943 l_944]) ?_ ?_
             · rintro a W_945 ⟨v_943, l_944, H, hst, hsh⟩
               subst hJ_946
               dsimp only at H
               refine wq_region_lit (.inl rfl) ?_
               refine r_t hst trivial rfl (x_move hst rfl) ?_; intro a hst
               refine r_t hst trivial rfl (x_arI (r := w64 (i_700 + 1)) hst rfl rfl rfl) ?_; intro a hst
               refine r_t hst trivial rfl (x_assign hst rfl) ?_; intro a hst
               refine wpL_nil ?_
               refine then_normal ?_
               exact ⟨k_865, Nat.lt_succ_self _, v_943, l_944, (w64 (i_700 + 1)), H, hst.keep _ ⟨rfl, rfl, rfl, rfl, rfl, trivial⟩, hsh.pick [0, 0, 0]⟩
             · refine wq_block ?_
               refine wq_seq ?_
               have hw2809_0 := hsh.row 0 rfl
               have hw2809_1 := hsh.row 1 rfl
               have hw2809_2 := hsh.row 2 rfl
               refine wq_region_t (.inl rfl) (.fin [(3, 0), (3, 1), (3, 2), (3, 3), (0, 4), (3, 5), (3, 6), (3, 7), (0, 8), (3, 9), (1, 10), (2, 11)]) (fun w' => SH (fun _ => False) w w' [Row k_Tomb 30 v3 r1, Row Kd.str 9 v145 r142, Row k_Fragment 37 v_698 l_699]) (fun w' => SH (fun _ => False) w w' [Row k_Tomb 30 v3 r1, Row Kd.str 9 v145 r142, Row k_Fragment 37 v_698 l_699]) (shut_sh _ _ _) (shut_sh _ _ _) (sub_sh [0, 0, 0] rfl) hsh.drew fo (by kernel_rfl) ?_
               refine t_fin ?_
               refine m_p hst trivial rfl (fun _ => x_move hst rfl) ?_; intro a hst
               refine m_p hst trivial rfl (fun _ => x_move hst rfl) ?_; intro a hst
               refine m_p hst trivial rfl (fun _ => x_arI (r := w64 (i_700 - 1)) hst rfl rfl rfl) ?_; intro a hst
               obtain ⟨x2810, hx2810, H⟩ := Option.bind_eq_some_iff.1 H
               refine m_p hst trivial rfl (fun _ => x_indexAddr hst Try.underlying57 el_9 rfl rfl hw2809_1 hx2810) ?_; intro a hst
               refine m_t hst trivial rfl (fun _ hsh => x_loadEF (j := 0) (cs := [.string x2810]) hst sc_9 rfl (hsh.row 1 rfl) (Same.refl _ _) hx2810 rfl (fun _ h => h) rfl) ?_; intro a hst
               refine m_p hst trivial rfl (fun _ => x_move hst rfl) ?_; intro a hst
               refine m_p hst trivial rfl (fun _ => x_move hst rfl) ?_; intro a hst
               obtain ⟨x2811, hx2811, H⟩ := Option.bind_eq_some_iff.1 H
               refine m_p hst trivial rfl (fun _ => x_indexAddr hst Try.underlying57 el_9 rfl rfl hw2809_1 hx2811) ?_; intro a hst
               refine m_t hst trivial rfl (fun _ hsh => x_loadEF (j := 0) (cs := [.string x2811]) hst sc_9 rfl (hsh.row 1 rfl) (Same.refl _ _) hx2811 rfl (fun _ h => h) rfl) ?_; intro a hst
               refine m_p hst trivial rfl (fun _ => x_build (cs := [.string x2810, .string x2811, (.slice none 0 0)]) hst rfl (by kernel_rfl)) ?_; intro a hst
               refine m_loud (.inl rfl) ?_
               intro w2812 hsh
               refine r_alloc hst hsh trivial rfl zr_37 ?_
               intro g2813 a w2814 hgg2813 hsh hst
               refine m_on (MB := [Box g2813 [.string (ByteArray.mk #[]), .string (ByteArray.mk #[]), (.slice none 0 0)] 37, Row k_Tomb 30 v3 r1, Row Kd.str 9 v145 r142, Row k_Fragment 37 v_698 l_699]) [0, 0, 0, 0] [1, 1, 1] rfl rfl hsh rfl ?_
               refine m_loud (.inr rfl) ?_
               intro w2815 hsh
               refine r_storeBs (i := 0) (cs' := [.string x2810, .string x2811, (.slice none 0 0)]) (vs := [.string x2810, .string x2811, (.slice none 0 0)]) hst hsh trivial ag_37 rfl rfl rfl rfl (one_cons rfl (one_cons rfl (one_cons rfl rfl))) rfl ?_; intro a w2816 hsh hst
               refine m_turn hsh ?_
               refine m_nil ?_
               intro w2817 hsh
               refine qn_normal ?_
               refine then_normal ?_
               obtain ⟨J_981, hJ_981, H⟩ := Jn.elim H
               refine wq_cut (fun a w' => ∃ (v_978 : Value), ∃ (l_979 : (List Int)), J_981 l_979 = some r ∧ ST [] Try.f10.ntmps a [(0, v3), (2, (.slice none 0 0)), (3, v145), (6, v_698), (7, .int .i64 i_700), (8, .pointer (some ⟨g2813, 0, none⟩))] ∧ SH (fun _ => False) w w' [Row k_Tomb 30 v3 r1, Row Kd.str 9 v145 r142, Row k_Fragment 37 v_698 l_699, Box g2813 [.string x2810, .string x2811, v_978] 37, Row (Kd.int .u64) 23 v_978 l_979]) ?_ ?_
               · rintro a W_980 ⟨v_978, l_979, H, hst, hsh⟩
                 subst hJ_981
                 dsimp only at H
                 refine wq_seq ?_
                 refine wq_seq ?_
                 refine wq_region_lit (.inl rfl) ?_
                 refine r_t hst trivial rfl (x_fieldAddr (j' := 2) hst fa_37_2 rfl rfl) ?_; intro a hst
                 refine r_t hst trivial rfl (x_loadB (i := 3) hst hsh sc_35 rfl rfl rfl) ?_; intro a hst
                 refine r_t hst trivial rfl (x_lenSl hst Try.underlying35 rfl (hsh.row 4 rfl).slen) ?_; intro a hst
                 refine r_t hst trivial rfl (x_cmpI (b := ((l_979.length : Int) == 0)) hst rfl rfl rfl) ?_; intro a hst
                 refine wpL_nil ?_
                 refine then_normal ?_
                 by_cases c2901 : ((l_979.length : Int) == 0) = true
                 · rw [if_pos c2901] at H
                   refine wq_condT hst rfl c2901 ?_
                   refine wq_exit ?_
                   refine then_exit ?_
                   refine block_hit ?_
                   refine then_normal ?_
                   exact ⟨v_698, l_699, H, hst.keep _ ⟨rfl, rfl, rfl, rfl, rfl, trivial⟩, hsh.pick [0, 0, 0]⟩
                 · rw [if_neg c2901] at H
                   replace c2901 := Bool.eq_false_iff.2 c2901
                   refine wq_condF hst rfl c2901 ?_
                   refine wq_skip ?_
                   refine then_normal ?_
                   refine wq_seq ?_
                   refine wq_region_lit (.inl rfl) ?_
                   refine r_t hst trivial rfl (x_fieldAddr (j' := 2) hst fa_37_2 rfl rfl) ?_; intro a hst
                   refine r_t hst trivial rfl (x_loadB (i := 3) hst hsh sc_35 rfl rfl rfl) ?_; intro a hst
                   replace hsh := hsh.pick [4, 0, 0, 0, 0]
                   obtain ⟨GG2904, hsp, hG, hbx, hfx, hk⟩ := SH.callD (L1 := [Row (Kd.int .u64) 23 v_978 l_979]) (L2 := [Row k_Tomb 30 v3 r1, Row Kd.str 9 v145 r142, Row k_Fragment 37 v_698 l_699, Box g2813 [.string x2810, .string x2811, v_978] 37]) hsh
                   obtain ⟨r2902, hr2902, H⟩ := Option.bind_eq_some_iff.1 H
                   refine r_callD hst trivial rfl fn_21 rfl (tomb_unlike_uint64.calls k_865 _ GG2904 _ l_979 hsp r2902 hr2902) ?_
                   rintro e w2903 ⟨v2905, rfl, hc⟩
                   replace hsh := hk _ _ hc
                   clear hc
                   refine ⟨_, rfl, fun a hst => ?_⟩
                   refine r_t hst trivial rfl (x_fieldAddr (j' := 2) hst fa_37_2 rfl rfl) ?_; intro a hst
                   refine r_storeB (i := 4) (cs' := [.string x2810, .string x2811, v2905]) hst hsh trivial sc_35 rfl rfl rfl rfl (one_slice (hsh.row 0 rfl).slen) rfl ?_; intro a w2907 hsh hst
                   refine wpL_nil ?_
                   refine then_normal ?_
                   refine wq_seq ?_
                   refine wq_region_lit (.inl rfl) ?_
                   refine r_t hst trivial rfl (x_fieldAddr (j' := 2) hst fa_37_2 rfl rfl) ?_; intro a hst
                   refine r_t hst trivial rfl (x_loadB (i := 0) hst hsh sc_35 rfl rfl rfl) ?_; intro a hst
                   replace hsh := hsh.pick [1, 0, 0, 0, 0]
                   obtain ⟨GG2910, hsp, hG, hbx, hfx, hk⟩ := SH.callD (L1 := [Row (Kd.int .u64) 23 v2905 r2902]) (L2 := [Box g2813 [.string x2810, .string x2811, v2905] 37, Row k_Tomb 30 v3 r1, Row Kd.str 9 v145 r142, Row k_Fragment 37 v_698 l_699]) hsh
                   obtain ⟨r2908, hr2908, H⟩ := Option.bind_eq_some_iff.1 H
                   refine r_callD hst trivial rfl fn_22 rfl (slices_Reverse_uint64.calls k_865 _ GG2910 _ r2902 hsp r2908 hr2908) ?_
                   rintro e w2909 ⟨rfl, hc⟩
                   replace hsh := hk _ _ hc
                   clear hc
                   refine ⟨_, rfl, fun a hst => ?_⟩
                   refine wpL_nil ?_
                   refine then_normal ?_
                   refine wq_seq ?_
                   refine wq_seq ?_
                   refine wq_region_lit (.inl rfl) ?_
                   refine r_t hst trivial rfl (x_move hst rfl) ?_; intro a hst
                   refine r_t hst trivial rfl (x_lenSl hst Try.underlying33 rfl (hsh.row 4 rfl).slen) ?_; intro a hst
                   refine r_t hst trivial rfl (x_assign hst rfl) ?_; intro a hst
                   refine wpL_nil ?_
                   refine then_normal ?_
                   refine wq_seq ?_
                   obtain ⟨Z2947, hoZ2947, hsh⟩ := hsh.freeze 4 rfl
                   have hRZ2947 := hoZ2947.rd
                   refine wq_region_q (.inl rfl) (fun w' => SH (fun _ => False) w w' [Frz Z2947 w2909, Row (Kd.int .u64) 23 v2905 r2908, Box g2813 [.string x2810, .string x2811, v2905] 37, Row k_Tomb 30 v3 r1, Row Kd.str 9 v145 r142]) (shut_sh _ _ _) hsh.drew fo (by kernel_rfl) ?_
                   refine q_t hst trivial rfl (fun _ hsh => x_move hst rfl) ?_; intro a hst
                   refine q_t hst trivial rfl (fun _ hsh => x_cmpI (b := decide (0 < (l_699.length : Int))) hst rfl rfl rfl) ?_; intro a hst
                   refine q_t hst trivial rfl (fun _ hsh => x_move hst rfl) ?_; intro a hst
                   obtain ⟨J_989, hJ_989, H⟩ := Jn.elim H
                   refine q_join 13 (fun a => ∃ (b_988 : Bool), J_989 b_988 = some r ∧ ST [] Try.f10.ntmps a [(0, v3), (2, (.slice none 0 0)), (3, v145), (6, v_698), (7, .int .i64 i_700), (8, .pointer (some ⟨g2813, 0, none⟩)), (11, .int .i64 (l_699.length : Int)), (97, .bool b_988)]) ?_ ?_
                   · rintro a ⟨b_988, H, hst⟩
                     subst hJ_989
                     dsimp only at H
                     refine q_t hst trivial rfl (fun _ hsh => x_move hst rfl) ?_; intro a hst
                     obtain ⟨J_992, hJ_992, H⟩ := Jn.elim H
                     refine q_join 24 (fun a => ∃ (b_991 : Bool), J_992 b_991 = some r ∧ ST [] Try.f10.ntmps a [(0, v3), (2, (.slice none 0 0)), (3, v145), (6, v_698), (7, .int .i64 i_700), (8, .pointer (some ⟨g2813, 0, none⟩)), (11, .int .i64 (l_699.length : Int)), (108, .bool b_991)]) ?_ ?_
                     · rintro a ⟨b_991, H, hst⟩
                       subst hJ_992
                       dsimp only at H
                       refine q_nil ?_
                       intro w2962 hsh
                       refine then_normal ?_
                       by_cases c2963 : b_991 = true
                       · rw [if_pos c2963] at H
                         refine wq_condT hst rfl c2963 ?_
                         refine wq_seq ?_
                         refine wq_region_lit (.inl rfl) ?_
                         refine r_t hst trivial rfl (x_move hst rfl) ?_; intro a hst
                         refine r_t hst trivial rfl (x_move hst rfl) ?_; intro a hst
                         refine r_t hst trivial rfl (x_arI (r := w64 ((l_699.length : Int) - 1)) hst rfl rfl rfl) ?_; intro a hst
                         refine r_t hst trivial rfl (x_fieldAddr (j' := 1) hst fa_37_1 rfl rfl) ?_; intro a hst
                         refine r_t hst trivial rfl (x_loadB (i := 2) hst hsh sc_9 rfl rfl rfl) ?_; intro a hst
                         obtain ⟨x2964, hx2964, H⟩ := Option.bind_eq_some_iff.1 H
                         refine r_t hst trivial rfl (x_indexAddr hst Try.underlying33 el_37 rfl rfl hRZ2947 hx2964) ?_; intro a hst
                         obtain ⟨_, hk2965, hc2966⟩ := RD.cells2 hRZ2947 hx2964
                         obtain ⟨_, _, rfl, rfl, ⟨_, _, rfl, rfl, ⟨v2967, rfl, hr2968⟩⟩⟩ := hk2965
                         refine r_t hst trivial rfl (x_fieldAddrE (n' := Int.toNat (w64 ((l_699.length : Int) - 1)) * k_Fragment.sz + 1) hst fa_37_1 rfl rfl) ?_; intro a hst
                         replace hsh := hsh.thaw 0 rfl hoZ2947
                         obtain ⟨l2969, hl2969, H⟩ := Option.bind_eq_some_iff.1 H
                         refine r_storeEF (i := 0) (off := 1) (new := (⟨x2964.Begin, x2811, x2964.Seqs⟩ : Fragment)) hst hsh trivial sc_9 rfl rfl rfl hx2964 rfl (Nat.le_of_ble_eq_true rfl) rfl (fld_iso (fld_snd (off := 0) rfl (fld_fst (by decide) (fld_flat rfl)))) ?_; intro a w2970 hsh hst
                         rw [← upd_some hl2969] at hsh
                         refine wpL_nil ?_
                         refine then_normal ?_
                         refine wq_exit ?_
                         refine then_exit ?_
                         refine block_hit ?_
                         refine then_normal ?_
                         exact ⟨v_698, l2969, H, hst.keep _ ⟨rfl, rfl, rfl, rfl, rfl, trivial⟩, hsh.pick [3, 3, 0]⟩
                       · rw [if_neg c2963] at H
                         replace c2963 := Bool.eq_false_iff.2 c2963
                         refine wq_condF hst rfl c2963 ?_
                         refine wq_skip ?_
                         refine then_normal ?_
                         refine wq_region_lit (.inl rfl) ?_
                         refine r_t hst trivial rfl (x_move hst rfl) ?_; intro a hst
                         refine r_t hst trivial rfl (x_loadBs (i := 2) (ps := [.string x2810, .string x2811, v2905]) hst hsh ag_37 rfl rfl rfl) ?_; intro a hst
                         refine r_buildSlice (vs := [.agg #[.string x2810, .string x2811, v2905]]) (cs := [.string x2810, .string x2811, v2905]) hst hsh trivial rfl Try.underlying33 el_37 rfl rfl (by simp [Value.cells]) rfl rfl ?_
                         intro g2971 a w2972 hgg2971 hsh hst
                         replace hsh := hsh.thaw 1 rfl hoZ2947
                         replace hsh := hsh.pick [0, 0, 0, 0, 0, 0]
                         obtain ⟨l2973, hl2973, H⟩ := Option.bind_eq_some_iff.1 H
                         refine r_append1 (xx := (⟨x2810, x2811, r2908⟩ : Fragment)) (C := [Row (Kd.int .u64) 23 v2905 r2908]) (M := [Box g2813 [.string x2810, .string x2811, v2905] 37, Row k_Tomb 30 v3 r1, Row Kd.str 9 v145 r142]) hst hsh trivial rfl Try.underlying33 el_37 (by decide) (by decide) (by decide) rfl rfl (mf_iso (mf_pair mf_flat (mf_pair mf_flat mf_slice))) hl2973 ?_
                         intro v2974 a w2975 hsh hst
                         refine r_t hst trivial rfl (x_assign hst rfl) ?_; intro a hst
                         refine wpL_nil ?_
                         refine block_normal ?_
                         refine then_normal ?_
                         exact ⟨v2974, l2973, H, hst.keep _ ⟨rfl, rfl, rfl, rfl, rfl, trivial⟩, hsh.pick [2, 2, 0]⟩
                     · intro hj
                       by_cases c2954 : b_988 = true
                       · rw [if_pos c2954] at H
                         refine q_t hst (wt_of 98 rfl rfl c2954) rfl (fun _ hsh => x_move hst rfl) ?_; intro a hst
                         refine q_t hst (wt_of 98 rfl rfl c2954) rfl (fun _ hsh => x_move hst rfl) ?_; intro a hst
                         refine q_t hst (wt_of 98 rfl rfl c2954) rfl (fun _ hsh => x_arI (r := w64 ((l_699.length : Int) - 1)) hst rfl rfl rfl) ?_; intro a hst
                         obtain ⟨x2976, hx2976, H⟩ := Option.bind_eq_some_iff.1 H
                         refine q_t hst (wt_of 98 rfl rfl c2954) rfl (fun _ hsh => x_indexAddr hst Try.underlying33 el_37 rfl rfl hRZ2947 hx2976) ?_; intro a hst
                         obtain ⟨_, hk2977, hc2978⟩ := RD.cells2 hRZ2947 hx2976
                         obtain ⟨_, _, rfl, rfl, ⟨_, _, rfl, rfl, ⟨v2979, rfl, hr2980⟩⟩⟩ := hk2977
                         refine q_t hst (wt_of 98 rfl rfl c2954) rfl (fun _ hsh => x_fieldAddrE (n' := Int.toNat (w64 ((l_699.length : Int) - 1)) * k_Fragment.sz + 2) hst fa_37_2 rfl rfl) ?_; intro a hst
                         refine q_t hst (wt_of 98 rfl rfl c2954) rfl (fun _ hsh => x_loadC hst sc_35 rfl (hc2978 _ (hsh.frz 0 rfl) 2 _ rfl)) ?_; intro a hst
                         refine q_t hst (wt_of 98 rfl rfl c2954) rfl (fun _ hsh => x_fieldAddr (j' := 2) hst fa_37_2 rfl rfl) ?_; intro a hst
                         refine q_t hst (wt_of 98 rfl rfl c2954) rfl (fun _ hsh => x_loadB (i := 2) hst hsh sc_35 rfl rfl rfl) ?_; intro a hst
                         obtain ⟨r2981, hr2981, H⟩ := Option.bind_eq_some_iff.1 H
                         refine q_call hst (wt_of 98 rfl rfl c2954) rfl fn_23 rfl (fun w9 hsh => slices_Equal_uint64.calls k_865 _ _ _ _ (hsh.frz 0 rfl) _ hr2980 _ _ _ (Same.refl _ _) _ (hsh.row 1 rfl) r2981 hr2981) ?_; intro a hst
                         refine q_t hst trivial rfl (fun _ hsh => x_pickT hst rfl c2954 rfl) ?_; intro a hst
                         exact hj _ ⟨r2981, H, hst.keep _ ⟨rfl, rfl, rfl, rfl, rfl, rfl, rfl, rfl, trivial⟩⟩
                       · rw [if_neg c2954] at H
                         replace c2954 := Bool.eq_false_iff.2 c2954
                         refine q_not hst 98 rfl rfl c2954 rfl ?_; intro a hst
                         refine q_not hst 98 rfl rfl c2954 rfl ?_; intro a hst
                         refine q_not hst 98 rfl rfl c2954 rfl ?_; intro a hst
                         refine q_not hst 98 rfl rfl c2954 rfl ?_; intro a hst
                         refine q_not hst 98 rfl rfl c2954 rfl ?_; intro a hst
                         refine q_not hst 98 rfl rfl c2954 rfl ?_; intro a hst
                         refine q_not hst 98 rfl rfl c2954 rfl ?_; intro a hst
                         refine q_not hst 98 rfl rfl c2954 rfl ?_; intro a hst
                         refine q_not hst 98 rfl rfl c2954 rfl ?_; intro a hst
                         refine q_t hst trivial rfl (fun _ hsh => x_pickF hst rfl c2954 rfl) ?_; intro a hst
                         exact hj _ ⟨false, H, hst.keep _ ⟨rfl, rfl, rfl, rfl, rfl, rfl, rfl, rfl, trivial⟩⟩
                   · intro hj
                     by_cases c2948 : (decide (0 < (l_699.length : Int))) = true
                     · rw [if_pos c2948] at H
                       refine q_t hst (wt_of 87 rfl rfl c2948) rfl (fun _ hsh => x_move hst rfl) ?_; intro a hst
                       refine q_t hst (wt_of 87 rfl rfl c2948) rfl (fun _ hsh => x_move hst rfl) ?_; intro a hst
                       refine q_t hst (wt_of 87 rfl rfl c2948) rfl (fun _ hsh => x_arI (r := w64 ((l_699.length : Int) - 1)) hst rfl rfl rfl) ?_; intro a hst
                       obtain ⟨x2983, hx2983, H⟩ := Option.bind_eq_some_iff.1 H
                       refine q_t hst (wt_of 87 rfl rfl c2948) rfl (fun _ hsh => x_indexAddr hst Try.underlying33 el_37 rfl rfl hRZ2947 hx2983) ?_; intro a hst
                       obtain ⟨_, hk2984, hc2985⟩ := RD.cells2 hRZ2947 hx2983
                       obtain ⟨_, _, rfl, rfl, ⟨_, _, rfl, rfl, ⟨v2986, rfl, hr2987⟩⟩⟩ := hk2984
                       refine q_t hst (wt_of 87 rfl rfl c2948) rfl (fun _ hsh => x_fieldAddrE (n' := Int.toNat (w64 ((l_699.length : Int) - 1)) * k_Fragment.sz + 1) hst fa_37_1 rfl rfl) ?_; intro a hst
                       refine q_t hst (wt_of 87 rfl rfl c2948) rfl (fun _ hsh => x_loadC hst sc_9 rfl (hc2985 _ (hsh.frz 0 rfl) 1 _ rfl)) ?_; intro a hst
                       refine q_t hst (wt_of 87 rfl rfl c2948) rfl (fun _ hsh => x_fieldAddr (j' := 0) hst fa_37_0 rfl rfl) ?_; intro a hst
                       refine q_t hst (wt_of 87 rfl rfl c2948) rfl (fun _ hsh => x_loadB (i := 2) hst hsh sc_9 rfl rfl rfl) ?_; intro a hst
                       refine q_t hst (wt_of 87 rfl rfl c2948) rfl (fun _ hsh => x_cmpS (b := sEq x2983.End x2810) hst rfl rfl rfl) ?_; intro a hst
                       refine q_t hst trivial rfl (fun _ hsh => x_pickT hst rfl c2948 rfl) ?_; intro a hst
                       exact hj _ ⟨(sEq x2983.End x2810), H, hst.keep _ ⟨rfl, rfl, rfl, rfl, rfl, rfl, rfl, rfl, trivial⟩⟩
                     · rw [if_neg c2948] at H
                       replace c2948 := Bool.eq_false_iff.2 c2948
                       refine q_not hst 87 rfl rfl c2948 rfl ?_; intro a hst
                       refine q_not hst 87 rfl rfl c2948 rfl ?_; intro a hst
                       refine q_not hst 87 rfl rfl c2948 rfl ?_; intro a hst
                       refine q_not hst 87 rfl rfl c2948 rfl ?_; intro a hst
                       refine q_not hst 87 rfl rfl c2948 rfl ?_; intro a hst
                       refine q_not hst 87 rfl rfl c2948 rfl ?_; intro a hst
                       refine q_not hst 87 rfl rfl c2948 rfl ?_; intro a hst
                       refine q_not hst 87 rfl rfl c2948 rfl ?_; intro a hst
                       refine q_not hst 87 rfl rfl c2948 rfl ?_; intro a hst
                       refine q_t hst trivial rfl (fun _ hsh => x_pickF hst rfl c2948 rfl) ?_; intro a hst
                       exact hj _ ⟨false, H, hst.keep _ ⟨rfl, rfl, rfl, rfl, rfl, rfl, rfl, rfl, trivial⟩⟩
               · refine wq_seq ?_
                 refine wq_region_lit (.inl rfl) ?_
                 refine r_t hst trivial rfl (x_move hst rfl) ?_; intro a hst
                 refine r_t hst trivial rfl (x_lenSl hst Try.underlying22 rfl (hsh.row 1 rfl).slen) ?_; intro a hst
                 refine r_t hst trivial rfl (x_move hst rfl) ?_; intro a hst
                 refine wpL_nil ?_
                 refine then_normal ?_
                 refine wq_block ?_
                 have hsh := hsh.addNil (Kd.int .u64) 23
                 refine wq_loop_fuel (fun k_1019 a w' => ∃ (v_1006 : Value), ∃ (l_1007 : (List Int)), ∃ (i_1008 : Int), tomb_Fragments.l2 r1 x2810 x2811 J_981 k_1019 l_1007 i_1008 = some r ∧ ST [] Try.f10.ntmps a [(0, v3), (2, (.slice none 0 0)), (3, v145), (6, v_698), (7, .int .i64 i_700), (8, .pointer (some ⟨g2813, 0, none⟩)), (46, v3), (47, .int .i64 (r1.length : Int)), (48, .int .i64 i_1008)] ∧ SH (fun _ => False) w w' [Row k_Tomb 30 v3 r1, Row Kd.str 9 v145 r142, Row k_Fragment 37 v_698 l_699, Box g2813 [.string x2810, .string x2811, v_1006] 37, Row (Kd.int .u64) 23 v_1006 l_1007]) k_865 ?_ ?_
                 · exact ⟨(.slice none 0 0), ([]), 0, H, hst.keep _ ⟨rfl, rfl, rfl, rfl, rfl, rfl, rfl, rfl, rfl, trivial⟩, hsh.pick [2, 2, 2, 1, 0]⟩
                 · rintro k_1019 a W_1009 ⟨v_1006, l_1007, i_1008, H, hst, hsh⟩
                   cases k_1019 with
                   | zero => rw [tomb_Fragments.l2] at H; cases H
                   | succ k_1019 =>
                    rw [tomb_Fragments.l2] at H
                    refine wq_seq ?_
                    refine wq_region_lit (.inl rfl) ?_
                    refine r_t hst trivial rfl (x_cmpI (b := decide (i_1008 < (r1.length : Int))) hst rfl rfl rfl) ?_; intro a hst
                    refine wpL_nil ?_
                    refine then_normal ?_
                    refine wq_seq ?_
                    by_cases c3044 : (decide (i_1008 < (r1.length : Int))) = true
                    · rw [if_pos c3044] at H
                      refine wq_condT hst rfl c3044 ?_
                      refine wq_skip ?_
                      refine then_normal ?_
                      obtain ⟨J_1023, hJ_1023, H⟩ := Jn.elim H
                      refine wq_cut (fun a w' => ∃ (v_1020 : Value), ∃ (l_1021 : (List Int)), J_1023 l_1021 = some r ∧ ST [] Try.f10.ntmps a [(0, v3), (2, (.slice none 0 0)), (3, v145), (6, v_698), (7, .int .i64 i_700), (8, .pointer (some ⟨g2813, 0, none⟩)), (46, v3), (47, .int .i64 (r1.length : Int)), (48, .int .i64 i_1008)] ∧ SH (fun _ => False) w w' [Row k_Tomb 30 v3 r1, Row Kd.str 9 v145 r142, Row k_Fragment 37 v_698 l_699, Box g2813 [.string x2810, .string x2811, v_1020] 37, Row (Kd.int .u64) 23 v_1020 l_1021]) ?_ ?_
                      · rintro a W_1022 ⟨v_1020, l_1021, H, hst, hsh⟩
                        subst hJ_1023
                        dsimp only at H
                        refine wq_region_lit (.inl rfl) ?_
                        refine r_t hst trivial rfl (x_arI (r := w64 (i_1008 + 1)) hst rfl rfl rfl) ?_; intro a hst
                        refine r_t hst trivial rfl (x_move hst rfl) ?_; intro a hst
                        refine wpL_nil ?_
                        refine then_normal ?_
                        exact ⟨k_1019, Nat.lt_succ_self _, v_1020, l_1021, (w64 (i_1008 + 1)), H, hst.keep _ ⟨rfl, rfl, rfl, rfl, rfl, rfl, rfl, rfl, rfl, trivial⟩, hsh.pick [0, 0, 0, 0, 0]⟩
                      · refine wq_block ?_
                        refine wq_seq ?_
                        refine wq_region_lit (.inl rfl) ?_
                        obtain ⟨x3057, hx3057, H⟩ := Option.bind_eq_some_iff.1 H
                        refine r_t hst trivial rfl (x_indexAddr hst Try.underlying22 el_30 rfl rfl (hsh.row 0 rfl) hx3057) ?_; intro a hst
                        refine r_t hst trivial rfl (x_loadEsF (j := 0) (cs := [.string x3057.Begin, .string x3057.End, .int .u64 x3057.Seq]) (ps := [.string x3057.Begin, .string x3057.End, .int .u64 x3057.Seq]) hst ag_30 rfl (hsh.row 0 rfl) (Same.refl _ _) hx3057 rfl (fun _ h => h) rfl) ?_; intro a hst
                        refine r_alloc hst hsh trivial rfl zr_30 ?_
                        intro g3058 a w3059 hgg3058 hsh hst
                        refine r_storeBs (i := 0) (cs' := [.string x3057.Begin, .string x3057.End, .int .u64 x3057.Seq]) (vs := [.string x3057.Begin, .string x3057.End, .int .u64 x3057.Seq]) hst hsh trivial ag_30 rfl rfl rfl rfl rfl rfl ?_; intro a w3060 hsh hst
                        refine wpL_nil ?_
                        refine then_normal ?_
                        refine wq_seq ?_
                        refine wq_region_lit (.inl rfl) ?_
                        refine r_t hst trivial rfl (x_fieldAddr (j' := 0) hst fa_30_0 rfl rfl) ?_; intro a hst
                        refine r_t hst trivial rfl (x_loadB (i := 0) hst hsh sc_9 rfl rfl rfl) ?_; intro a hst
                        refine r_t hst trivial rfl (x_fieldAddr (j' := 0) hst fa_37_0 rfl rfl) ?_; intro a hst
                        refine r_t hst trivial rfl (x_loadB (i := 4) hst hsh sc_9 rfl rfl rfl) ?_; intro a hst
                        refine r_t hst trivial rfl (x_cmpS (b := (sLt x3057.Begin x2810 || sEq x3057.Begin x2810)) hst rfl rfl rfl) ?_; intro a hst
                        refine r_t hst trivial rfl (x_move hst rfl) ?_; intro a hst
                        refine wl_join0 (Δ := []) (N := Try.f10.ntmps) 12 [(0, v3), (2, (.slice none 0 0)), (3, v145), (6, v_698), (7, .int .i64 i_700), (8, .pointer (some ⟨g2813, 0, none⟩)), (10, .pointer (some ⟨g3058, 0, none⟩)), (46, v3), (47, .int .i64 (r1.length : Int)), (48, .int .i64 i_1008), (63, .bool ((sLt x3057.Begin x2810 || sEq x3057.Begin x2810) && (sLt x2811 x3057.End || sEq x2811 x3057.End)))] ?_ ?_
                        · intro a hst
                          refine wpL_nil ?_
                          refine then_normal ?_
                          by_cases c3062 : ((sLt x3057.Begin x2810 || sEq x3057.Begin x2810) && (sLt x2811 x3057.End || sEq x2811 x3057.End)) = true
                          · rw [if_pos c3062] at H
                            refine wq_condT hst rfl c3062 ?_
                            refine wq_region_lit (.inl rfl) ?_
                            refine r_t hst trivial rfl (x_fieldAddr (j' := 2) hst fa_37_2 rfl rfl) ?_; intro a hst
                            refine r_t hst trivial rfl (x_loadB (i := 4) hst hsh sc_35 rfl rfl rfl) ?_; intro a hst
                            refine r_t hst trivial rfl (x_fieldAddr (j' := 2) hst fa_30_2 rfl rfl) ?_; intro a hst
                            refine r_t hst trivial rfl (x_loadB (i := 0) hst hsh sc_23 rfl rfl rfl) ?_; intro a hst
                            refine r_buildSlice (vs := [.int .u64 x3057.Seq]) (cs := [.int .u64 x3057.Seq]) hst hsh trivial rfl Try.underlying35 el_23 rfl rfl (by simp [Value.cells]) rfl rfl ?_
                            intro g3063 a w3064 hgg3063 hsh hst
                            replace hsh := hsh.pick [6, 0, 0, 0, 0, 0, 0]
                            obtain ⟨l3065, hl3065, H⟩ := Option.bind_eq_some_iff.1 H
                            refine r_append1 (xx := x3057.Seq) (C := []) (M := [Box g3058 [.string x3057.Begin, .string x3057.End, .int .u64 x3057.Seq] 30, Row k_Tomb 30 v3 r1, Row Kd.str 9 v145 r142, Row k_Fragment 37 v_698 l_699, Box g2813 [.string x2810, .string x2811, v_1006] 37]) hst hsh trivial rfl Try.underlying35 el_23 (by decide) (by decide) (by decide) rfl rfl (fun _ _ _ => rfl) hl3065 ?_
                            intro v3066 a w3067 hsh hst
                            refine r_t hst trivial rfl (x_fieldAddr (j' := 2) hst fa_37_2 rfl rfl) ?_; intro a hst
                            refine r_storeB (i := 5) (cs' := [.string x2810, .string x2811, v3066]) hst hsh trivial sc_35 rfl rfl rfl rfl (one_slice (hsh.row 0 rfl).slen) rfl ?_; intro a w3068 hsh hst
                            refine wpL_nil ?_
                            refine block_normal ?_
                            refine then_normal ?_
                            exact ⟨v3066, l3065, H, hst.keep _ ⟨rfl, rfl, rfl, rfl, rfl, rfl, rfl, rfl, rfl, trivial⟩, hsh.pick [3, 3, 3, 0, 0]⟩
                          · rw [if_neg c3062] at H
                            replace c3062 := Bool.eq_false_iff.2 c3062
                            refine wq_condF hst rfl c3062 ?_
                            refine wq_skip ?_
                            refine block_normal ?_
                            refine then_normal ?_
                            exact ⟨v_1006, l_1007, H, hst.keep _ ⟨rfl, rfl, rfl, rfl, rfl, rfl, rfl, rfl, rfl, trivial⟩, hsh.pick [1, 1, 1, 1, 1]⟩
                        · intro hj
                          by_cases c3061 : (sLt x3057.Begin x2810 || sEq x3057.Begin x2810) = true
                          · refine r_t hst (wt_of 57 rfl rfl c3061) rfl (x_fieldAddr (j' := 1) hst fa_37_1 rfl rfl) ?_; intro a hst
                            refine r_t hst (wt_of 57 rfl rfl c3061) rfl (x_loadB (i := 4) hst hsh sc_9 rfl rfl rfl) ?_; intro a hst
                            refine r_t hst (wt_of 57 rfl rfl c3061) rfl (x_fieldAddr (j' := 1) hst fa_30_1 rfl rfl) ?_; intro a hst
                            refine r_t hst (wt_of 57 rfl rfl c3061) rfl (x_loadB (i := 0) hst hsh sc_9 rfl rfl rfl) ?_; intro a hst
                            refine r_t hst (wt_of 57 rfl rfl c3061) rfl (x_cmpS (b := (sLt x2811 x3057.End || sEq x2811 x3057.End)) hst rfl rfl rfl) ?_; intro a hst
                            refine r_t hst trivial rfl (x_andT hst rfl c3061 rfl) ?_; intro a hst
                            exact hj _ (hst.keep _ ⟨rfl, rfl, rfl, rfl, rfl, rfl, rfl, rfl, rfl, rfl, rfl, trivial⟩)
                          · replace c3061 := Bool.eq_false_iff.2 c3061
                            refine r_not hst 57 rfl rfl c3061 rfl ?_; intro a hst
                            refine r_not hst 57 rfl rfl c3061 rfl ?_; intro a hst
                            refine r_not hst 57 rfl rfl c3061 rfl ?_; intro a hst
                            refine r_not hst 57 rfl rfl c3061 rfl ?_; intro a hst
                            refine r_not hst 57 rfl rfl c3061 rfl ?_; intro a hst
                            refine r_t hst trivial rfl (x_andF (sLt x2811 x3057.End || sEq x2811 x3057.End) hst rfl c3061 rfl) ?_; intro a hst
                            exact hj _ (hst.keep _ ⟨rfl, rfl, rfl, rfl, rfl, rfl, rfl, rfl, rfl, rfl, rfl, trivial⟩)
                    · rw [if_neg c3044] at H
                      replace c3044 := Bool.eq_false_iff.2 c3044
                      refine wq_condF hst rfl c3044 ?_
                      refine wq_exit ?_
                      refine then_exit ?_
                      refine then_exit ?_
                      refine block_hit ?_
                      refine then_normal ?_
                      exact ⟨v_1006, l_1007, H, hst.keep _ ⟨rfl, rfl, rfl, rfl, rfl, rfl, trivial⟩, hsh.pick [0, 0, 0, 0, 0]⟩
           · rw [if_neg c2549] at H
             replace c2549 := Bool.eq_false_iff.2 c2549
             refine wq_condF hst rfl c2549 ?_
             refine wq_exit ?_
             refine then_exit ?_
             refine then_exit ?_
             refine block_hit ?_
             refine then_normal ?_
             exact ⟨v_698, l_699, H, hst.keep _ ⟨rfl, rfl, trivial⟩, hsh.pick [2]⟩
end Go.Proofs.Ytmbhgfigffahbaa.Mo
