/- Printed by gen.py: contracts. -/
import Derived.Test.YtbbepmmelpabbaaVerCa0
set_option linter.unusedVariables false
set_option linter.unusedSectionVars false
set_option linter.unusedSimpArgs false
set_option maxRecDepth 100000
namespace Go.Proofs.Ytbbepmmelpabbaa.Mo
open Go Go.Proofs.Ytbbepmmelpabbaa.Sy
open Go.Proofs
set_option maxHeartbeats 4000000 in
set_option maxRecDepth 100000 in
theorem slices_partitionEqualOrdered_int.calls (k : Nat) (w : World) (GG : Nat → Prop) (va0 : Value) (a0 : (List Int)) (a1 : Int) (a2 : Int) (a3 : Int) (hsep : Sep GG w [Row (Kd.int .i64) 3 va0 a0]) (r : (Int × (List Int))) (h : slices_partitionEqualOrdered_int k a0 a1 a2 a3 = some r) :
    Calls Try.prog 77 ([va0, .int .i64 a1, .int .i64 a2, .int .i64 a3] : List Value).toArray w fun e w' => e = .returned (.int .i64 r.1) ∧ SH GG w w' [Row (Kd.int .i64) 3 va0 r.2] := by
 have H := h
 clear h
 unfold slices_partitionEqualOrdered_int at H
 refine calls_enter Try.func77 rfl rfl ?_
 intro a hst
 have hsh := SH.start hsep
 refine wq_seq ?_
 refine wq_region_lit (.inl rfl) ?_
 refine r_t hst trivial rfl (x_assign hst rfl) ?_; intro a hst
 refine wpL_nil ?_
 refine then_normal ?_
 refine wq_seq ?_
 have hw0_0 := hsh.row 0 rfl
 refine wq_region_t (.inl rfl) (.fin [(3, 0), (3, 1), (3, 2), (3, 3), (3, 4), (3, 5), (3, 6), (0, 7), (3, 8), (3, 9), (3, 10), (0, 11), (3, 12), (2, 13), (0, 14), (2, 15)]) (fun w' => SH GG w w' []) (fun w' => SH GG w w' [Row (Kd.int .i64) 3 va0 a0]) (fun w' => SH GG w w' [Row (Kd.int .i64) 3 va0 a0]) (shut_sh _ _ _) (shut_sh _ _ _) (shut_sh _ _ _) (sub_sh [] rfl) (sub_sh [0] rfl) hsh.drew fo (by kernel_rfl) ?_
 refine t_fin ?_
 refine m_p hst trivial rfl (fun _ => x_move hst rfl) ?_; intro a hst
 refine m_p hst trivial rfl (fun _ => x_move hst rfl) ?_; intro a hst
 refine m_p hst trivial rfl (fun _ => x_move hst rfl) ?_; intro a hst
 refine m_p hst trivial rfl (fun _ => x_move hst rfl) ?_; intro a hst
 refine m_p hst trivial rfl (fun _ => x_move hst rfl) ?_; intro a hst
 refine m_p hst trivial rfl (fun _ => x_move hst rfl) ?_; intro a hst
 obtain ⟨x1, hx1, H⟩ := Option.bind_eq_some_iff.1 H
 refine m_p hst trivial rfl (fun _ => x_indexAddr hst Try.underlying56 el_3 rfl rfl hw0_0 hx1) ?_; intro a hst
 refine m_t hst trivial rfl (fun _ hsh => x_loadEF (j := 0) (cs := [.int .i64 x1]) hst sc_3 rfl (hsh.row 0 rfl) (Same.refl _ _) hx1 rfl (fun _ h => h) rfl) ?_; intro a hst
 refine m_p hst trivial rfl (fun _ => x_move hst rfl) ?_; intro a hst
 refine m_p hst trivial rfl (fun _ => x_move hst rfl) ?_; intro a hst
 obtain ⟨x2, hx2, H⟩ := Option.bind_eq_some_iff.1 H
 refine m_p hst trivial rfl (fun _ => x_indexAddr hst Try.underlying56 el_3 rfl rfl hw0_0 hx2) ?_; intro a hst
 refine m_t hst trivial rfl (fun _ hsh => x_loadEF (j := 0) (cs := [.int .i64 x2]) hst sc_3 rfl (hsh.row 0 rfl) (Same.refl _ _) hx2 rfl (fun _ h => h) rfl) ?_; intro a hst
 obtain ⟨x3, hx3, H⟩ := Option.bind_eq_some_iff.1 H
 refine m_p hst trivial rfl (fun _ => x_indexAddr hst Try.underlying56 el_3 rfl rfl hw0_0 hx3) ?_; intro a hst
 refine m_loud (.inr rfl) ?_
 intro w4 hsh
 obtain ⟨l5, hl5, H⟩ := Option.bind_eq_some_iff.1 H
 refine r_storeE (i := 0) (off := 0) (new := x1) (cs' := [.int .i64 x1]) hst hsh trivial sc_3 rfl rfl rfl hx3 rfl (Nat.le_of_ble_eq_true rfl) rfl (fun _ _ _ h => by rw [h]; rfl) (fun _ _ => rfl) ?_; intro a w6 hsh hst
 rw [← upd_some hl5] at hsh
 refine m_turn hsh (sub_sh [] rfl) ?_
 obtain ⟨x7, hx7, H⟩ := Option.bind_eq_some_iff.1 H
 refine m_t hst trivial rfl (fun _ hsh => x_indexAddr hst Try.underlying56 el_3 rfl rfl (hsh.row 0 rfl) hx7) ?_; intro a hst
 refine m_loud (.inr rfl) ?_
 intro w8 hsh
 obtain ⟨l9, hl9, H⟩ := Option.bind_eq_some_iff.1 H
 refine r_storeE (i := 0) (off := 0) (new := x2) (cs' := [.int .i64 x2]) hst hsh trivial sc_3 rfl rfl rfl hx7 rfl (Nat.le_of_ble_eq_true rfl) rfl (fun _ _ _ h => by rw [h]; rfl) (fun _ _ => rfl) ?_; intro a w10 hsh hst
 rw [← upd_some hl9] at hsh
 refine m_turn hsh (sub_sh [] rfl) ?_
 refine m_nil ?_
 intro w11 hsh
 refine qn_normal ?_
 refine then_normal ?_
 refine wq_seq ?_
 refine wq_region_lit (.inl rfl) ?_
 refine r_t hst trivial rfl (x_move hst rfl) ?_; intro a hst
 refine r_t hst trivial rfl (x_arI (r := w64 (a1 + 1)) hst rfl rfl rfl) ?_; intro a hst
 refine r_t hst trivial rfl (x_move hst rfl) ?_; intro a hst
 refine r_t hst trivial rfl (x_arI (r := w64 (a2 - 1)) hst rfl rfl rfl) ?_; intro a hst
 refine r_t hst trivial rfl (x_assign hst rfl) ?_; intro a hst
 refine r_t hst trivial rfl (x_assign hst rfl) ?_; intro a hst
 refine wpL_nil ?_
 refine then_normal ?_
 refine wq_seq ?_
 refine wq_block ?_
 refine wq_loop_fuel (fun k_580 a w' => ∃ (l_462 : (List Int)), ∃ (i_463 : Int), ∃ (i_464 : Int), slices_partitionEqualOrdered_int.l0 a1 k_580 l_462 i_463 i_464 = some r ∧ ST [] Try.f77.ntmps a [(0, va0), (1, .int .i64 a1), (8, .int .i64 0), (9, .int .i64 i_463), (10, .int .i64 i_464)] ∧ SH GG w w' [Row (Kd.int .i64) 3 va0 l_462]) k ?_ ?_
 · exact ⟨l9, (w64 (a1 + 1)), (w64 (a2 - 1)), H, hst.keep _ ⟨rfl, rfl, rfl, rfl, rfl, trivial⟩, hsh.pick [0]⟩
 · rintro k_580 a W_465 ⟨l_462, i_463, i_464, H, hst, hsh⟩
   cases k_580 with
   | zero => rw [slices_partitionEqualOrdered_int.l0] at H; cases H
   | succ k_580 =>
    rw [slices_partitionEqualOrdered_int.l0] at H
    refine wq_block ?_
    obtain ⟨J_609, hJ_609, H⟩ := Jn.elim H
    refine wq_cut (fun a w' => ∃ (i_607 : Int), J_609 i_607 = some r ∧ ST [] Try.f77.ntmps a [(0, va0), (1, .int .i64 a1), (8, .int .i64 0), (9, .int .i64 i_607), (10, .int .i64 i_464)] ∧ SH GG w w' [Row (Kd.int .i64) 3 va0 l_462]) ?_ ?_
    · rintro a W_608 ⟨i_607, H, hst, hsh⟩
      subst hJ_609
      dsimp only at H
      obtain ⟨J_638, hJ_638, H⟩ := Jn.elim H
      refine wq_cut (fun a w' => ∃ (i_636 : Int), J_638 i_636 = some r ∧ ST [] Try.f77.ntmps a [(0, va0), (1, .int .i64 a1), (8, .int .i64 0), (9, .int .i64 i_607), (10, .int .i64 i_636)] ∧ SH GG w w' [Row (Kd.int .i64) 3 va0 l_462]) ?_ ?_
      · rintro a W_637 ⟨i_636, H, hst, hsh⟩
        subst hJ_638
        dsimp only at H
        refine wq_seq ?_
        refine wq_seq ?_
        refine wq_region_lit (.inl rfl) ?_
        refine r_t hst trivial rfl (x_move hst rfl) ?_; intro a hst
        refine r_t hst trivial rfl (x_move hst rfl) ?_; intro a hst
        refine r_t hst trivial rfl (x_cmpI (b := decide (i_636 < i_607)) hst rfl rfl rfl) ?_; intro a hst
        refine wpL_nil ?_
        refine then_normal ?_
        by_cases c1530 : (decide (i_636 < i_607)) = true
        · rw [if_pos c1530] at H
          refine wq_condT hst rfl c1530 ?_
          refine wq_exit ?_
          refine then_exit ?_
          refine block_miss rfl ?_
          refine then_exit ?_
          refine block_hit ?_
          refine then_normal ?_
          refine wq_seq ?_
          refine wq_region_lit (.inl rfl) ?_
          refine r_t hst trivial rfl (x_move hst rfl) ?_; intro a hst
          refine r_t hst trivial rfl (x_assign hst rfl) ?_; intro a hst
          refine wpL_nil ?_
          refine then_normal ?_
          refine wq_ret ?_
          obtain rfl := Option.some.inj H
          exact ret1 hst rfl rfl ⟨rfl, hsh.pick [0]⟩
        · rw [if_neg c1530] at H
          replace c1530 := Bool.eq_false_iff.2 c1530
          refine wq_condF hst rfl c1530 ?_
          refine wq_skip ?_
          refine then_normal ?_
          refine wq_seq ?_
          have hw1530_0 := hsh.row 0 rfl
          refine wq_region_t (.inl rfl) (.fin [(3, 0), (3, 1), (3, 2), (3, 3), (3, 4), (3, 5), (3, 6), (0, 7), (3, 8), (3, 9), (3, 10), (0, 11), (3, 12), (2, 13), (0, 14), (2, 15)]) (fun w' => SH GG w w' []) (fun w' => SH GG w w' [Row (Kd.int .i64) 3 va0 l_462]) (fun w' => SH GG w w' [Row (Kd.int .i64) 3 va0 l_462]) (shut_sh _ _ _) (shut_sh _ _ _) (shut_sh _ _ _) (sub_sh [] rfl) (sub_sh [0] rfl) hsh.drew fo (by kernel_rfl) ?_
          refine t_fin ?_
          refine m_p hst trivial rfl (fun _ => x_move hst rfl) ?_; intro a hst
          refine m_p hst trivial rfl (fun _ => x_move hst rfl) ?_; intro a hst
          refine m_p hst trivial rfl (fun _ => x_move hst rfl) ?_; intro a hst
          refine m_p hst trivial rfl (fun _ => x_move hst rfl) ?_; intro a hst
          refine m_p hst trivial rfl (fun _ => x_move hst rfl) ?_; intro a hst
          refine m_p hst trivial rfl (fun _ => x_move hst rfl) ?_; intro a hst
          obtain ⟨x1531, hx1531, H⟩ := Option.bind_eq_some_iff.1 H
          refine m_p hst trivial rfl (fun _ => x_indexAddr hst Try.underlying56 el_3 rfl rfl hw1530_0 hx1531) ?_; intro a hst
          refine m_t hst trivial rfl (fun _ hsh => x_loadEF (j := 0) (cs := [.int .i64 x1531]) hst sc_3 rfl (hsh.row 0 rfl) (Same.refl _ _) hx1531 rfl (fun _ h => h) rfl) ?_; intro a hst
          refine m_p hst trivial rfl (fun _ => x_move hst rfl) ?_; intro a hst
          refine m_p hst trivial rfl (fun _ => x_move hst rfl) ?_; intro a hst
          obtain ⟨x1532, hx1532, H⟩ := Option.bind_eq_some_iff.1 H
          refine m_p hst trivial rfl (fun _ => x_indexAddr hst Try.underlying56 el_3 rfl rfl hw1530_0 hx1532) ?_; intro a hst
          refine m_t hst trivial rfl (fun _ hsh => x_loadEF (j := 0) (cs := [.int .i64 x1532]) hst sc_3 rfl (hsh.row 0 rfl) (Same.refl _ _) hx1532 rfl (fun _ h => h) rfl) ?_; intro a hst
          obtain ⟨x1533, hx1533, H⟩ := Option.bind_eq_some_iff.1 H
          refine m_p hst trivial rfl (fun _ => x_indexAddr hst Try.underlying56 el_3 rfl rfl hw1530_0 hx1533) ?_; intro a hst
          refine m_loud (.inr rfl) ?_
          intro w1534 hsh
          obtain ⟨l1535, hl1535, H⟩ := Option.bind_eq_some_iff.1 H
          refine r_storeE (i := 0) (off := 0) (new := x1531) (cs' := [.int .i64 x1531]) hst hsh trivial sc_3 rfl rfl rfl hx1533 rfl (Nat.le_of_ble_eq_true rfl) rfl (fun _ _ _ h => by rw [h]; rfl) (fun _ _ => rfl) ?_; intro a w1536 hsh hst
          rw [← upd_some hl1535] at hsh
          refine m_turn hsh (sub_sh [] rfl) ?_
          obtain ⟨x1537, hx1537, H⟩ := Option.bind_eq_some_iff.1 H
          refine m_t hst trivial rfl (fun _ hsh => x_indexAddr hst Try.underlying56 el_3 rfl rfl (hsh.row 0 rfl) hx1537) ?_; intro a hst
          refine m_loud (.inr rfl) ?_
          intro w1538 hsh
          obtain ⟨l1539, hl1539, H⟩ := Option.bind_eq_some_iff.1 H
          refine r_storeE (i := 0) (off := 0) (new := x1532) (cs' := [.int .i64 x1532]) hst hsh trivial sc_3 rfl rfl rfl hx1537 rfl (Nat.le_of_ble_eq_true rfl) rfl (fun _ _ _ h => by rw [h]; rfl) (fun _ _ => rfl) ?_; intro a w1540 hsh hst
          rw [← upd_some hl1539] at hsh
          refine m_turn hsh (sub_sh [] rfl) ?_
          refine m_nil ?_
          intro w1541 hsh
          refine qn_normal ?_
          refine then_normal ?_
          refine wq_seq ?_
          refine wq_region_lit (.inl rfl) ?_
          refine r_t hst trivial rfl (x_move hst rfl) ?_; intro a hst
          refine r_t hst trivial rfl (x_arI (r := w64 (i_607 + 1)) hst rfl rfl rfl) ?_; intro a hst
          refine r_t hst trivial rfl (x_assign hst rfl) ?_; intro a hst
          refine wpL_nil ?_
          refine then_normal ?_
          refine wq_region_lit (.inl rfl) ?_
          refine r_t hst trivial rfl (x_move hst rfl) ?_; intro a hst
          refine r_t hst trivial rfl (x_arI (r := w64 (i_636 - 1)) hst rfl rfl rfl) ?_; intro a hst
          refine r_t hst trivial rfl (x_assign hst rfl) ?_; intro a hst
          refine wpL_nil ?_
          refine block_normal ?_
          refine then_normal ?_
          exact ⟨k_580, Nat.lt_succ_self _, l1539, (w64 (i_607 + 1)), (w64 (i_636 - 1)), H, hst.keep _ ⟨rfl, rfl, rfl, rfl, rfl, trivial⟩, hsh.pick [0]⟩
      · refine wq_block ?_
        refine wq_loop_fuel (fun k_658 a w' => ∃ (i_648 : Int), slices_partitionEqualOrdered_int.l1 a1 l_462 i_607 J_638 k_658 i_648 = some r ∧ ST [] Try.f77.ntmps a [(0, va0), (1, .int .i64 a1), (8, .int .i64 0), (9, .int .i64 i_607), (10, .int .i64 i_648)] ∧ SH GG w w' [Row (Kd.int .i64) 3 va0 l_462]) k_580 ?_ ?_
        · exact ⟨i_464, H, hst.keep _ ⟨rfl, rfl, rfl, rfl, rfl, trivial⟩, hsh.pick [0]⟩
        · rintro k_658 a W_649 ⟨i_648, H, hst, hsh⟩
          cases k_658 with
          | zero => rw [slices_partitionEqualOrdered_int.l1] at H; cases H
          | succ k_658 =>
           rw [slices_partitionEqualOrdered_int.l1] at H
           refine wq_seq ?_
           refine wq_seq ?_
           refine wq_region_q (.inl rfl) (fun w' => SH GG w w' [Row (Kd.int .i64) 3 va0 l_462]) (shut_sh _ _ _) hsh.drew fo (by kernel_rfl) ?_
           refine q_t hst trivial rfl (fun _ hsh => x_move hst rfl) ?_; intro a hst
           refine q_t hst trivial rfl (fun _ hsh => x_move hst rfl) ?_; intro a hst
           refine q_t hst trivial rfl (fun _ hsh => x_cmpI (b := decide (i_607 ≤ i_648)) hst rfl rfl rfl) ?_; intro a hst
           refine q_t hst trivial rfl (fun _ hsh => x_move hst rfl) ?_; intro a hst
           obtain ⟨J_663, hJ_663, H⟩ := Jn.elim H
           refine q_join 14 (fun a => ∃ (b_662 : Bool), J_663 b_662 = some r ∧ ST [] Try.f77.ntmps a [(0, va0), (1, .int .i64 a1), (8, .int .i64 0), (9, .int .i64 i_607), (10, .int .i64 i_648), (59, .bool b_662)]) ?_ ?_
           · rintro a ⟨b_662, H, hst⟩
             subst hJ_663
             dsimp only at H
             refine q_nil ?_
             intro w1602 hsh
             refine then_normal ?_
             by_cases c1603 : b_662 = true
             · rw [if_pos c1603] at H
               refine wq_condT hst rfl c1603 ?_
               refine wq_skip ?_
               refine then_normal ?_
               refine wq_block ?_
               refine wq_region_lit (.inl rfl) ?_
               refine r_t hst trivial rfl (x_move hst rfl) ?_; intro a hst
               refine r_t hst trivial rfl (x_arI (r := w64 (i_648 - 1)) hst rfl rfl rfl) ?_; intro a hst
               refine r_t hst trivial rfl (x_assign hst rfl) ?_; intro a hst
               refine wpL_nil ?_
               refine block_normal ?_
               refine then_normal ?_
               exact ⟨k_658, Nat.lt_succ_self _, (w64 (i_648 - 1)), H, hst.keep _ ⟨rfl, rfl, rfl, rfl, rfl, trivial⟩, hsh.pick [0]⟩
             · rw [if_neg c1603] at H
               replace c1603 := Bool.eq_false_iff.2 c1603
               refine wq_condF hst rfl c1603 ?_
               refine wq_exit ?_
               refine then_exit ?_
               refine then_exit ?_
               refine block_hit ?_
               refine then_normal ?_
               exact ⟨i_648, H, hst.keep _ ⟨rfl, rfl, rfl, rfl, rfl, trivial⟩, hsh.pick [0]⟩
           · intro hj
             by_cases c1597 : (decide (i_607 ≤ i_648)) = true
             · rw [if_pos c1597] at H
               refine q_t hst (wt_of 49 rfl rfl c1597) rfl (fun _ hsh => x_move hst rfl) ?_; intro a hst
               refine q_t hst (wt_of 49 rfl rfl c1597) rfl (fun _ hsh => x_move hst rfl) ?_; intro a hst
               obtain ⟨x1604, hx1604, H⟩ := Option.bind_eq_some_iff.1 H
               refine q_t hst (wt_of 49 rfl rfl c1597) rfl (fun _ hsh => x_indexAddr hst Try.underlying56 el_3 rfl rfl (hsh.row 0 rfl) hx1604) ?_; intro a hst
               refine q_t hst (wt_of 49 rfl rfl c1597) rfl (fun _ hsh => x_loadEF (j := 0) (cs := [.int .i64 x1604]) hst sc_3 rfl (hsh.row 0 rfl) (Same.refl _ _) hx1604 rfl (fun _ h => h) rfl) ?_; intro a hst
               refine q_t hst (wt_of 49 rfl rfl c1597) rfl (fun _ hsh => x_move hst rfl) ?_; intro a hst
               refine q_t hst (wt_of 49 rfl rfl c1597) rfl (fun _ hsh => x_move hst rfl) ?_; intro a hst
               obtain ⟨x1605, hx1605, H⟩ := Option.bind_eq_some_iff.1 H
               refine q_t hst (wt_of 49 rfl rfl c1597) rfl (fun _ hsh => x_indexAddr hst Try.underlying56 el_3 rfl rfl (hsh.row 0 rfl) hx1605) ?_; intro a hst
               refine q_t hst (wt_of 49 rfl rfl c1597) rfl (fun _ hsh => x_loadEF (j := 0) (cs := [.int .i64 x1605]) hst sc_3 rfl (hsh.row 0 rfl) (Same.refl _ _) hx1605 rfl (fun _ h => h) rfl) ?_; intro a hst
               obtain ⟨r1606, hr1606, H⟩ := Option.bind_eq_some_iff.1 H
               refine q_call hst (wt_of 49 rfl rfl c1597) rfl fn_76 rfl (fun w9 hsh => cmp_Less_int.calls _ x1604 x1605 r1606 hr1606) ?_; intro a hst
               refine q_t hst trivial rfl (fun _ hsh => x_pickT hst rfl c1597 rfl) ?_; intro a hst
               exact hj _ ⟨r1606, H, hst.keep _ ⟨rfl, rfl, rfl, rfl, rfl, rfl, trivial⟩⟩
             · rw [if_neg c1597] at H
               replace c1597 := Bool.eq_false_iff.2 c1597
               refine q_not hst 49 rfl rfl c1597 rfl ?_; intro a hst
               refine q_not hst 49 rfl rfl c1597 rfl ?_; intro a hst
               refine q_not hst 49 rfl rfl c1597 rfl ?_; intro a hst
               refine q_not hst 49 rfl rfl c1597 rfl ?_; intro a hst
               refine q_not hst 49 rfl rfl c1597 rfl ?_; intro a hst
               refine q_not hst 49 rfl rfl c1597 rfl ?_; intro a hst
               refine q_not hst 49 rfl rfl c1597 rfl ?_; intro a hst
               refine q_not hst 49 rfl rfl c1597 rfl ?_; intro a hst
               refine q_not hst 49 rfl rfl c1597 rfl ?_; intro a hst
               refine q_t hst trivial rfl (fun _ hsh => x_pickF hst rfl c1597 rfl) ?_; intro a hst
               exact hj _ ⟨false, H, hst.keep _ ⟨rfl, rfl, rfl, rfl, rfl, rfl, trivial⟩⟩
    · refine wq_block ?_
      refine wq_loop_fuel (fun k_684 a w' => ∃ (i_674 : Int), slices_partitionEqualOrdered_int.l2 a1 l_462 i_464 J_609 k_684 i_674 = some r ∧ ST [] Try.f77.ntmps a [(0, va0), (1, .int .i64 a1), (8, .int .i64 0), (9, .int .i64 i_674), (10, .int .i64 i_464)] ∧ SH GG w w' [Row (Kd.int .i64) 3 va0 l_462]) k_580 ?_ ?_
      · exact ⟨i_463, H, hst.keep _ ⟨rfl, rfl, rfl, rfl, rfl, trivial⟩, hsh.pick [0]⟩
      · rintro k_684 a W_675 ⟨i_674, H, hst, hsh⟩
        cases k_684 with
        | zero => rw [slices_partitionEqualOrdered_int.l2] at H; cases H
        | succ k_684 =>
         rw [slices_partitionEqualOrdered_int.l2] at H
         refine wq_seq ?_
         refine wq_seq ?_
         refine wq_region_q (.inl rfl) (fun w' => SH GG w w' [Row (Kd.int .i64) 3 va0 l_462]) (shut_sh _ _ _) hsh.drew fo (by kernel_rfl) ?_
         refine q_t hst trivial rfl (fun _ hsh => x_move hst rfl) ?_; intro a hst
         refine q_t hst trivial rfl (fun _ hsh => x_move hst rfl) ?_; intro a hst
         refine q_t hst trivial rfl (fun _ hsh => x_cmpI (b := decide (i_674 ≤ i_464)) hst rfl rfl rfl) ?_; intro a hst
         refine q_t hst trivial rfl (fun _ hsh => x_move hst rfl) ?_; intro a hst
         obtain ⟨J_689, hJ_689, H⟩ := Jn.elim H
         refine q_join 15 (fun a => ∃ (b_688 : Bool), J_689 b_688 = some r ∧ ST [] Try.f77.ntmps a [(0, va0), (1, .int .i64 a1), (8, .int .i64 0), (9, .int .i64 i_674), (10, .int .i64 i_464), (43, .bool b_688)]) ?_ ?_
         · rintro a ⟨b_688, H, hst⟩
           subst hJ_689
           dsimp only at H
           refine q_nil ?_
           intro w1668 hsh
           refine then_normal ?_
           by_cases c1669 : b_688 = true
           · rw [if_pos c1669] at H
             refine wq_condT hst rfl c1669 ?_
             refine wq_skip ?_
             refine then_normal ?_
             refine wq_block ?_
             refine wq_region_lit (.inl rfl) ?_
             refine r_t hst trivial rfl (x_move hst rfl) ?_; intro a hst
             refine r_t hst trivial rfl (x_arI (r := w64 (i_674 + 1)) hst rfl rfl rfl) ?_; intro a hst
             refine r_t hst trivial rfl (x_assign hst rfl) ?_; intro a hst
             refine wpL_nil ?_
             refine block_normal ?_
             refine then_normal ?_
             exact ⟨k_684, Nat.lt_succ_self _, (w64 (i_674 + 1)), H, hst.keep _ ⟨rfl, rfl, rfl, rfl, rfl, trivial⟩, hsh.pick [0]⟩
           · rw [if_neg c1669] at H
             replace c1669 := Bool.eq_false_iff.2 c1669
             refine wq_condF hst rfl c1669 ?_
             refine wq_exit ?_
             refine then_exit ?_
             refine then_exit ?_
             refine block_hit ?_
             refine then_normal ?_
             exact ⟨i_674, H, hst.keep _ ⟨rfl, rfl, rfl, rfl, rfl, trivial⟩, hsh.pick [0]⟩
         · intro hj
           by_cases c1663 : (decide (i_674 ≤ i_464)) = true
           · rw [if_pos c1663] at H
             refine q_t hst (wt_of 32 rfl rfl c1663) rfl (fun _ hsh => x_move hst rfl) ?_; intro a hst
             refine q_t hst (wt_of 32 rfl rfl c1663) rfl (fun _ hsh => x_move hst rfl) ?_; intro a hst
             obtain ⟨x1670, hx1670, H⟩ := Option.bind_eq_some_iff.1 H
             refine q_t hst (wt_of 32 rfl rfl c1663) rfl (fun _ hsh => x_indexAddr hst Try.underlying56 el_3 rfl rfl (hsh.row 0 rfl) hx1670) ?_; intro a hst
             refine q_t hst (wt_of 32 rfl rfl c1663) rfl (fun _ hsh => x_loadEF (j := 0) (cs := [.int .i64 x1670]) hst sc_3 rfl (hsh.row 0 rfl) (Same.refl _ _) hx1670 rfl (fun _ h => h) rfl) ?_; intro a hst
             refine q_t hst (wt_of 32 rfl rfl c1663) rfl (fun _ hsh => x_move hst rfl) ?_; intro a hst
             refine q_t hst (wt_of 32 rfl rfl c1663) rfl (fun _ hsh => x_move hst rfl) ?_; intro a hst
             obtain ⟨x1671, hx1671, H⟩ := Option.bind_eq_some_iff.1 H
             refine q_t hst (wt_of 32 rfl rfl c1663) rfl (fun _ hsh => x_indexAddr hst Try.underlying56 el_3 rfl rfl (hsh.row 0 rfl) hx1671) ?_; intro a hst
             refine q_t hst (wt_of 32 rfl rfl c1663) rfl (fun _ hsh => x_loadEF (j := 0) (cs := [.int .i64 x1671]) hst sc_3 rfl (hsh.row 0 rfl) (Same.refl _ _) hx1671 rfl (fun _ h => h) rfl) ?_; intro a hst
             obtain ⟨r1672, hr1672, H⟩ := Option.bind_eq_some_iff.1 H
             refine q_call hst (wt_of 32 rfl rfl c1663) rfl fn_76 rfl (fun w9 hsh => cmp_Less_int.calls _ x1670 x1671 r1672 hr1672) ?_; intro a hst
             refine q_t hst (wt_of 32 rfl rfl c1663) rfl (fun _ hsh => x_notB hst rfl) ?_; intro a hst
             refine q_t hst trivial rfl (fun _ hsh => x_pickT hst rfl c1663 rfl) ?_; intro a hst
             exact hj _ ⟨(!r1672), H, hst.keep _ ⟨rfl, rfl, rfl, rfl, rfl, rfl, trivial⟩⟩
           · rw [if_neg c1663] at H
             replace c1663 := Bool.eq_false_iff.2 c1663
             refine q_not hst 32 rfl rfl c1663 rfl ?_; intro a hst
             refine q_not hst 32 rfl rfl c1663 rfl ?_; intro a hst
             refine q_not hst 32 rfl rfl c1663 rfl ?_; intro a hst
             refine q_not hst 32 rfl rfl c1663 rfl ?_; intro a hst
             refine q_not hst 32 rfl rfl c1663 rfl ?_; intro a hst
             refine q_not hst 32 rfl rfl c1663 rfl ?_; intro a hst
             refine q_not hst 32 rfl rfl c1663 rfl ?_; intro a hst
             refine q_not hst 32 rfl rfl c1663 rfl ?_; intro a hst
             refine q_not hst 32 rfl rfl c1663 rfl ?_; intro a hst
             refine q_not hst 32 rfl rfl c1663 rfl ?_; intro a hst
             refine q_t hst trivial rfl (fun _ hsh => x_pickF hst rfl c1663 rfl) ?_; intro a hst
             exact hj _ ⟨false, H, hst.keep _ ⟨rfl, rfl, rfl, rfl, rfl, rfl, trivial⟩⟩

set_option maxHeartbeats 4000000 in
set_option maxRecDepth 100000 in
theorem slices_partitionOrdered_int.calls (k : Nat) (w : World) (GG : Nat → Prop) (va0 : Value) (a0 : (List Int)) (a1 : Int) (a2 : Int) (a3 : Int) (hsep : Sep GG w [Row (Kd.int .i64) 3 va0 a0]) (r : (Int × Bool × (List Int))) (h : slices_partitionOrdered_int k a0 a1 a2 a3 = some r) :
    Calls Try.prog 78 ([va0, .int .i64 a1, .int .i64 a2, .int .i64 a3] : List Value).toArray w fun e w' => e = .returned (.tuple #[.int .i64 r.1, .bool r.2.1]) ∧ SH GG w w' [Row (Kd.int .i64) 3 va0 r.2.2] := by
 have H := h
 clear h
 unfold slices_partitionOrdered_int at H
 refine calls_enter Try.func78 rfl rfl ?_
 intro a hst
 have hsh := SH.start hsep
 refine wq_seq ?_
 refine wq_region_lit (.inl rfl) ?_
 refine r_t hst trivial rfl (x_assign hst rfl) ?_; intro a hst
 refine r_t hst trivial rfl (x_assign hst rfl) ?_; intro a hst
 refine wpL_nil ?_
 refine then_normal ?_
 refine wq_seq ?_
 have hw0_0 := hsh.row 0 rfl
 refine wq_region_t (.inl rfl) (.fin [(3, 0), (3, 1), (3, 2), (3, 3), (3, 4), (3, 5), (3, 6), (0, 7), (3, 8), (3, 9), (3, 10), (0, 11), (3, 12), (2, 13), (0, 14), (2, 15)]) (fun w' => SH GG w w' []) (fun w' => SH GG w w' [Row (Kd.int .i64) 3 va0 a0]) (fun w' => SH GG w w' [Row (Kd.int .i64) 3 va0 a0]) (shut_sh _ _ _) (shut_sh _ _ _) (shut_sh _ _ _) (sub_sh [] rfl) (sub_sh [0] rfl) hsh.drew fo (by kernel_rfl) ?_
 refine t_fin ?_
 refine m_p hst trivial rfl (fun _ => x_move hst rfl) ?_; intro a hst
 refine m_p hst trivial rfl (fun _ => x_move hst rfl) ?_; intro a hst
 refine m_p hst trivial rfl (fun _ => x_move hst rfl) ?_; intro a hst
 refine m_p hst trivial rfl (fun _ => x_move hst rfl) ?_; intro a hst
 refine m_p hst trivial rfl (fun _ => x_move hst rfl) ?_; intro a hst
 refine m_p hst trivial rfl (fun _ => x_move hst rfl) ?_; intro a hst
 obtain ⟨x1, hx1, H⟩ := Option.bind_eq_some_iff.1 H
 refine m_p hst trivial rfl (fun _ => x_indexAddr hst Try.underlying56 el_3 rfl rfl hw0_0 hx1) ?_; intro a hst
 refine m_t hst trivial rfl (fun _ hsh => x_loadEF (j := 0) (cs := [.int .i64 x1]) hst sc_3 rfl (hsh.row 0 rfl) (Same.refl _ _) hx1 rfl (fun _ h => h) rfl) ?_; intro a hst
 refine m_p hst trivial rfl (fun _ => x_move hst rfl) ?_; intro a hst
 refine m_p hst trivial rfl (fun _ => x_move hst rfl) ?_; intro a hst
 obtain ⟨x2, hx2, H⟩ := Option.bind_eq_some_iff.1 H
 refine m_p hst trivial rfl (fun _ => x_indexAddr hst Try.underlying56 el_3 rfl rfl hw0_0 hx2) ?_; intro a hst
 refine m_t hst trivial rfl (fun _ hsh => x_loadEF (j := 0) (cs := [.int .i64 x2]) hst sc_3 rfl (hsh.row 0 rfl) (Same.refl _ _) hx2 rfl (fun _ h => h) rfl) ?_; intro a hst
 obtain ⟨x3, hx3, H⟩ := Option.bind_eq_some_iff.1 H
 refine m_p hst trivial rfl (fun _ => x_indexAddr hst Try.underlying56 el_3 rfl rfl hw0_0 hx3) ?_; intro a hst
 refine m_loud (.inr rfl) ?_
 intro w4 hsh
 obtain ⟨l5, hl5, H⟩ := Option.bind_eq_some_iff.1 H
 refine r_storeE (i := 0) (off := 0) (new := x1) (cs' := [.int .i64 x1]) hst hsh trivial sc_3 rfl rfl rfl hx3 rfl (Nat.le_of_ble_eq_true rfl) rfl (fun _ _ _ h => by rw [h]; rfl) (fun _ _ => rfl) ?_; intro a w6 hsh hst
 rw [← upd_some hl5] at hsh
 refine m_turn hsh (sub_sh [] rfl) ?_
 obtain ⟨x7, hx7, H⟩ := Option.bind_eq_some_iff.1 H
 refine m_t hst trivial rfl (fun _ hsh => x_indexAddr hst Try.underlying56 el_3 rfl rfl (hsh.row 0 rfl) hx7) ?_; intro a hst
 refine m_loud (.inr rfl) ?_
 intro w8 hsh
 obtain ⟨l9, hl9, H⟩ := Option.bind_eq_some_iff.1 H
 refine r_storeE (i := 0) (off := 0) (new := x2) (cs' := [.int .i64 x2]) hst hsh trivial sc_3 rfl rfl rfl hx7 rfl (Nat.le_of_ble_eq_true rfl) rfl (fun _ _ _ h => by rw [h]; rfl) (fun _ _ => rfl) ?_; intro a w10 hsh hst
 rw [← upd_some hl9] at hsh
 refine m_turn hsh (sub_sh [] rfl) ?_
 refine m_nil ?_
 intro w11 hsh
 refine qn_normal ?_
 refine then_normal ?_
 refine wq_seq ?_
 refine wq_region_lit (.inl rfl) ?_
 refine r_t hst trivial rfl (x_move hst rfl) ?_; intro a hst
 refine r_t hst trivial rfl (x_arI (r := w64 (a1 + 1)) hst rfl rfl rfl) ?_; intro a hst
 refine r_t hst trivial rfl (x_move hst rfl) ?_; intro a hst
 refine r_t hst trivial rfl (x_arI (r := w64 (a2 - 1)) hst rfl rfl rfl) ?_; intro a hst
 refine r_t hst trivial rfl (x_assign hst rfl) ?_; intro a hst
 refine r_t hst trivial rfl (x_assign hst rfl) ?_; intro a hst
 refine wpL_nil ?_
 refine then_normal ?_
 refine wq_seq ?_
 refine wq_block ?_
 refine wq_loop_fuel (fun k_32 a w' => ∃ (i_20 : Int), ∃ (i_21 : Int), slices_partitionOrdered_int.l0 a1 l9 k_32 i_20 i_21 = some r ∧ ST [] Try.f78.ntmps a [(0, va0), (1, .int .i64 a1), (8, .int .i64 0), (9, .bool false), (10, .int .i64 i_20), (11, .int .i64 i_21)] ∧ SH GG w w' [Row (Kd.int .i64) 3 va0 l9]) k ?_ ?_
 · exact ⟨(w64 (a1 + 1)), (w64 (a2 - 1)), H, hst.keep _ ⟨rfl, rfl, rfl, rfl, rfl, rfl, trivial⟩, hsh.pick [0]⟩
 · rintro k_32 a W_22 ⟨i_20, i_21, H, hst, hsh⟩
   cases k_32 with
   | zero => rw [slices_partitionOrdered_int.l0] at H; cases H
   | succ k_32 =>
    rw [slices_partitionOrdered_int.l0] at H
    refine wq_seq ?_
    refine wq_seq ?_
    refine wq_region_q (.inl rfl) (fun w' => SH GG w w' [Row (Kd.int .i64) 3 va0 l9]) (shut_sh _ _ _) hsh.drew fo (by kernel_rfl) ?_
    refine q_t hst trivial rfl (fun _ hsh => x_move hst rfl) ?_; intro a hst
    refine q_t hst trivial rfl (fun _ hsh => x_move hst rfl) ?_; intro a hst
    refine q_t hst trivial rfl (fun _ hsh => x_cmpI (b := decide (i_20 ≤ i_21)) hst rfl rfl rfl) ?_; intro a hst
    refine q_t hst trivial rfl (fun _ hsh => x_move hst rfl) ?_; intro a hst
    obtain ⟨J_37, hJ_37, H⟩ := Jn.elim H
    refine q_join 14 (fun a => ∃ (b_36 : Bool), J_37 b_36 = some r ∧ ST [] Try.f78.ntmps a [(0, va0), (1, .int .i64 a1), (8, .int .i64 0), (9, .bool false), (10, .int .i64 i_20), (11, .int .i64 i_21), (43, .bool b_36)]) ?_ ?_
    · rintro a ⟨b_36, H, hst⟩
      subst hJ_37
      dsimp only at H
      refine q_nil ?_
      intro w94 hsh
      refine then_normal ?_
      by_cases c95 : b_36 = true
      · rw [if_pos c95] at H
        refine wq_condT hst rfl c95 ?_
        refine wq_skip ?_
        refine then_normal ?_
        refine wq_block ?_
        refine wq_region_lit (.inl rfl) ?_
        refine r_t hst trivial rfl (x_move hst rfl) ?_; intro a hst
        refine r_t hst trivial rfl (x_arI (r := w64 (i_20 + 1)) hst rfl rfl rfl) ?_; intro a hst
        refine r_t hst trivial rfl (x_assign hst rfl) ?_; intro a hst
        refine wpL_nil ?_
        refine block_normal ?_
        refine then_normal ?_
        exact ⟨k_32, Nat.lt_succ_self _, (w64 (i_20 + 1)), i_21, H, hst.keep _ ⟨rfl, rfl, rfl, rfl, rfl, rfl, trivial⟩, hsh.pick [0]⟩
      · rw [if_neg c95] at H
        replace c95 := Bool.eq_false_iff.2 c95
        refine wq_condF hst rfl c95 ?_
        refine wq_exit ?_
        refine then_exit ?_
        refine then_exit ?_
        refine block_hit ?_
        refine then_normal ?_
        obtain ⟨J_67, hJ_67, H⟩ := Jn.elim H
        refine wq_cut (fun a w' => ∃ (i_65 : Int), J_67 i_65 = some r ∧ ST [] Try.f78.ntmps a [(0, va0), (1, .int .i64 a1), (8, .int .i64 0), (9, .bool false), (10, .int .i64 i_20), (11, .int .i64 i_65)] ∧ SH GG w w' [Row (Kd.int .i64) 3 va0 l9]) ?_ ?_
        · rintro a W_66 ⟨i_65, H, hst, hsh⟩
          subst hJ_67
          dsimp only at H
          refine wq_seq ?_
          refine wq_seq ?_
          refine wq_region_lit (.inl rfl) ?_
          refine r_t hst trivial rfl (x_move hst rfl) ?_; intro a hst
          refine r_t hst trivial rfl (x_move hst rfl) ?_; intro a hst
          refine r_t hst trivial rfl (x_cmpI (b := decide (i_65 < i_20)) hst rfl rfl rfl) ?_; intro a hst
          refine wpL_nil ?_
          refine then_normal ?_
          by_cases c174 : (decide (i_65 < i_20)) = true
          · rw [if_pos c174] at H
            refine wq_condT hst rfl c174 ?_
            refine wq_seq ?_
            have hw174_0 := hsh.row 0 rfl
            refine wq_region_t (.inl rfl) (.fin [(3, 0), (3, 1), (3, 2), (3, 3), (3, 4), (3, 5), (3, 6), (0, 7), (3, 8), (3, 9), (3, 10), (0, 11), (3, 12), (2, 13), (0, 14), (2, 15)]) (fun w' => SH GG w w' []) (fun w' => SH GG w w' [Row (Kd.int .i64) 3 va0 l9]) (fun w' => SH GG w w' [Row (Kd.int .i64) 3 va0 l9]) (shut_sh _ _ _) (shut_sh _ _ _) (shut_sh _ _ _) (sub_sh [] rfl) (sub_sh [0] rfl) hsh.drew fo (by kernel_rfl) ?_
            refine t_fin ?_
            refine m_p hst trivial rfl (fun _ => x_move hst rfl) ?_; intro a hst
            refine m_p hst trivial rfl (fun _ => x_move hst rfl) ?_; intro a hst
            refine m_p hst trivial rfl (fun _ => x_move hst rfl) ?_; intro a hst
            refine m_p hst trivial rfl (fun _ => x_move hst rfl) ?_; intro a hst
            refine m_p hst trivial rfl (fun _ => x_move hst rfl) ?_; intro a hst
            refine m_p hst trivial rfl (fun _ => x_move hst rfl) ?_; intro a hst
            obtain ⟨x175, hx175, H⟩ := Option.bind_eq_some_iff.1 H
            refine m_p hst trivial rfl (fun _ => x_indexAddr hst Try.underlying56 el_3 rfl rfl hw174_0 hx175) ?_; intro a hst
            refine m_t hst trivial rfl (fun _ hsh => x_loadEF (j := 0) (cs := [.int .i64 x175]) hst sc_3 rfl (hsh.row 0 rfl) (Same.refl _ _) hx175 rfl (fun _ h => h) rfl) ?_; intro a hst
            refine m_p hst trivial rfl (fun _ => x_move hst rfl) ?_; intro a hst
            refine m_p hst trivial rfl (fun _ => x_move hst rfl) ?_; intro a hst
            obtain ⟨x176, hx176, H⟩ := Option.bind_eq_some_iff.1 H
            refine m_p hst trivial rfl (fun _ => x_indexAddr hst Try.underlying56 el_3 rfl rfl hw174_0 hx176) ?_; intro a hst
            refine m_t hst trivial rfl (fun _ hsh => x_loadEF (j := 0) (cs := [.int .i64 x176]) hst sc_3 rfl (hsh.row 0 rfl) (Same.refl _ _) hx176 rfl (fun _ h => h) rfl) ?_; intro a hst
            obtain ⟨x177, hx177, H⟩ := Option.bind_eq_some_iff.1 H
            refine m_p hst trivial rfl (fun _ => x_indexAddr hst Try.underlying56 el_3 rfl rfl hw174_0 hx177) ?_; intro a hst
            refine m_loud (.inr rfl) ?_
            intro w178 hsh
            obtain ⟨l179, hl179, H⟩ := Option.bind_eq_some_iff.1 H
            refine r_storeE (i := 0) (off := 0) (new := x175) (cs' := [.int .i64 x175]) hst hsh trivial sc_3 rfl rfl rfl hx177 rfl (Nat.le_of_ble_eq_true rfl) rfl (fun _ _ _ h => by rw [h]; rfl) (fun _ _ => rfl) ?_; intro a w180 hsh hst
            rw [← upd_some hl179] at hsh
            refine m_turn hsh (sub_sh [] rfl) ?_
            obtain ⟨x181, hx181, H⟩ := Option.bind_eq_some_iff.1 H
            refine m_t hst trivial rfl (fun _ hsh => x_indexAddr hst Try.underlying56 el_3 rfl rfl (hsh.row 0 rfl) hx181) ?_; intro a hst
            refine m_loud (.inr rfl) ?_
            intro w182 hsh
            obtain ⟨l183, hl183, H⟩ := Option.bind_eq_some_iff.1 H
            refine r_storeE (i := 0) (off := 0) (new := x176) (cs' := [.int .i64 x176]) hst hsh trivial sc_3 rfl rfl rfl hx181 rfl (Nat.le_of_ble_eq_true rfl) rfl (fun _ _ _ h => by rw [h]; rfl) (fun _ _ => rfl) ?_; intro a w184 hsh hst
            rw [← upd_some hl183] at hsh
            refine m_turn hsh (sub_sh [] rfl) ?_
            refine m_nil ?_
            intro w185 hsh
            refine qn_normal ?_
            refine then_normal ?_
            refine wq_seq ?_
            refine wq_region_lit (.inl rfl) ?_
            refine r_t hst trivial rfl (x_move hst rfl) ?_; intro a hst
            refine r_t hst trivial rfl (x_assign hst rfl) ?_; intro a hst
            refine r_t hst trivial rfl (x_assign hst rfl) ?_; intro a hst
            refine wpL_nil ?_
            refine then_normal ?_
            refine wq_ret ?_
            refine then_ret ?_
            obtain rfl := Option.some.inj H
            exact ret2 hst rfl rfl rfl ⟨rfl, hsh.pick [0]⟩
          · rw [if_neg c174] at H
            replace c174 := Bool.eq_false_iff.2 c174
            refine wq_condF hst rfl c174 ?_
            refine wq_skip ?_
            refine then_normal ?_
            refine wq_seq ?_
            have hw185_0 := hsh.row 0 rfl
            refine wq_region_t (.inl rfl) (.fin [(3, 0), (3, 1), (3, 2), (3, 3), (3, 4), (3, 5), (3, 6), (0, 7), (3, 8), (3, 9), (3, 10), (0, 11), (3, 12), (2, 13), (0, 14), (2, 15)]) (fun w' => SH GG w w' []) (fun w' => SH GG w w' [Row (Kd.int .i64) 3 va0 l9]) (fun w' => SH GG w w' [Row (Kd.int .i64) 3 va0 l9]) (shut_sh _ _ _) (shut_sh _ _ _) (shut_sh _ _ _) (sub_sh [] rfl) (sub_sh [0] rfl) hsh.drew fo (by kernel_rfl) ?_
            refine t_fin ?_
            refine m_p hst trivial rfl (fun _ => x_move hst rfl) ?_; intro a hst
            refine m_p hst trivial rfl (fun _ => x_move hst rfl) ?_; intro a hst
            refine m_p hst trivial rfl (fun _ => x_move hst rfl) ?_; intro a hst
            refine m_p hst trivial rfl (fun _ => x_move hst rfl) ?_; intro a hst
            refine m_p hst trivial rfl (fun _ => x_move hst rfl) ?_; intro a hst
            refine m_p hst trivial rfl (fun _ => x_move hst rfl) ?_; intro a hst
            obtain ⟨x186, hx186, H⟩ := Option.bind_eq_some_iff.1 H
            refine m_p hst trivial rfl (fun _ => x_indexAddr hst Try.underlying56 el_3 rfl rfl hw185_0 hx186) ?_; intro a hst
            refine m_t hst trivial rfl (fun _ hsh => x_loadEF (j := 0) (cs := [.int .i64 x186]) hst sc_3 rfl (hsh.row 0 rfl) (Same.refl _ _) hx186 rfl (fun _ h => h) rfl) ?_; intro a hst
            refine m_p hst trivial rfl (fun _ => x_move hst rfl) ?_; intro a hst
            refine m_p hst trivial rfl (fun _ => x_move hst rfl) ?_; intro a hst
            obtain ⟨x187, hx187, H⟩ := Option.bind_eq_some_iff.1 H
            refine m_p hst trivial rfl (fun _ => x_indexAddr hst Try.underlying56 el_3 rfl rfl hw185_0 hx187) ?_; intro a hst
            refine m_t hst trivial rfl (fun _ hsh => x_loadEF (j := 0) (cs := [.int .i64 x187]) hst sc_3 rfl (hsh.row 0 rfl) (Same.refl _ _) hx187 rfl (fun _ h => h) rfl) ?_; intro a hst
            obtain ⟨x188, hx188, H⟩ := Option.bind_eq_some_iff.1 H
            refine m_p hst trivial rfl (fun _ => x_indexAddr hst Try.underlying56 el_3 rfl rfl hw185_0 hx188) ?_; intro a hst
            refine m_loud (.inr rfl) ?_
            intro w189 hsh
            obtain ⟨l190, hl190, H⟩ := Option.bind_eq_some_iff.1 H
            refine r_storeE (i := 0) (off := 0) (new := x186) (cs' := [.int .i64 x186]) hst hsh trivial sc_3 rfl rfl rfl hx188 rfl (Nat.le_of_ble_eq_true rfl) rfl (fun _ _ _ h => by rw [h]; rfl) (fun _ _ => rfl) ?_; intro a w191 hsh hst
            rw [← upd_some hl190] at hsh
            refine m_turn hsh (sub_sh [] rfl) ?_
            obtain ⟨x192, hx192, H⟩ := Option.bind_eq_some_iff.1 H
            refine m_t hst trivial rfl (fun _ hsh => x_indexAddr hst Try.underlying56 el_3 rfl rfl (hsh.row 0 rfl) hx192) ?_; intro a hst
            refine m_loud (.inr rfl) ?_
            intro w193 hsh
            obtain ⟨l194, hl194, H⟩ := Option.bind_eq_some_iff.1 H
            refine r_storeE (i := 0) (off := 0) (new := x187) (cs' := [.int .i64 x187]) hst hsh trivial sc_3 rfl rfl rfl hx192 rfl (Nat.le_of_ble_eq_true rfl) rfl (fun _ _ _ h => by rw [h]; rfl) (fun _ _ => rfl) ?_; intro a w195 hsh hst
            rw [← upd_some hl194] at hsh
            refine m_turn hsh (sub_sh [] rfl) ?_
            refine m_nil ?_
            intro w196 hsh
            refine qn_normal ?_
            refine then_normal ?_
            refine wq_seq ?_
            refine wq_region_lit (.inl rfl) ?_
            refine r_t hst trivial rfl (x_move hst rfl) ?_; intro a hst
            refine r_t hst trivial rfl (x_arI (r := w64 (i_20 + 1)) hst rfl rfl rfl) ?_; intro a hst
            refine r_t hst trivial rfl (x_assign hst rfl) ?_; intro a hst
            refine wpL_nil ?_
            refine then_normal ?_
            refine wq_seq ?_
            refine wq_region_lit (.inl rfl) ?_
            refine r_t hst trivial rfl (x_move hst rfl) ?_; intro a hst
            refine r_t hst trivial rfl (x_arI (r := w64 (i_65 - 1)) hst rfl rfl rfl) ?_; intro a hst
            refine r_t hst trivial rfl (x_assign hst rfl) ?_; intro a hst
            refine wpL_nil ?_
            refine then_normal ?_
            obtain ⟨J_415, hJ_415, H⟩ := Jn.elim H
            refine wq_cut (fun a w' => ∃ (l_412 : (List Int)), ∃ (i_413 : Int), J_415 l_412 i_413 = some r ∧ ST [] Try.f78.ntmps a [(0, va0), (1, .int .i64 a1), (8, .int .i64 0), (9, .bool false), (11, .int .i64 i_413)] ∧ SH GG w w' [Row (Kd.int .i64) 3 va0 l_412]) ?_ ?_
            · rintro a W_414 ⟨l_412, i_413, H, hst, hsh⟩
              subst hJ_415
              dsimp only at H
              refine wq_seq ?_
              have hw1027_0 := hsh.row 0 rfl
              refine wq_region_t (.inl rfl) (.fin [(3, 0), (3, 1), (3, 2), (3, 3), (3, 4), (3, 5), (3, 6), (0, 7), (3, 8), (3, 9), (3, 10), (0, 11), (3, 12), (2, 13), (0, 14), (2, 15)]) (fun w' => SH GG w w' []) (fun w' => SH GG w w' [Row (Kd.int .i64) 3 va0 l_412]) (fun w' => SH GG w w' [Row (Kd.int .i64) 3 va0 l_412]) (shut_sh _ _ _) (shut_sh _ _ _) (shut_sh _ _ _) (sub_sh [] rfl) (sub_sh [0] rfl) hsh.drew fo (by kernel_rfl) ?_
              refine t_fin ?_
              refine m_p hst trivial rfl (fun _ => x_move hst rfl) ?_; intro a hst
              refine m_p hst trivial rfl (fun _ => x_move hst rfl) ?_; intro a hst
              refine m_p hst trivial rfl (fun _ => x_move hst rfl) ?_; intro a hst
              refine m_p hst trivial rfl (fun _ => x_move hst rfl) ?_; intro a hst
              refine m_p hst trivial rfl (fun _ => x_move hst rfl) ?_; intro a hst
              refine m_p hst trivial rfl (fun _ => x_move hst rfl) ?_; intro a hst
              obtain ⟨x1028, hx1028, H⟩ := Option.bind_eq_some_iff.1 H
              refine m_p hst trivial rfl (fun _ => x_indexAddr hst Try.underlying56 el_3 rfl rfl hw1027_0 hx1028) ?_; intro a hst
              refine m_t hst trivial rfl (fun _ hsh => x_loadEF (j := 0) (cs := [.int .i64 x1028]) hst sc_3 rfl (hsh.row 0 rfl) (Same.refl _ _) hx1028 rfl (fun _ h => h) rfl) ?_; intro a hst
              refine m_p hst trivial rfl (fun _ => x_move hst rfl) ?_; intro a hst
              refine m_p hst trivial rfl (fun _ => x_move hst rfl) ?_; intro a hst
              obtain ⟨x1029, hx1029, H⟩ := Option.bind_eq_some_iff.1 H
              refine m_p hst trivial rfl (fun _ => x_indexAddr hst Try.underlying56 el_3 rfl rfl hw1027_0 hx1029) ?_; intro a hst
              refine m_t hst trivial rfl (fun _ hsh => x_loadEF (j := 0) (cs := [.int .i64 x1029]) hst sc_3 rfl (hsh.row 0 rfl) (Same.refl _ _) hx1029 rfl (fun _ h => h) rfl) ?_; intro a hst
              obtain ⟨x1030, hx1030, H⟩ := Option.bind_eq_some_iff.1 H
              refine m_p hst trivial rfl (fun _ => x_indexAddr hst Try.underlying56 el_3 rfl rfl hw1027_0 hx1030) ?_; intro a hst
              refine m_loud (.inr rfl) ?_
              intro w1031 hsh
              obtain ⟨l1032, hl1032, H⟩ := Option.bind_eq_some_iff.1 H
              refine r_storeE (i := 0) (off := 0) (new := x1028) (cs' := [.int .i64 x1028]) hst hsh trivial sc_3 rfl rfl rfl hx1030 rfl (Nat.le_of_ble_eq_true rfl) rfl (fun _ _ _ h => by rw [h]; rfl) (fun _ _ => rfl) ?_; intro a w1033 hsh hst
              rw [← upd_some hl1032] at hsh
              refine m_turn hsh (sub_sh [] rfl) ?_
              obtain ⟨x1034, hx1034, H⟩ := Option.bind_eq_some_iff.1 H
              refine m_t hst trivial rfl (fun _ hsh => x_indexAddr hst Try.underlying56 el_3 rfl rfl (hsh.row 0 rfl) hx1034) ?_; intro a hst
              refine m_loud (.inr rfl) ?_
              intro w1035 hsh
              obtain ⟨l1036, hl1036, H⟩ := Option.bind_eq_some_iff.1 H
              refine r_storeE (i := 0) (off := 0) (new := x1029) (cs' := [.int .i64 x1029]) hst hsh trivial sc_3 rfl rfl rfl hx1034 rfl (Nat.le_of_ble_eq_true rfl) rfl (fun _ _ _ h => by rw [h]; rfl) (fun _ _ => rfl) ?_; intro a w1037 hsh hst
              rw [← upd_some hl1036] at hsh
              refine m_turn hsh (sub_sh [] rfl) ?_
              refine m_nil ?_
              intro w1038 hsh
              refine qn_normal ?_
              refine then_normal ?_
              refine wq_seq ?_
              refine wq_region_lit (.inl rfl) ?_
              refine r_t hst trivial rfl (x_move hst rfl) ?_; intro a hst
              refine r_t hst trivial rfl (x_assign hst rfl) ?_; intro a hst
              refine r_t hst trivial rfl (x_assign hst rfl) ?_; intro a hst
              refine wpL_nil ?_
              refine then_normal ?_
              refine wq_ret ?_
              obtain rfl := Option.some.inj H
              exact ret2 hst rfl rfl rfl ⟨rfl, hsh.pick [0]⟩
            · refine wq_block ?_
              refine wq_loop_fuel (fun k_649 a w' => ∃ (l_531 : (List Int)), ∃ (i_532 : Int), ∃ (i_533 : Int), slices_partitionOrdered_int.l1 a1 J_415 k_649 l_531 i_532 i_533 = some r ∧ ST [] Try.f78.ntmps a [(0, va0), (1, .int .i64 a1), (8, .int .i64 0), (9, .bool false), (10, .int .i64 i_532), (11, .int .i64 i_533)] ∧ SH GG w w' [Row (Kd.int .i64) 3 va0 l_531]) k_32 ?_ ?_
              · exact ⟨l194, (w64 (i_20 + 1)), (w64 (i_65 - 1)), H, hst.keep _ ⟨rfl, rfl, rfl, rfl, rfl, rfl, trivial⟩, hsh.pick [0]⟩
              · rintro k_649 a W_534 ⟨l_531, i_532, i_533, H, hst, hsh⟩
                cases k_649 with
                | zero => rw [slices_partitionOrdered_int.l1] at H; cases H
                | succ k_649 =>
                 rw [slices_partitionOrdered_int.l1] at H
                 refine wq_block ?_
                 obtain ⟨J_678, hJ_678, H⟩ := Jn.elim H
                 refine wq_cut (fun a w' => ∃ (i_676 : Int), J_678 i_676 = some r ∧ ST [] Try.f78.ntmps a [(0, va0), (1, .int .i64 a1), (8, .int .i64 0), (9, .bool false), (10, .int .i64 i_676), (11, .int .i64 i_533)] ∧ SH GG w w' [Row (Kd.int .i64) 3 va0 l_531]) ?_ ?_
                 · rintro a W_677 ⟨i_676, H, hst, hsh⟩
                   subst hJ_678
                   dsimp only at H
                   obtain ⟨J_707, hJ_707, H⟩ := Jn.elim H
                   refine wq_cut (fun a w' => ∃ (i_705 : Int), J_707 i_705 = some r ∧ ST [] Try.f78.ntmps a [(0, va0), (1, .int .i64 a1), (8, .int .i64 0), (9, .bool false), (10, .int .i64 i_676), (11, .int .i64 i_705)] ∧ SH GG w w' [Row (Kd.int .i64) 3 va0 l_531]) ?_ ?_
                   · rintro a W_706 ⟨i_705, H, hst, hsh⟩
                     subst hJ_707
                     dsimp only at H
                     refine wq_seq ?_
                     refine wq_seq ?_
                     refine wq_region_lit (.inl rfl) ?_
                     refine r_t hst trivial rfl (x_move hst rfl) ?_; intro a hst
                     refine r_t hst trivial rfl (x_move hst rfl) ?_; intro a hst
                     refine r_t hst trivial rfl (x_cmpI (b := decide (i_705 < i_676)) hst rfl rfl rfl) ?_; intro a hst
                     refine wpL_nil ?_
                     refine then_normal ?_
                     by_cases c1726 : (decide (i_705 < i_676)) = true
                     · rw [if_pos c1726] at H
                       refine wq_condT hst rfl c1726 ?_
                       refine wq_exit ?_
                       refine then_exit ?_
                       refine block_miss rfl ?_
                       refine then_exit ?_
                       refine block_hit ?_
                       refine then_normal ?_
                       exact ⟨l_531, i_705, H, hst.keep _ ⟨rfl, rfl, rfl, rfl, rfl, trivial⟩, hsh.pick [0]⟩
                     · rw [if_neg c1726] at H
                       replace c1726 := Bool.eq_false_iff.2 c1726
                       refine wq_condF hst rfl c1726 ?_
                       refine wq_skip ?_
                       refine then_normal ?_
                       refine wq_seq ?_
                       have hw1726_0 := hsh.row 0 rfl
                       refine wq_region_t (.inl rfl) (.fin [(3, 0), (3, 1), (3, 2), (3, 3), (3, 4), (3, 5), (3, 6), (0, 7), (3, 8), (3, 9), (3, 10), (0, 11), (3, 12), (2, 13), (0, 14), (2, 15)]) (fun w' => SH GG w w' []) (fun w' => SH GG w w' [Row (Kd.int .i64) 3 va0 l_531]) (fun w' => SH GG w w' [Row (Kd.int .i64) 3 va0 l_531]) (shut_sh _ _ _) (shut_sh _ _ _) (shut_sh _ _ _) (sub_sh [] rfl) (sub_sh [0] rfl) hsh.drew fo (by kernel_rfl) ?_
                       refine t_fin ?_
                       refine m_p hst trivial rfl (fun _ => x_move hst rfl) ?_; intro a hst
                       refine m_p hst trivial rfl (fun _ => x_move hst rfl) ?_; intro a hst
                       refine m_p hst trivial rfl (fun _ => x_move hst rfl) ?_; intro a hst
                       refine m_p hst trivial rfl (fun _ => x_move hst rfl) ?_; intro a hst
                       refine m_p hst trivial rfl (fun _ => x_move hst rfl) ?_; intro a hst
                       refine m_p hst trivial rfl (fun _ => x_move hst rfl) ?_; intro a hst
                       obtain ⟨x1727, hx1727, H⟩ := Option.bind_eq_some_iff.1 H
                       refine m_p hst trivial rfl (fun _ => x_indexAddr hst Try.underlying56 el_3 rfl rfl hw1726_0 hx1727) ?_; intro a hst
                       refine m_t hst trivial rfl (fun _ hsh => x_loadEF (j := 0) (cs := [.int .i64 x1727]) hst sc_3 rfl (hsh.row 0 rfl) (Same.refl _ _) hx1727 rfl (fun _ h => h) rfl) ?_; intro a hst
                       refine m_p hst trivial rfl (fun _ => x_move hst rfl) ?_; intro a hst
                       refine m_p hst trivial rfl (fun _ => x_move hst rfl) ?_; intro a hst
                       obtain ⟨x1728, hx1728, H⟩ := Option.bind_eq_some_iff.1 H
                       refine m_p hst trivial rfl (fun _ => x_indexAddr hst Try.underlying56 el_3 rfl rfl hw1726_0 hx1728) ?_; intro a hst
                       refine m_t hst trivial rfl (fun _ hsh => x_loadEF (j := 0) (cs := [.int .i64 x1728]) hst sc_3 rfl (hsh.row 0 rfl) (Same.refl _ _) hx1728 rfl (fun _ h => h) rfl) ?_; intro a hst
                       obtain ⟨x1729, hx1729, H⟩ := Option.bind_eq_some_iff.1 H
                       refine m_p hst trivial rfl (fun _ => x_indexAddr hst Try.underlying56 el_3 rfl rfl hw1726_0 hx1729) ?_; intro a hst
                       refine m_loud (.inr rfl) ?_
                       intro w1730 hsh
                       obtain ⟨l1731, hl1731, H⟩ := Option.bind_eq_some_iff.1 H
                       refine r_storeE (i := 0) (off := 0) (new := x1727) (cs' := [.int .i64 x1727]) hst hsh trivial sc_3 rfl rfl rfl hx1729 rfl (Nat.le_of_ble_eq_true rfl) rfl (fun _ _ _ h => by rw [h]; rfl) (fun _ _ => rfl) ?_; intro a w1732 hsh hst
                       rw [← upd_some hl1731] at hsh
                       refine m_turn hsh (sub_sh [] rfl) ?_
                       obtain ⟨x1733, hx1733, H⟩ := Option.bind_eq_some_iff.1 H
                       refine m_t hst trivial rfl (fun _ hsh => x_indexAddr hst Try.underlying56 el_3 rfl rfl (hsh.row 0 rfl) hx1733) ?_; intro a hst
                       refine m_loud (.inr rfl) ?_
                       intro w1734 hsh
                       obtain ⟨l1735, hl1735, H⟩ := Option.bind_eq_some_iff.1 H
                       refine r_storeE (i := 0) (off := 0) (new := x1728) (cs' := [.int .i64 x1728]) hst hsh trivial sc_3 rfl rfl rfl hx1733 rfl (Nat.le_of_ble_eq_true rfl) rfl (fun _ _ _ h => by rw [h]; rfl) (fun _ _ => rfl) ?_; intro a w1736 hsh hst
                       rw [← upd_some hl1735] at hsh
                       refine m_turn hsh (sub_sh [] rfl) ?_
                       refine m_nil ?_
                       intro w1737 hsh
                       refine qn_normal ?_
                       refine then_normal ?_
                       refine wq_seq ?_
                       refine wq_region_lit (.inl rfl) ?_
                       refine r_t hst trivial rfl (x_move hst rfl) ?_; intro a hst
                       refine r_t hst trivial rfl (x_arI (r := w64 (i_676 + 1)) hst rfl rfl rfl) ?_; intro a hst
                       refine r_t hst trivial rfl (x_assign hst rfl) ?_; intro a hst
                       refine wpL_nil ?_
                       refine then_normal ?_
                       refine wq_region_lit (.inl rfl) ?_
                       refine r_t hst trivial rfl (x_move hst rfl) ?_; intro a hst
                       refine r_t hst trivial rfl (x_arI (r := w64 (i_705 - 1)) hst rfl rfl rfl) ?_; intro a hst
                       refine r_t hst trivial rfl (x_assign hst rfl) ?_; intro a hst
                       refine wpL_nil ?_
                       refine block_normal ?_
                       refine then_normal ?_
                       exact ⟨k_649, Nat.lt_succ_self _, l1735, (w64 (i_676 + 1)), (w64 (i_705 - 1)), H, hst.keep _ ⟨rfl, rfl, rfl, rfl, rfl, rfl, trivial⟩, hsh.pick [0]⟩
                   · refine wq_block ?_
                     refine wq_loop_fuel (fun k_727 a w' => ∃ (i_717 : Int), slices_partitionOrdered_int.l2 a1 l_531 i_676 J_707 k_727 i_717 = some r ∧ ST [] Try.f78.ntmps a [(0, va0), (1, .int .i64 a1), (8, .int .i64 0), (9, .bool false), (10, .int .i64 i_676), (11, .int .i64 i_717)] ∧ SH GG w w' [Row (Kd.int .i64) 3 va0 l_531]) k_649 ?_ ?_
                     · exact ⟨i_533, H, hst.keep _ ⟨rfl, rfl, rfl, rfl, rfl, rfl, trivial⟩, hsh.pick [0]⟩
                     · rintro k_727 a W_718 ⟨i_717, H, hst, hsh⟩
                       cases k_727 with
                       | zero => rw [slices_partitionOrdered_int.l2] at H; cases H
                       | succ k_727 =>
                        rw [slices_partitionOrdered_int.l2] at H
                        refine wq_seq ?_
                        refine wq_seq ?_
                        refine wq_region_q (.inl rfl) (fun w' => SH GG w w' [Row (Kd.int .i64) 3 va0 l_531]) (shut_sh _ _ _) hsh.drew fo (by kernel_rfl) ?_
                        refine q_t hst trivial rfl (fun _ hsh => x_move hst rfl) ?_; intro a hst
                        refine q_t hst trivial rfl (fun _ hsh => x_move hst rfl) ?_; intro a hst
                        refine q_t hst trivial rfl (fun _ hsh => x_cmpI (b := decide (i_676 ≤ i_717)) hst rfl rfl rfl) ?_; intro a hst
                        refine q_t hst trivial rfl (fun _ hsh => x_move hst rfl) ?_; intro a hst
                        obtain ⟨J_732, hJ_732, H⟩ := Jn.elim H
                        refine q_join 15 (fun a => ∃ (b_731 : Bool), J_732 b_731 = some r ∧ ST [] Try.f78.ntmps a [(0, va0), (1, .int .i64 a1), (8, .int .i64 0), (9, .bool false), (10, .int .i64 i_676), (11, .int .i64 i_717), (129, .bool b_731)]) ?_ ?_
                        · rintro a ⟨b_731, H, hst⟩
                          subst hJ_732
                          dsimp only at H
                          refine q_nil ?_
                          intro w1798 hsh
                          refine then_normal ?_
                          by_cases c1799 : b_731 = true
                          · rw [if_pos c1799] at H
                            refine wq_condT hst rfl c1799 ?_
                            refine wq_skip ?_
                            refine then_normal ?_
                            refine wq_block ?_
                            refine wq_region_lit (.inl rfl) ?_
                            refine r_t hst trivial rfl (x_move hst rfl) ?_; intro a hst
                            refine r_t hst trivial rfl (x_arI (r := w64 (i_717 - 1)) hst rfl rfl rfl) ?_; intro a hst
                            refine r_t hst trivial rfl (x_assign hst rfl) ?_; intro a hst
                            refine wpL_nil ?_
                            refine block_normal ?_
                            refine then_normal ?_
                            exact ⟨k_727, Nat.lt_succ_self _, (w64 (i_717 - 1)), H, hst.keep _ ⟨rfl, rfl, rfl, rfl, rfl, rfl, trivial⟩, hsh.pick [0]⟩
                          · rw [if_neg c1799] at H
                            replace c1799 := Bool.eq_false_iff.2 c1799
                            refine wq_condF hst rfl c1799 ?_
                            refine wq_exit ?_
                            refine then_exit ?_
                            refine then_exit ?_
                            refine block_hit ?_
                            refine then_normal ?_
                            exact ⟨i_717, H, hst.keep _ ⟨rfl, rfl, rfl, rfl, rfl, rfl, trivial⟩, hsh.pick [0]⟩
                        · intro hj
                          by_cases c1793 : (decide (i_676 ≤ i_717)) = true
                          · rw [if_pos c1793] at H
                            refine q_t hst (wt_of 118 rfl rfl c1793) rfl (fun _ hsh => x_move hst rfl) ?_; intro a hst
                            refine q_t hst (wt_of 118 rfl rfl c1793) rfl (fun _ hsh => x_move hst rfl) ?_; intro a hst
                            obtain ⟨x1800, hx1800, H⟩ := Option.bind_eq_some_iff.1 H
                            refine q_t hst (wt_of 118 rfl rfl c1793) rfl (fun _ hsh => x_indexAddr hst Try.underlying56 el_3 rfl rfl (hsh.row 0 rfl) hx1800) ?_; intro a hst
                            refine q_t hst (wt_of 118 rfl rfl c1793) rfl (fun _ hsh => x_loadEF (j := 0) (cs := [.int .i64 x1800]) hst sc_3 rfl (hsh.row 0 rfl) (Same.refl _ _) hx1800 rfl (fun _ h => h) rfl) ?_; intro a hst
                            refine q_t hst (wt_of 118 rfl rfl c1793) rfl (fun _ hsh => x_move hst rfl) ?_; intro a hst
                            refine q_t hst (wt_of 118 rfl rfl c1793) rfl (fun _ hsh => x_move hst rfl) ?_; intro a hst
                            obtain ⟨x1801, hx1801, H⟩ := Option.bind_eq_some_iff.1 H
                            refine q_t hst (wt_of 118 rfl rfl c1793) rfl (fun _ hsh => x_indexAddr hst Try.underlying56 el_3 rfl rfl (hsh.row 0 rfl) hx1801) ?_; intro a hst
                            refine q_t hst (wt_of 118 rfl rfl c1793) rfl (fun _ hsh => x_loadEF (j := 0) (cs := [.int .i64 x1801]) hst sc_3 rfl (hsh.row 0 rfl) (Same.refl _ _) hx1801 rfl (fun _ h => h) rfl) ?_; intro a hst
                            obtain ⟨r1802, hr1802, H⟩ := Option.bind_eq_some_iff.1 H
                            refine q_call hst (wt_of 118 rfl rfl c1793) rfl fn_76 rfl (fun w9 hsh => cmp_Less_int.calls _ x1800 x1801 r1802 hr1802) ?_; intro a hst
                            refine q_t hst (wt_of 118 rfl rfl c1793) rfl (fun _ hsh => x_notB hst rfl) ?_; intro a hst
                            refine q_t hst trivial rfl (fun _ hsh => x_pickT hst rfl c1793 rfl) ?_; intro a hst
                            exact hj _ ⟨(!r1802), H, hst.keep _ ⟨rfl, rfl, rfl, rfl, rfl, rfl, rfl, trivial⟩⟩
                          · rw [if_neg c1793] at H
                            replace c1793 := Bool.eq_false_iff.2 c1793
                            refine q_not hst 118 rfl rfl c1793 rfl ?_; intro a hst
                            refine q_not hst 118 rfl rfl c1793 rfl ?_; intro a hst
                            refine q_not hst 118 rfl rfl c1793 rfl ?_; intro a hst
                            refine q_not hst 118 rfl rfl c1793 rfl ?_; intro a hst
                            refine q_not hst 118 rfl rfl c1793 rfl ?_; intro a hst
                            refine q_not hst 118 rfl rfl c1793 rfl ?_; intro a hst
                            refine q_not hst 118 rfl rfl c1793 rfl ?_; intro a hst
                            refine q_not hst 118 rfl rfl c1793 rfl ?_; intro a hst
                            refine q_not hst 118 rfl rfl c1793 rfl ?_; intro a hst
                            refine q_not hst 118 rfl rfl c1793 rfl ?_; intro a hst
                            refine q_t hst trivial rfl (fun _ hsh => x_pickF hst rfl c1793 rfl) ?_; intro a hst
                            exact hj _ ⟨false, H, hst.keep _ ⟨rfl, rfl, rfl, rfl, rfl, rfl, rfl, trivial⟩⟩
                 · refine wq_block ?_
                   refine wq_loop_fuel (fun k_753 a w' => ∃ (i_743 : Int), slices_partitionOrdered_int.l3 a1 l_531 i_533 J_678 k_753 i_743 = some r ∧ ST [] Try.f78.ntmps a [(0, va0), (1, .int .i64 a1), (8, .int .i64 0), (9, .bool false), (10, .int .i64 i_743), (11, .int .i64 i_533)] ∧ SH GG w w' [Row (Kd.int .i64) 3 va0 l_531]) k_649 ?_ ?_
                   · exact ⟨i_532, H, hst.keep _ ⟨rfl, rfl, rfl, rfl, rfl, rfl, trivial⟩, hsh.pick [0]⟩
                   · rintro k_753 a W_744 ⟨i_743, H, hst, hsh⟩
                     cases k_753 with
                     | zero => rw [slices_partitionOrdered_int.l3] at H; cases H
                     | succ k_753 =>
                      rw [slices_partitionOrdered_int.l3] at H
                      refine wq_seq ?_
                      refine wq_seq ?_
                      refine wq_region_q (.inl rfl) (fun w' => SH GG w w' [Row (Kd.int .i64) 3 va0 l_531]) (shut_sh _ _ _) hsh.drew fo (by kernel_rfl) ?_
                      refine q_t hst trivial rfl (fun _ hsh => x_move hst rfl) ?_; intro a hst
                      refine q_t hst trivial rfl (fun _ hsh => x_move hst rfl) ?_; intro a hst
                      refine q_t hst trivial rfl (fun _ hsh => x_cmpI (b := decide (i_743 ≤ i_533)) hst rfl rfl rfl) ?_; intro a hst
                      refine q_t hst trivial rfl (fun _ hsh => x_move hst rfl) ?_; intro a hst
                      obtain ⟨J_758, hJ_758, H⟩ := Jn.elim H
                      refine q_join 14 (fun a => ∃ (b_757 : Bool), J_758 b_757 = some r ∧ ST [] Try.f78.ntmps a [(0, va0), (1, .int .i64 a1), (8, .int .i64 0), (9, .bool false), (10, .int .i64 i_743), (11, .int .i64 i_533), (112, .bool b_757)]) ?_ ?_
                      · rintro a ⟨b_757, H, hst⟩
                        subst hJ_758
                        dsimp only at H
                        refine q_nil ?_
                        intro w1864 hsh
                        refine then_normal ?_
                        by_cases c1865 : b_757 = true
                        · rw [if_pos c1865] at H
                          refine wq_condT hst rfl c1865 ?_
                          refine wq_skip ?_
                          refine then_normal ?_
                          refine wq_block ?_
                          refine wq_region_lit (.inl rfl) ?_
                          refine r_t hst trivial rfl (x_move hst rfl) ?_; intro a hst
                          refine r_t hst trivial rfl (x_arI (r := w64 (i_743 + 1)) hst rfl rfl rfl) ?_; intro a hst
                          refine r_t hst trivial rfl (x_assign hst rfl) ?_; intro a hst
                          refine wpL_nil ?_
                          refine block_normal ?_
                          refine then_normal ?_
                          exact ⟨k_753, Nat.lt_succ_self _, (w64 (i_743 + 1)), H, hst.keep _ ⟨rfl, rfl, rfl, rfl, rfl, rfl, trivial⟩, hsh.pick [0]⟩
                        · rw [if_neg c1865] at H
                          replace c1865 := Bool.eq_false_iff.2 c1865
                          refine wq_condF hst rfl c1865 ?_
                          refine wq_exit ?_
                          refine then_exit ?_
                          refine then_exit ?_
                          refine block_hit ?_
                          refine then_normal ?_
                          exact ⟨i_743, H, hst.keep _ ⟨rfl, rfl, rfl, rfl, rfl, rfl, trivial⟩, hsh.pick [0]⟩
                      · intro hj
                        by_cases c1859 : (decide (i_743 ≤ i_533)) = true
                        · rw [if_pos c1859] at H
                          refine q_t hst (wt_of 102 rfl rfl c1859) rfl (fun _ hsh => x_move hst rfl) ?_; intro a hst
                          refine q_t hst (wt_of 102 rfl rfl c1859) rfl (fun _ hsh => x_move hst rfl) ?_; intro a hst
                          obtain ⟨x1866, hx1866, H⟩ := Option.bind_eq_some_iff.1 H
                          refine q_t hst (wt_of 102 rfl rfl c1859) rfl (fun _ hsh => x_indexAddr hst Try.underlying56 el_3 rfl rfl (hsh.row 0 rfl) hx1866) ?_; intro a hst
                          refine q_t hst (wt_of 102 rfl rfl c1859) rfl (fun _ hsh => x_loadEF (j := 0) (cs := [.int .i64 x1866]) hst sc_3 rfl (hsh.row 0 rfl) (Same.refl _ _) hx1866 rfl (fun _ h => h) rfl) ?_; intro a hst
                          refine q_t hst (wt_of 102 rfl rfl c1859) rfl (fun _ hsh => x_move hst rfl) ?_; intro a hst
                          refine q_t hst (wt_of 102 rfl rfl c1859) rfl (fun _ hsh => x_move hst rfl) ?_; intro a hst
                          obtain ⟨x1867, hx1867, H⟩ := Option.bind_eq_some_iff.1 H
                          refine q_t hst (wt_of 102 rfl rfl c1859) rfl (fun _ hsh => x_indexAddr hst Try.underlying56 el_3 rfl rfl (hsh.row 0 rfl) hx1867) ?_; intro a hst
                          refine q_t hst (wt_of 102 rfl rfl c1859) rfl (fun _ hsh => x_loadEF (j := 0) (cs := [.int .i64 x1867]) hst sc_3 rfl (hsh.row 0 rfl) (Same.refl _ _) hx1867 rfl (fun _ h => h) rfl) ?_; intro a hst
                          obtain ⟨r1868, hr1868, H⟩ := Option.bind_eq_some_iff.1 H
                          refine q_call hst (wt_of 102 rfl rfl c1859) rfl fn_76 rfl (fun w9 hsh => cmp_Less_int.calls _ x1866 x1867 r1868 hr1868) ?_; intro a hst
                          refine q_t hst trivial rfl (fun _ hsh => x_pickT hst rfl c1859 rfl) ?_; intro a hst
                          exact hj _ ⟨r1868, H, hst.keep _ ⟨rfl, rfl, rfl, rfl, rfl, rfl, rfl, trivial⟩⟩
                        · rw [if_neg c1859] at H
                          replace c1859 := Bool.eq_false_iff.2 c1859
                          refine q_not hst 102 rfl rfl c1859 rfl ?_; intro a hst
                          refine q_not hst 102 rfl rfl c1859 rfl ?_; intro a hst
                          refine q_not hst 102 rfl rfl c1859 rfl ?_; intro a hst
                          refine q_not hst 102 rfl rfl c1859 rfl ?_; intro a hst
                          refine q_not hst 102 rfl rfl c1859 rfl ?_; intro a hst
                          refine q_not hst 102 rfl rfl c1859 rfl ?_; intro a hst
                          refine q_not hst 102 rfl rfl c1859 rfl ?_; intro a hst
                          refine q_not hst 102 rfl rfl c1859 rfl ?_; intro a hst
                          refine q_not hst 102 rfl rfl c1859 rfl ?_; intro a hst
                          refine q_t hst trivial rfl (fun _ hsh => x_pickF hst rfl c1859 rfl) ?_; intro a hst
                          exact hj _ ⟨false, H, hst.keep _ ⟨rfl, rfl, rfl, rfl, rfl, rfl, rfl, trivial⟩⟩
        · refine wq_block ?_
          refine wq_loop_fuel (fun k_779 a w' => ∃ (i_769 : Int), slices_partitionOrdered_int.l4 a1 l9 i_20 J_67 k_779 i_769 = some r ∧ ST [] Try.f78.ntmps a [(0, va0), (1, .int .i64 a1), (8, .int .i64 0), (9, .bool false), (10, .int .i64 i_20), (11, .int .i64 i_769)] ∧ SH GG w w' [Row (Kd.int .i64) 3 va0 l9]) k_32 ?_ ?_
          · exact ⟨i_21, H, hst.keep _ ⟨rfl, rfl, rfl, rfl, rfl, rfl, trivial⟩, hsh.pick [0]⟩
          · rintro k_779 a W_770 ⟨i_769, H, hst, hsh⟩
            cases k_779 with
            | zero => rw [slices_partitionOrdered_int.l4] at H; cases H
            | succ k_779 =>
             rw [slices_partitionOrdered_int.l4] at H
             refine wq_seq ?_
             refine wq_seq ?_
             refine wq_region_q (.inl rfl) (fun w' => SH GG w w' [Row (Kd.int .i64) 3 va0 l9]) (shut_sh _ _ _) hsh.drew fo (by kernel_rfl) ?_
             refine q_t hst trivial rfl (fun _ hsh => x_move hst rfl) ?_; intro a hst
             refine q_t hst trivial rfl (fun _ hsh => x_move hst rfl) ?_; intro a hst
             refine q_t hst trivial rfl (fun _ hsh => x_cmpI (b := decide (i_20 ≤ i_769)) hst rfl rfl rfl) ?_; intro a hst
             refine q_t hst trivial rfl (fun _ hsh => x_move hst rfl) ?_; intro a hst
             obtain ⟨J_784, hJ_784, H⟩ := Jn.elim H
             refine q_join 15 (fun a => ∃ (b_783 : Bool), J_784 b_783 = some r ∧ ST [] Try.f78.ntmps a [(0, va0), (1, .int .i64 a1), (8, .int .i64 0), (9, .bool false), (10, .int .i64 i_20), (11, .int .i64 i_769), (60, .bool b_783)]) ?_ ?_
             · rintro a ⟨b_783, H, hst⟩
               subst hJ_784
               dsimp only at H
               refine q_nil ?_
               intro w1930 hsh
               refine then_normal ?_
               by_cases c1931 : b_783 = true
               · rw [if_pos c1931] at H
                 refine wq_condT hst rfl c1931 ?_
                 refine wq_skip ?_
                 refine then_normal ?_
                 refine wq_block ?_
                 refine wq_region_lit (.inl rfl) ?_
                 refine r_t hst trivial rfl (x_move hst rfl) ?_; intro a hst
                 refine r_t hst trivial rfl (x_arI (r := w64 (i_769 - 1)) hst rfl rfl rfl) ?_; intro a hst
                 refine r_t hst trivial rfl (x_assign hst rfl) ?_; intro a hst
                 refine wpL_nil ?_
                 refine block_normal ?_
                 refine then_normal ?_
                 exact ⟨k_779, Nat.lt_succ_self _, (w64 (i_769 - 1)), H, hst.keep _ ⟨rfl, rfl, rfl, rfl, rfl, rfl, trivial⟩, hsh.pick [0]⟩
               · rw [if_neg c1931] at H
                 replace c1931 := Bool.eq_false_iff.2 c1931
                 refine wq_condF hst rfl c1931 ?_
                 refine wq_exit ?_
                 refine then_exit ?_
                 refine then_exit ?_
                 refine block_hit ?_
                 refine then_normal ?_
                 exact ⟨i_769, H, hst.keep _ ⟨rfl, rfl, rfl, rfl, rfl, rfl, trivial⟩, hsh.pick [0]⟩
             · intro hj
               by_cases c1925 : (decide (i_20 ≤ i_769)) = true
               · rw [if_pos c1925] at H
                 refine q_t hst (wt_of 49 rfl rfl c1925) rfl (fun _ hsh => x_move hst rfl) ?_; intro a hst
                 refine q_t hst (wt_of 49 rfl rfl c1925) rfl (fun _ hsh => x_move hst rfl) ?_; intro a hst
                 obtain ⟨x1932, hx1932, H⟩ := Option.bind_eq_some_iff.1 H
                 refine q_t hst (wt_of 49 rfl rfl c1925) rfl (fun _ hsh => x_indexAddr hst Try.underlying56 el_3 rfl rfl (hsh.row 0 rfl) hx1932) ?_; intro a hst
                 refine q_t hst (wt_of 49 rfl rfl c1925) rfl (fun _ hsh => x_loadEF (j := 0) (cs := [.int .i64 x1932]) hst sc_3 rfl (hsh.row 0 rfl) (Same.refl _ _) hx1932 rfl (fun _ h => h) rfl) ?_; intro a hst
                 refine q_t hst (wt_of 49 rfl rfl c1925) rfl (fun _ hsh => x_move hst rfl) ?_; intro a hst
                 refine q_t hst (wt_of 49 rfl rfl c1925) rfl (fun _ hsh => x_move hst rfl) ?_; intro a hst
                 obtain ⟨x1933, hx1933, H⟩ := Option.bind_eq_some_iff.1 H
                 refine q_t hst (wt_of 49 rfl rfl c1925) rfl (fun _ hsh => x_indexAddr hst Try.underlying56 el_3 rfl rfl (hsh.row 0 rfl) hx1933) ?_; intro a hst
                 refine q_t hst (wt_of 49 rfl rfl c1925) rfl (fun _ hsh => x_loadEF (j := 0) (cs := [.int .i64 x1933]) hst sc_3 rfl (hsh.row 0 rfl) (Same.refl _ _) hx1933 rfl (fun _ h => h) rfl) ?_; intro a hst
                 obtain ⟨r1934, hr1934, H⟩ := Option.bind_eq_some_iff.1 H
                 refine q_call hst (wt_of 49 rfl rfl c1925) rfl fn_76 rfl (fun w9 hsh => cmp_Less_int.calls _ x1932 x1933 r1934 hr1934) ?_; intro a hst
                 refine q_t hst (wt_of 49 rfl rfl c1925) rfl (fun _ hsh => x_notB hst rfl) ?_; intro a hst
                 refine q_t hst trivial rfl (fun _ hsh => x_pickT hst rfl c1925 rfl) ?_; intro a hst
                 exact hj _ ⟨(!r1934), H, hst.keep _ ⟨rfl, rfl, rfl, rfl, rfl, rfl, rfl, trivial⟩⟩
               · rw [if_neg c1925] at H
                 replace c1925 := Bool.eq_false_iff.2 c1925
                 refine q_not hst 49 rfl rfl c1925 rfl ?_; intro a hst
                 refine q_not hst 49 rfl rfl c1925 rfl ?_; intro a hst
                 refine q_not hst 49 rfl rfl c1925 rfl ?_; intro a hst
                 refine q_not hst 49 rfl rfl c1925 rfl ?_; intro a hst
                 refine q_not hst 49 rfl rfl c1925 rfl ?_; intro a hst
                 refine q_not hst 49 rfl rfl c1925 rfl ?_; intro a hst
                 refine q_not hst 49 rfl rfl c1925 rfl ?_; intro a hst
                 refine q_not hst 49 rfl rfl c1925 rfl ?_; intro a hst
                 refine q_not hst 49 rfl rfl c1925 rfl ?_; intro a hst
                 refine q_not hst 49 rfl rfl c1925 rfl ?_; intro a hst
                 refine q_t hst trivial rfl (fun _ hsh => x_pickF hst rfl c1925 rfl) ?_; intro a hst
                 exact hj _ ⟨false, H, hst.keep _ ⟨rfl, rfl, rfl, rfl, rfl, rfl, rfl, trivial⟩⟩
    · intro hj
      by_cases c89 : (decide (i_20 ≤ i_21)) = true
      · rw [if_pos c89] at H
        refine q_t hst (wt_of 33 rfl rfl c89) rfl (fun _ hsh => x_move hst rfl) ?_; intro a hst
        refine q_t hst (wt_of 33 rfl rfl c89) rfl (fun _ hsh => x_move hst rfl) ?_; intro a hst
        obtain ⟨x1936, hx1936, H⟩ := Option.bind_eq_some_iff.1 H
        refine q_t hst (wt_of 33 rfl rfl c89) rfl (fun _ hsh => x_indexAddr hst Try.underlying56 el_3 rfl rfl (hsh.row 0 rfl) hx1936) ?_; intro a hst
        refine q_t hst (wt_of 33 rfl rfl c89) rfl (fun _ hsh => x_loadEF (j := 0) (cs := [.int .i64 x1936]) hst sc_3 rfl (hsh.row 0 rfl) (Same.refl _ _) hx1936 rfl (fun _ h => h) rfl) ?_; intro a hst
        refine q_t hst (wt_of 33 rfl rfl c89) rfl (fun _ hsh => x_move hst rfl) ?_; intro a hst
        refine q_t hst (wt_of 33 rfl rfl c89) rfl (fun _ hsh => x_move hst rfl) ?_; intro a hst
        obtain ⟨x1937, hx1937, H⟩ := Option.bind_eq_some_iff.1 H
        refine q_t hst (wt_of 33 rfl rfl c89) rfl (fun _ hsh => x_indexAddr hst Try.underlying56 el_3 rfl rfl (hsh.row 0 rfl) hx1937) ?_; intro a hst
        refine q_t hst (wt_of 33 rfl rfl c89) rfl (fun _ hsh => x_loadEF (j := 0) (cs := [.int .i64 x1937]) hst sc_3 rfl (hsh.row 0 rfl) (Same.refl _ _) hx1937 rfl (fun _ h => h) rfl) ?_; intro a hst
        obtain ⟨r1938, hr1938, H⟩ := Option.bind_eq_some_iff.1 H
        refine q_call hst (wt_of 33 rfl rfl c89) rfl fn_76 rfl (fun w9 hsh => cmp_Less_int.calls _ x1936 x1937 r1938 hr1938) ?_; intro a hst
        refine q_t hst trivial rfl (fun _ hsh => x_pickT hst rfl c89 rfl) ?_; intro a hst
        exact hj _ ⟨r1938, H, hst.keep _ ⟨rfl, rfl, rfl, rfl, rfl, rfl, rfl, trivial⟩⟩
      · rw [if_neg c89] at H
        replace c89 := Bool.eq_false_iff.2 c89
        refine q_not hst 33 rfl rfl c89 rfl ?_; intro a hst
        refine q_not hst 33 rfl rfl c89 rfl ?_; intro a hst
        refine q_not hst 33 rfl rfl c89 rfl ?_; intro a hst
        refine q_not hst 33 rfl rfl c89 rfl ?_; intro a hst
        refine q_not hst 33 rfl rfl c89 rfl ?_; intro a hst
        refine q_not hst 33 rfl rfl c89 rfl ?_; intro a hst
        refine q_not hst 33 rfl rfl c89 rfl ?_; intro a hst
        refine q_not hst 33 rfl rfl c89 rfl ?_; intro a hst
        refine q_not hst 33 rfl rfl c89 rfl ?_; intro a hst
        refine q_t hst trivial rfl (fun _ hsh => x_pickF hst rfl c89 rfl) ?_; intro a hst
        exact hj _ ⟨false, H, hst.keep _ ⟨rfl, rfl, rfl, rfl, rfl, rfl, rfl, trivial⟩⟩

set_option maxHeartbeats 4000000 in
set_option maxRecDepth 100000 in
theorem slices_pdqsortOrdered_int.calls (k : Nat) : ∀ (w : World) (GG : Nat → Prop) (va0 : Value) (a0 : (List Int)) (a1 : Int) (a2 : Int) (a3 : Int) (hsep : Sep GG w [Row (Kd.int .i64) 3 va0 a0]) (r : (List Int)) (h : slices_pdqsortOrdered_int k a0 a1 a2 a3 = some r),
    Calls Try.prog 65 ([va0, .int .i64 a1, .int .i64 a2, .int .i64 a3] : List Value).toArray w fun e w' => e = .returned (.tuple #[]) ∧ SH GG w w' [Row (Kd.int .i64) 3 va0 r] := by
 induction k with
 | zero =>
  intros
  rename_i h
  rw [slices_pdqsortOrdered_int] at h
  cases h
 | succ k ih =>
  intro w GG va0 a0 a1 a2 a3 hsep r h
  have H := h
  clear h
  rw [slices_pdqsortOrdered_int] at H
  refine calls_enter Try.func65 rfl rfl ?_
  intro a hst
  have hsh := SH.start hsep
  refine wq_seq ?_
  refine wq_region_lit (.inl rfl) ?_
  refine r_t hst trivial rfl (x_assign hst rfl) ?_; intro a hst
  refine wpL_nil ?_
  refine then_normal ?_
  refine wq_seq ?_
  refine wq_region_lit (.inl rfl) ?_
  refine r_t hst trivial rfl (x_assign hst rfl) ?_; intro a hst
  refine wpL_nil ?_
  refine then_normal ?_
  refine wq_block ?_
  refine wq_loop_fuel (fun k_60 a w' => ∃ (l_28 : (List Int)), ∃ (i_29 : Int), ∃ (i_30 : Int), ∃ (i_31 : Int), ∃ (b_32 : Bool), ∃ (b_33 : Bool), slices_pdqsortOrdered_int.l0 (fun x0 x1 x2 x3 => slices_pdqsortOrdered_int k x0 x1 x2 x3) k_60 l_28 i_29 i_30 i_31 b_32 b_33 = some r ∧ ST [] Try.f65.ntmps a [(0, va0), (1, .int .i64 i_29), (2, .int .i64 i_30), (3, .int .i64 i_31), (8, .bool b_32), (9, .bool b_33)] ∧ SH GG w w' [Row (Kd.int .i64) 3 va0 l_28]) k ?_ ?_
  · exact ⟨a0, a1, a2, a3, true, true, H, hst.keep _ ⟨rfl, rfl, rfl, rfl, rfl, rfl, trivial⟩, hsh.pick [0]⟩
  · rintro k_60 a W_34 ⟨l_28, i_29, i_30, i_31, b_32, b_33, H, hst, hsh⟩
    cases k_60 with
    | zero => rw [slices_pdqsortOrdered_int.l0] at H; cases H
    | succ k_60 =>
     rw [slices_pdqsortOrdered_int.l0] at H
     refine wq_block ?_
     refine wq_seq ?_
     refine wq_region_lit (.inl rfl) ?_
     refine r_t hst trivial rfl (x_move hst rfl) ?_; intro a hst
     refine r_t hst trivial rfl (x_move hst rfl) ?_; intro a hst
     refine r_t hst trivial rfl (x_arI (r := w64 (i_30 - i_29)) hst rfl rfl rfl) ?_; intro a hst
     refine r_t hst trivial rfl (x_assign hst rfl) ?_; intro a hst
     refine wpL_nil ?_
     refine then_normal ?_
     refine wq_seq ?_
     refine wq_seq ?_
     refine wq_region_lit (.inl rfl) ?_
     refine r_t hst trivial rfl (x_move hst rfl) ?_; intro a hst
     refine r_t hst trivial rfl (x_cmpI (b := decide ((w64 (i_30 - i_29)) ≤ 12)) hst rfl rfl rfl) ?_; intro a hst
     refine wpL_nil ?_
     refine then_normal ?_
     by_cases c177 : (decide ((w64 (i_30 - i_29)) ≤ 12)) = true
     · rw [if_pos c177] at H
       refine wq_condT hst rfl c177 ?_
       refine wq_seq ?_
       refine wq_region_lit (.inl rfl) ?_
       refine r_t hst trivial rfl (x_move hst rfl) ?_; intro a hst
       refine r_t hst trivial rfl (x_move hst rfl) ?_; intro a hst
       refine r_t hst trivial rfl (x_move hst rfl) ?_; intro a hst
       replace hsh := hsh.pick [0]
       obtain ⟨GG180, hsp, hG, hbx, hfx, hk⟩ := SH.callD (L1 := [Row (Kd.int .i64) 3 va0 l_28]) (L2 := []) hsh
       obtain ⟨r178, hr178, H⟩ := Option.bind_eq_some_iff.1 H
       refine r_callD hst trivial rfl fn_70 rfl (slices_insertionSortOrdered_int.calls k_60 _ GG180 _ l_28 i_29 i_30 hsp r178 hr178) ?_
       rintro e w179 ⟨rfl, hc⟩
       replace hsh := hk _ _ hc
       clear hc
       refine ⟨_, rfl, fun a hst => ?_⟩
       refine wpL_nil ?_
       refine then_normal ?_
       refine wq_ret ?_
       refine then_ret ?_
       refine block_ret ?_
       refine then_ret ?_
       refine block_ret ?_
       obtain rfl := Option.some.inj H
       exact ret0 hst rfl ⟨rfl, hsh.pick [0]⟩
     · rw [if_neg c177] at H
       replace c177 := Bool.eq_false_iff.2 c177
       refine wq_condF hst rfl c177 ?_
       refine wq_skip ?_
       refine then_normal ?_
       refine wq_seq ?_
       refine wq_seq ?_
       refine wq_region_lit (.inl rfl) ?_
       refine r_t hst trivial rfl (x_move hst rfl) ?_; intro a hst
       refine r_t hst trivial rfl (x_cmpI (b := (i_31 == 0)) hst rfl rfl rfl) ?_; intro a hst
       refine wpL_nil ?_
       refine then_normal ?_
       by_cases c185 : (i_31 == 0) = true
       · rw [if_pos c185] at H
         refine wq_condT hst rfl c185 ?_
         refine wq_seq ?_
         refine wq_region_lit (.inl rfl) ?_
         refine r_t hst trivial rfl (x_move hst rfl) ?_; intro a hst
         refine r_t hst trivial rfl (x_move hst rfl) ?_; intro a hst
         refine r_t hst trivial rfl (x_move hst rfl) ?_; intro a hst
         replace hsh := hsh.pick [0]
         obtain ⟨GG188, hsp, hG, hbx, hfx, hk⟩ := SH.callD (L1 := [Row (Kd.int .i64) 3 va0 l_28]) (L2 := []) hsh
         obtain ⟨r186, hr186, H⟩ := Option.bind_eq_some_iff.1 H
         refine r_callD hst trivial rfl fn_71 rfl (slices_heapSortOrdered_int.calls k_60 _ GG188 _ l_28 i_29 i_30 hsp r186 hr186) ?_
         rintro e w187 ⟨rfl, hc⟩
         replace hsh := hk _ _ hc
         clear hc
         refine ⟨_, rfl, fun a hst => ?_⟩
         refine wpL_nil ?_
         refine then_normal ?_
         refine wq_ret ?_
         refine then_ret ?_
         refine block_ret ?_
         refine then_ret ?_
         refine block_ret ?_
         obtain rfl := Option.some.inj H
         exact ret0 hst rfl ⟨rfl, hsh.pick [0]⟩
       · rw [if_neg c185] at H
         replace c185 := Bool.eq_false_iff.2 c185
         refine wq_condF hst rfl c185 ?_
         refine wq_skip ?_
         refine then_normal ?_
         obtain ⟨J_64, hJ_64, H⟩ := Jn.elim H
         refine wq_cut (fun a w' => ∃ (l_61 : (List Int)), ∃ (i_62 : Int), J_64 l_61 i_62 = some r ∧ ST [] Try.f65.ntmps a [(0, va0), (1, .int .i64 i_29), (2, .int .i64 i_30), (3, .int .i64 i_62), (8, .bool b_32), (9, .bool b_33), (10, .int .i64 (w64 (i_30 - i_29)))] ∧ SH GG w w' [Row (Kd.int .i64) 3 va0 l_61]) ?_ ?_
         · rintro a W_63 ⟨l_61, i_62, H, hst, hsh⟩
           subst hJ_64
           dsimp only at H
           refine wq_seq ?_
           refine wq_region_lit (.inl rfl) ?_
           refine r_t hst trivial rfl (x_move hst rfl) ?_; intro a hst
           refine r_t hst trivial rfl (x_move hst rfl) ?_; intro a hst
           refine r_t hst trivial rfl (x_move hst rfl) ?_; intro a hst
           obtain ⟨r193, hr193, H⟩ := Option.bind_eq_some_iff.1 H
           refine r_callD hst trivial rfl fn_73 rfl (slices_choosePivotOrdered_int.calls _ _ _ _ (Same.refl _ _) _ (hsh.row 0 rfl) i_29 i_30 r193 hr193) ?_
           rintro e w194 ⟨rfl, hc⟩
           replace hsh := hsh.call0 hc
           clear hc
           refine ⟨_, rfl, fun a hst => ?_⟩
           refine r_t hst trivial rfl (x_move hst rfl) ?_; intro a hst
           refine r_t hst trivial rfl (x_extract hst rfl rfl) ?_; intro a hst
           refine r_t hst trivial rfl (x_extract hst rfl rfl) ?_; intro a hst
           refine r_t hst trivial rfl (x_assign hst rfl) ?_; intro a hst
           refine r_t hst trivial rfl (x_assign hst rfl) ?_; intro a hst
           refine wpL_nil ?_
           refine then_normal ?_
           obtain ⟨J_69, hJ_69, H⟩ := Jn.elim H
           refine wq_cut (fun a w' => ∃ (l_65 : (List Int)), ∃ (i_66 : Int), ∃ (i_67 : Int), J_69 l_65 i_66 i_67 = some r ∧ ST [] Try.f65.ntmps a [(0, va0), (1, .int .i64 i_29), (2, .int .i64 i_30), (3, .int .i64 i_62), (8, .bool b_32), (9, .bool b_33), (10, .int .i64 (w64 (i_30 - i_29))), (11, .int .i64 i_66), (12, .int .i64 i_67)] ∧ SH GG w w' [Row (Kd.int .i64) 3 va0 l_65]) ?_ ?_
           · rintro a W_68 ⟨l_65, i_66, i_67, H, hst, hsh⟩
             subst hJ_69
             dsimp only at H
             obtain ⟨J_72, hJ_72, H⟩ := Jn.elim H
             refine wq_cut (fun a w' => ∃ (l_70 : (List Int)), J_72 l_70 = some r ∧ ST [] Try.f65.ntmps a [(0, va0), (1, .int .i64 i_29), (2, .int .i64 i_30), (3, .int .i64 i_62), (8, .bool b_32), (9, .bool b_33), (10, .int .i64 (w64 (i_30 - i_29))), (11, .int .i64 i_66)] ∧ SH GG w w' [Row (Kd.int .i64) 3 va0 l_70]) ?_ ?_
             · rintro a W_71 ⟨l_70, H, hst, hsh⟩
               subst hJ_72
               dsimp only at H
               refine wq_seq ?_
               refine wq_seq ?_
               refine wq_region_q (.inl rfl) (fun w' => SH GG w w' [Row (Kd.int .i64) 3 va0 l_70]) (shut_sh _ _ _) hsh.drew fo (by kernel_rfl) ?_
               refine q_t hst trivial rfl (fun _ hsh => x_move hst rfl) ?_; intro a hst
               refine q_t hst trivial rfl (fun _ hsh => x_cmpI (b := decide (0 < i_29)) hst rfl rfl rfl) ?_; intro a hst
               refine q_t hst trivial rfl (fun _ hsh => x_move hst rfl) ?_; intro a hst
               obtain ⟨J_77, hJ_77, H⟩ := Jn.elim H
               refine q_join 15 (fun a => ∃ (b_76 : Bool), J_77 b_76 = some r ∧ ST [] Try.f65.ntmps a [(0, va0), (1, .int .i64 i_29), (2, .int .i64 i_30), (3, .int .i64 i_62), (8, .bool b_32), (9, .bool b_33), (10, .int .i64 (w64 (i_30 - i_29))), (11, .int .i64 i_66), (87, .bool b_76)]) ?_ ?_
               · rintro a ⟨b_76, H, hst⟩
                 subst hJ_77
                 dsimp only at H
                 refine q_nil ?_
                 intro w225 hsh
                 refine then_normal ?_
                 by_cases c226 : b_76 = true
                 · rw [if_pos c226] at H
                   refine wq_condT hst rfl c226 ?_
                   refine wq_seq ?_
                   refine wq_region_lit (.inl rfl) ?_
                   refine r_t hst trivial rfl (x_move hst rfl) ?_; intro a hst
                   refine r_t hst trivial rfl (x_move hst rfl) ?_; intro a hst
                   refine r_t hst trivial rfl (x_move hst rfl) ?_; intro a hst
                   refine r_t hst trivial rfl (x_move hst rfl) ?_; intro a hst
                   replace hsh := hsh.pick [0]
                   obtain ⟨GG229, hsp, hG, hbx, hfx, hk⟩ := SH.callD (L1 := [Row (Kd.int .i64) 3 va0 l_70]) (L2 := []) hsh
                   obtain ⟨r227, hr227, H⟩ := Option.bind_eq_some_iff.1 H
                   refine r_callD hst trivial rfl fn_77 rfl (slices_partitionEqualOrdered_int.calls k_60 _ GG229 _ l_70 i_29 i_30 i_66 hsp r227 hr227) ?_
                   rintro e w228 ⟨rfl, hc⟩
                   replace hsh := hk _ _ hc
                   clear hc
                   refine ⟨_, rfl, fun a hst => ?_⟩
                   refine r_t hst trivial rfl (x_assign hst rfl) ?_; intro a hst
                   refine wpL_nil ?_
                   refine then_normal ?_
                   refine wq_seq ?_
                   refine wq_region_lit (.inl rfl) ?_
                   refine r_t hst trivial rfl (x_move hst rfl) ?_; intro a hst
                   refine r_t hst trivial rfl (x_assign hst rfl) ?_; intro a hst
                   refine wpL_nil ?_
                   refine then_normal ?_
                   refine wq_exit ?_
                   refine then_exit ?_
                   refine block_hit ?_
                   refine then_normal ?_
                   exact ⟨k_60, Nat.lt_succ_self _, r227.2, r227.1, i_30, i_62, b_32, b_33, H, hst.keep _ ⟨rfl, rfl, rfl, rfl, rfl, rfl, trivial⟩, hsh.pick [0]⟩
                 · rw [if_neg c226] at H
                   replace c226 := Bool.eq_false_iff.2 c226
                   refine wq_condF hst rfl c226 ?_
                   refine wq_skip ?_
                   refine then_normal ?_
                   refine wq_seq ?_
                   refine wq_region_lit (.inl rfl) ?_
                   refine r_t hst trivial rfl (x_move hst rfl) ?_; intro a hst
                   refine r_t hst trivial rfl (x_move hst rfl) ?_; intro a hst
                   refine r_t hst trivial rfl (x_move hst rfl) ?_; intro a hst
                   refine r_t hst trivial rfl (x_move hst rfl) ?_; intro a hst
                   replace hsh := hsh.pick [0]
                   obtain ⟨GG232, hsp, hG, hbx, hfx, hk⟩ := SH.callD (L1 := [Row (Kd.int .i64) 3 va0 l_70]) (L2 := []) hsh
                   obtain ⟨r230, hr230, H⟩ := Option.bind_eq_some_iff.1 H
                   refine r_callD hst trivial rfl fn_78 rfl (slices_partitionOrdered_int.calls k_60 _ GG232 _ l_70 i_29 i_30 i_66 hsp r230 hr230) ?_
                   rintro e w231 ⟨rfl, hc⟩
                   replace hsh := hk _ _ hc
                   clear hc
                   refine ⟨_, rfl, fun a hst => ?_⟩
                   refine r_t hst trivial rfl (x_move hst rfl) ?_; intro a hst
                   refine r_t hst trivial rfl (x_extract hst rfl rfl) ?_; intro a hst
                   refine r_t hst trivial rfl (x_extract hst rfl rfl) ?_; intro a hst
                   refine r_t hst trivial rfl (x_assign hst rfl) ?_; intro a hst
                   refine r_t hst trivial rfl (x_assign hst rfl) ?_; intro a hst
                   refine wpL_nil ?_
                   refine then_normal ?_
                   refine wq_seq ?_
                   refine wq_region_lit (.inl rfl) ?_
                   refine r_t hst trivial rfl (x_move hst rfl) ?_; intro a hst
                   refine r_t hst trivial rfl (x_assign hst rfl) ?_; intro a hst
                   refine wpL_nil ?_
                   refine then_normal ?_
                   refine wq_seq ?_
                   refine wq_region_lit (.inl rfl) ?_
                   refine r_t hst trivial rfl (x_move hst rfl) ?_; intro a hst
                   refine r_t hst trivial rfl (x_move hst rfl) ?_; intro a hst
                   refine r_t hst trivial rfl (x_arI (r := w64 (r230.1 - i_29)) hst rfl rfl rfl) ?_; intro a hst
                   refine r_t hst trivial rfl (x_move hst rfl) ?_; intro a hst
                   refine r_t hst trivial rfl (x_move hst rfl) ?_; intro a hst
                   refine r_t hst trivial rfl (x_arI (r := w64 (i_30 - r230.1)) hst rfl rfl rfl) ?_; intro a hst
                   refine r_t hst trivial rfl (x_assign hst rfl) ?_; intro a hst
                   refine r_t hst trivial rfl (x_assign hst rfl) ?_; intro a hst
                   refine wpL_nil ?_
                   refine then_normal ?_
                   refine wq_seq ?_
                   refine wq_region_lit (.inl rfl) ?_
                   refine r_t hst trivial rfl (x_move hst rfl) ?_; intro a hst
                   refine r_t hst trivial rfl (x_quo hst rfl rfl (by decide)) ?_; intro a hst
                   refine r_t hst trivial rfl (x_assign hst rfl) ?_; intro a hst
                   refine wpL_nil ?_
                   refine then_normal ?_
                   refine wq_seq ?_
                   refine wq_region_lit (.inl rfl) ?_
                   refine r_t hst trivial rfl (x_move hst rfl) ?_; intro a hst
                   refine r_t hst trivial rfl (x_move hst rfl) ?_; intro a hst
                   refine r_t hst trivial rfl (x_cmpI (b := decide ((w64 (r230.1 - i_29)) < (w64 (i_30 - r230.1)))) hst rfl rfl rfl) ?_; intro a hst
                   refine wpL_nil ?_
                   refine then_normal ?_
                   by_cases c233 : (decide ((w64 (r230.1 - i_29)) < (w64 (i_30 - r230.1)))) = true
                   · rw [if_pos c233] at H
                     refine wq_condT hst rfl c233 ?_
                     refine wq_seq ?_
                     refine wq_region_lit (.inl rfl) ?_
                     refine r_t hst trivial rfl (x_move hst rfl) ?_; intro a hst
                     refine r_t hst trivial rfl (x_move hst rfl) ?_; intro a hst
                     refine r_t hst trivial rfl (x_cmpI (b := decide ((w64 (Int.tdiv (w64 (i_30 - i_29)) 8)) ≤ (w64 (r230.1 - i_29)))) hst rfl rfl rfl) ?_; intro a hst
                     refine r_t hst trivial rfl (x_assign hst rfl) ?_; intro a hst
                     refine wpL_nil ?_
                     refine then_normal ?_
                     refine wq_seq ?_
                     refine wq_region_lit (.inl rfl) ?_
                     refine r_t hst trivial rfl (x_move hst rfl) ?_; intro a hst
                     refine r_t hst trivial rfl (x_move hst rfl) ?_; intro a hst
                     refine r_t hst trivial rfl (x_move hst rfl) ?_; intro a hst
                     refine r_t hst trivial rfl (x_move hst rfl) ?_; intro a hst
                     replace hsh := hsh.pick [0]
                     obtain ⟨GG236, hsp, hG, hbx, hfx, hk⟩ := SH.callD (L1 := [Row (Kd.int .i64) 3 va0 r230.2.2]) (L2 := []) hsh
                     obtain ⟨r234, hr234, H⟩ := Option.bind_eq_some_iff.1 H
                     refine r_callD hst trivial rfl fn_65 rfl (ih _ GG236 _ r230.2.2 i_29 r230.1 i_62 hsp r234 hr234) ?_
                     rintro e w235 ⟨rfl, hc⟩
                     replace hsh := hk _ _ hc
                     clear hc
                     refine ⟨_, rfl, fun a hst => ?_⟩
                     refine wpL_nil ?_
                     refine then_normal ?_
                     refine wq_region_lit (.inl rfl) ?_
                     refine r_t hst trivial rfl (x_move hst rfl) ?_; intro a hst
                     refine r_t hst trivial rfl (x_arI (r := w64 (r230.1 + 1)) hst rfl rfl rfl) ?_; intro a hst
                     refine r_t hst trivial rfl (x_assign hst rfl) ?_; intro a hst
                     refine wpL_nil ?_
                     refine block_normal ?_
                     refine then_normal ?_
                     exact ⟨k_60, Nat.lt_succ_self _, r234, (w64 (r230.1 + 1)), i_30, i_62, (decide ((w64 (Int.tdiv (w64 (i_30 - i_29)) 8)) ≤ (w64 (r230.1 - i_29)))), r230.2.1, H, hst.keep _ ⟨rfl, rfl, rfl, rfl, rfl, rfl, trivial⟩, hsh.pick [0]⟩
                   · rw [if_neg c233] at H
                     replace c233 := Bool.eq_false_iff.2 c233
                     refine wq_condF hst rfl c233 ?_
                     refine wq_seq ?_
                     refine wq_region_lit (.inl rfl) ?_
                     refine r_t hst trivial rfl (x_move hst rfl) ?_; intro a hst
                     refine r_t hst trivial rfl (x_move hst rfl) ?_; intro a hst
                     refine r_t hst trivial rfl (x_cmpI (b := decide ((w64 (Int.tdiv (w64 (i_30 - i_29)) 8)) ≤ (w64 (i_30 - r230.1)))) hst rfl rfl rfl) ?_; intro a hst
                     refine r_t hst trivial rfl (x_assign hst rfl) ?_; intro a hst
                     refine wpL_nil ?_
                     refine then_normal ?_
                     refine wq_seq ?_
                     refine wq_region_lit (.inl rfl) ?_
                     refine r_t hst trivial rfl (x_move hst rfl) ?_; intro a hst
                     refine r_t hst trivial rfl (x_move hst rfl) ?_; intro a hst
                     refine r_t hst trivial rfl (x_arI (r := w64 (r230.1 + 1)) hst rfl rfl rfl) ?_; intro a hst
                     refine r_t hst trivial rfl (x_move hst rfl) ?_; intro a hst
                     refine r_t hst trivial rfl (x_move hst rfl) ?_; intro a hst
                     replace hsh := hsh.pick [0]
                     obtain ⟨GG239, hsp, hG, hbx, hfx, hk⟩ := SH.callD (L1 := [Row (Kd.int .i64) 3 va0 r230.2.2]) (L2 := []) hsh
                     obtain ⟨r237, hr237, H⟩ := Option.bind_eq_some_iff.1 H
                     refine r_callD hst trivial rfl fn_65 rfl (ih _ GG239 _ r230.2.2 (w64 (r230.1 + 1)) i_30 i_62 hsp r237 hr237) ?_
                     rintro e w238 ⟨rfl, hc⟩
                     replace hsh := hk _ _ hc
                     clear hc
                     refine ⟨_, rfl, fun a hst => ?_⟩
                     refine wpL_nil ?_
                     refine then_normal ?_
                     refine wq_region_lit (.inl rfl) ?_
                     refine r_t hst trivial rfl (x_move hst rfl) ?_; intro a hst
                     refine r_t hst trivial rfl (x_assign hst rfl) ?_; intro a hst
                     refine wpL_nil ?_
                     refine block_normal ?_
                     refine then_normal ?_
                     exact ⟨k_60, Nat.lt_succ_self _, r237, i_29, r230.1, i_62, (decide ((w64 (Int.tdiv (w64 (i_30 - i_29)) 8)) ≤ (w64 (i_30 - r230.1)))), r230.2.1, H, hst.keep _ ⟨rfl, rfl, rfl, rfl, rfl, rfl, trivial⟩, hsh.pick [0]⟩
               · intro hj
                 by_cases c220 : (decide (0 < i_29)) = true
                 · rw [if_pos c220] at H
                   refine q_t hst (wt_of 75 rfl rfl c220) rfl (fun _ hsh => x_move hst rfl) ?_; intro a hst
                   refine q_t hst (wt_of 75 rfl rfl c220) rfl (fun _ hsh => x_move hst rfl) ?_; intro a hst
                   refine q_t hst (wt_of 75 rfl rfl c220) rfl (fun _ hsh => x_arI (r := w64 (i_29 - 1)) hst rfl rfl rfl) ?_; intro a hst
                   obtain ⟨x240, hx240, H⟩ := Option.bind_eq_some_iff.1 H
                   refine q_t hst (wt_of 75 rfl rfl c220) rfl (fun _ hsh => x_indexAddr hst Try.underlying56 el_3 rfl rfl (hsh.row 0 rfl) hx240) ?_; intro a hst
                   refine q_t hst (wt_of 75 rfl rfl c220) rfl (fun _ hsh => x_loadEF (j := 0) (cs := [.int .i64 x240]) hst sc_3 rfl (hsh.row 0 rfl) (Same.refl _ _) hx240 rfl (fun _ h => h) rfl) ?_; intro a hst
                   refine q_t hst (wt_of 75 rfl rfl c220) rfl (fun _ hsh => x_move hst rfl) ?_; intro a hst
                   refine q_t hst (wt_of 75 rfl rfl c220) rfl (fun _ hsh => x_move hst rfl) ?_; intro a hst
                   obtain ⟨x241, hx241, H⟩ := Option.bind_eq_some_iff.1 H
                   refine q_t hst (wt_of 75 rfl rfl c220) rfl (fun _ hsh => x_indexAddr hst Try.underlying56 el_3 rfl rfl (hsh.row 0 rfl) hx241) ?_; intro a hst
                   refine q_t hst (wt_of 75 rfl rfl c220) rfl (fun _ hsh => x_loadEF (j := 0) (cs := [.int .i64 x241]) hst sc_3 rfl (hsh.row 0 rfl) (Same.refl _ _) hx241 rfl (fun _ h => h) rfl) ?_; intro a hst
                   obtain ⟨r242, hr242, H⟩ := Option.bind_eq_some_iff.1 H
                   refine q_call hst (wt_of 75 rfl rfl c220) rfl fn_76 rfl (fun w9 hsh => cmp_Less_int.calls _ x240 x241 r242 hr242) ?_; intro a hst
                   refine q_t hst (wt_of 75 rfl rfl c220) rfl (fun _ hsh => x_notB hst rfl) ?_; intro a hst
                   refine q_t hst trivial rfl (fun _ hsh => x_pickT hst rfl c220 rfl) ?_; intro a hst
                   exact hj _ ⟨(!r242), H, hst.keep _ ⟨rfl, rfl, rfl, rfl, rfl, rfl, rfl, rfl, rfl, trivial⟩⟩
                 · rw [if_neg c220] at H
                   replace c220 := Bool.eq_false_iff.2 c220
                   refine q_not hst 75 rfl rfl c220 rfl ?_; intro a hst
                   refine q_not hst 75 rfl rfl c220 rfl ?_; intro a hst
                   refine q_not hst 75 rfl rfl c220 rfl ?_; intro a hst
                   refine q_not hst 75 rfl rfl c220 rfl ?_; intro a hst
                   refine q_not hst 75 rfl rfl c220 rfl ?_; intro a hst
                   refine q_not hst 75 rfl rfl c220 rfl ?_; intro a hst
                   refine q_not hst 75 rfl rfl c220 rfl ?_; intro a hst
                   refine q_not hst 75 rfl rfl c220 rfl ?_; intro a hst
                   refine q_not hst 75 rfl rfl c220 rfl ?_; intro a hst
                   refine q_not hst 75 rfl rfl c220 rfl ?_; intro a hst
                   refine q_not hst 75 rfl rfl c220 rfl ?_; intro a hst
                   refine q_t hst trivial rfl (fun _ hsh => x_pickF hst rfl c220 rfl) ?_; intro a hst
                   exact hj _ ⟨false, H, hst.keep _ ⟨rfl, rfl, rfl, rfl, rfl, rfl, rfl, rfl, rfl, trivial⟩⟩
             · refine wq_seq ?_
               refine wq_region_lit (.inl rfl) ?_
               refine r_t hst trivial rfl (x_move hst rfl) ?_; intro a hst
               refine r_t hst trivial rfl (x_move hst rfl) ?_; intro a hst
               refine wl_join0 (Δ := []) (N := Try.f65.ntmps) 4 [(0, va0), (1, .int .i64 i_29), (2, .int .i64 i_30), (3, .int .i64 i_62), (8, .bool b_32), (9, .bool b_33), (10, .int .i64 (w64 (i_30 - i_29))), (11, .int .i64 i_66), (12, .int .i64 i_67), (64, .bool (b_32 && b_33))] ?_ ?_
               · intro a hst
                 refine r_t hst trivial rfl (x_move hst rfl) ?_; intro a hst
                 refine wl_join0 (Δ := []) (N := Try.f65.ntmps) 8 [(0, va0), (1, .int .i64 i_29), (2, .int .i64 i_30), (3, .int .i64 i_62), (8, .bool b_32), (9, .bool b_33), (10, .int .i64 (w64 (i_30 - i_29))), (11, .int .i64 i_66), (68, .bool ((b_32 && b_33) && (i_67 == 1)))] ?_ ?_
                 · intro a hst
                   refine wpL_nil ?_
                   refine then_normal ?_
                   by_cases c246 : ((b_32 && b_33) && (i_67 == 1)) = true
                   · rw [if_pos c246] at H
                     refine wq_condT hst rfl c246 ?_
                     refine wq_seq ?_
                     refine wq_region_lit (.inl rfl) ?_
                     refine r_t hst trivial rfl (x_move hst rfl) ?_; intro a hst
                     refine r_t hst trivial rfl (x_move hst rfl) ?_; intro a hst
                     refine r_t hst trivial rfl (x_move hst rfl) ?_; intro a hst
                     replace hsh := hsh.pick [0]
                     obtain ⟨GG249, hsp, hG, hbx, hfx, hk⟩ := SH.callD (L1 := [Row (Kd.int .i64) 3 va0 l_65]) (L2 := []) hsh
                     obtain ⟨r247, hr247, H⟩ := Option.bind_eq_some_iff.1 H
                     refine r_callD hst trivial rfl fn_75 rfl (slices_partialInsertionSortOrdered_int.calls k_60 _ GG249 _ l_65 i_29 i_30 hsp r247 hr247) ?_
                     rintro e w248 ⟨rfl, hc⟩
                     replace hsh := hk _ _ hc
                     clear hc
                     refine ⟨_, rfl, fun a hst => ?_⟩
                     refine wpL_nil ?_
                     refine then_normal ?_
                     by_cases c250 : r247.1 = true
                     · rw [if_pos c250] at H
                       refine wq_condT hst rfl c250 ?_
                       refine wq_ret ?_
                       refine then_ret ?_
                       refine block_ret ?_
                       refine then_ret ?_
                       refine block_ret ?_
                       obtain rfl := Option.some.inj H
                       exact ret0 hst rfl ⟨rfl, hsh.pick [0]⟩
                     · rw [if_neg c250] at H
                       replace c250 := Bool.eq_false_iff.2 c250
                       refine wq_condF hst rfl c250 ?_
                       refine wq_skip ?_
                       refine then_normal ?_
                       exact ⟨r247.2, H, hst.keep _ ⟨rfl, rfl, rfl, rfl, rfl, rfl, rfl, rfl, trivial⟩, hsh.pick [0]⟩
                   · rw [if_neg c246] at H
                     replace c246 := Bool.eq_false_iff.2 c246
                     refine wq_condF hst rfl c246 ?_
                     refine wq_skip ?_
                     refine then_normal ?_
                     exact ⟨l_65, H, hst.keep _ ⟨rfl, rfl, rfl, rfl, rfl, rfl, rfl, rfl, trivial⟩, hsh.pick [0]⟩
                 · intro hj
                   by_cases c245 : (b_32 && b_33) = true
                   · refine r_t hst (wt_of 65 rfl rfl c245) rfl (x_move hst rfl) ?_; intro a hst
                     refine r_t hst (wt_of 65 rfl rfl c245) rfl (x_cmpI (b := (i_67 == 1)) hst rfl rfl rfl) ?_; intro a hst
                     refine r_t hst trivial rfl (x_andT hst rfl c245 rfl) ?_; intro a hst
                     exact hj _ (hst.keep _ ⟨rfl, rfl, rfl, rfl, rfl, rfl, rfl, rfl, rfl, trivial⟩)
                   · replace c245 := Bool.eq_false_iff.2 c245
                     refine r_not hst 65 rfl rfl c245 rfl ?_; intro a hst
                     refine r_not hst 65 rfl rfl c245 rfl ?_; intro a hst
                     refine r_t hst trivial rfl (x_andF (i_67 == 1) hst rfl c245 rfl) ?_; intro a hst
                     exact hj _ (hst.keep _ ⟨rfl, rfl, rfl, rfl, rfl, rfl, rfl, rfl, rfl, trivial⟩)
               · intro hj
                 by_cases c244 : b_32 = true
                 · refine r_t hst (wt_of 62 rfl rfl c244) rfl (x_move hst rfl) ?_; intro a hst
                   refine r_t hst trivial rfl (x_andT hst rfl c244 rfl) ?_; intro a hst
                   exact hj _ (hst.keep _ ⟨rfl, rfl, rfl, rfl, rfl, rfl, rfl, rfl, rfl, rfl, trivial⟩)
                 · replace c244 := Bool.eq_false_iff.2 c244
                   refine r_not hst 62 rfl rfl c244 rfl ?_; intro a hst
                   refine r_t hst trivial rfl (x_andF b_33 hst rfl c244 rfl) ?_; intro a hst
                   exact hj _ (hst.keep _ ⟨rfl, rfl, rfl, rfl, rfl, rfl, rfl, rfl, rfl, rfl, trivial⟩)
           · refine wq_seq ?_
             refine wq_region_lit (.inl rfl) ?_
             refine r_t hst trivial rfl (x_move hst rfl) ?_; intro a hst
             refine r_t hst trivial rfl (x_cmpI (b := (r193.2 == 2)) hst rfl rfl rfl) ?_; intro a hst
             refine wpL_nil ?_
             refine then_normal ?_
             by_cases c251 : (r193.2 == 2) = true
             · rw [if_pos c251] at H
               refine wq_condT hst rfl c251 ?_
               refine wq_seq ?_
               refine wq_region_lit (.inl rfl) ?_
               refine r_t hst trivial rfl (x_move hst rfl) ?_; intro a hst
               refine r_t hst trivial rfl (x_move hst rfl) ?_; intro a hst
               refine r_t hst trivial rfl (x_move hst rfl) ?_; intro a hst
               replace hsh := hsh.pick [0]
               obtain ⟨GG254, hsp, hG, hbx, hfx, hk⟩ := SH.callD (L1 := [Row (Kd.int .i64) 3 va0 l_61]) (L2 := []) hsh
               obtain ⟨r252, hr252, H⟩ := Option.bind_eq_some_iff.1 H
               refine r_callD hst trivial rfl fn_74 rfl (slices_reverseRangeOrdered_int.calls k_60 _ GG254 _ l_61 i_29 i_30 hsp r252 hr252) ?_
               rintro e w253 ⟨rfl, hc⟩
               replace hsh := hk _ _ hc
               clear hc
               refine ⟨_, rfl, fun a hst => ?_⟩
               refine wpL_nil ?_
               refine then_normal ?_
               refine wq_seq ?_
               refine wq_region_lit (.inl rfl) ?_
               refine r_t hst trivial rfl (x_move hst rfl) ?_; intro a hst
               refine r_t hst trivial rfl (x_arI (r := w64 (i_30 - 1)) hst rfl rfl rfl) ?_; intro a hst
               refine r_t hst trivial rfl (x_move hst rfl) ?_; intro a hst
               refine r_t hst trivial rfl (x_move hst rfl) ?_; intro a hst
               refine r_t hst trivial rfl (x_arI (r := w64 (r193.1 - i_29)) hst rfl rfl rfl) ?_; intro a hst
               refine r_t hst trivial rfl (x_arI (r := w64 ((w64 (i_30 - 1)) - (w64 (r193.1 - i_29)))) hst rfl rfl rfl) ?_; intro a hst
               refine r_t hst trivial rfl (x_assign hst rfl) ?_; intro a hst
               refine wpL_nil ?_
               refine then_normal ?_
               refine wq_region_lit (.inl rfl) ?_
               refine r_t hst trivial rfl (x_assign hst rfl) ?_; intro a hst
               refine wpL_nil ?_
               refine then_normal ?_
               exact ⟨r252, (w64 ((w64 (i_30 - 1)) - (w64 (r193.1 - i_29)))), 1, H, hst.keep _ ⟨rfl, rfl, rfl, rfl, rfl, rfl, rfl, rfl, rfl, trivial⟩, hsh.pick [0]⟩
             · rw [if_neg c251] at H
               replace c251 := Bool.eq_false_iff.2 c251
               refine wq_condF hst rfl c251 ?_
               refine wq_skip ?_
               refine then_normal ?_
               exact ⟨l_61, r193.1, r193.2, H, hst.keep _ ⟨rfl, rfl, rfl, rfl, rfl, rfl, rfl, rfl, rfl, trivial⟩, hsh.pick [0]⟩
         · refine wq_seq ?_
           refine wq_region_lit (.inl rfl) ?_
           refine r_t hst trivial rfl (x_move hst rfl) ?_; intro a hst
           refine r_t hst trivial rfl (x_notB hst rfl) ?_; intro a hst
           refine wpL_nil ?_
           refine then_normal ?_
           by_cases c255 : (!b_32) = true
           · rw [if_pos c255] at H
             refine wq_condT hst rfl c255 ?_
             refine wq_seq ?_
             refine wq_region_lit (.inl rfl) ?_
             refine r_t hst trivial rfl (x_move hst rfl) ?_; intro a hst
             refine r_t hst trivial rfl (x_move hst rfl) ?_; intro a hst
             refine r_t hst trivial rfl (x_move hst rfl) ?_; intro a hst
             replace hsh := hsh.pick [0]
             obtain ⟨GG258, hsp, hG, hbx, hfx, hk⟩ := SH.callD (L1 := [Row (Kd.int .i64) 3 va0 l_28]) (L2 := []) hsh
             obtain ⟨r256, hr256, H⟩ := Option.bind_eq_some_iff.1 H
             refine r_callD hst trivial rfl fn_72 rfl (slices_breakPatternsOrdered_int.calls k_60 _ GG258 _ l_28 i_29 i_30 hsp r256 hr256) ?_
             rintro e w257 ⟨rfl, hc⟩
             replace hsh := hk _ _ hc
             clear hc
             refine ⟨_, rfl, fun a hst => ?_⟩
             refine wpL_nil ?_
             refine then_normal ?_
             refine wq_region_lit (.inl rfl) ?_
             refine r_t hst trivial rfl (x_move hst rfl) ?_; intro a hst
             refine r_t hst trivial rfl (x_arI (r := w64 (i_31 - 1)) hst rfl rfl rfl) ?_; intro a hst
             refine r_t hst trivial rfl (x_assign hst rfl) ?_; intro a hst
             refine wpL_nil ?_
             refine then_normal ?_
             exact ⟨r256, (w64 (i_31 - 1)), H, hst.keep _ ⟨rfl, rfl, rfl, rfl, rfl, rfl, rfl, trivial⟩, hsh.pick [0]⟩
           · rw [if_neg c255] at H
             replace c255 := Bool.eq_false_iff.2 c255
             refine wq_condF hst rfl c255 ?_
             refine wq_skip ?_
             refine then_normal ?_
             exact ⟨l_28, i_31, H, hst.keep _ ⟨rfl, rfl, rfl, rfl, rfl, rfl, rfl, trivial⟩, hsh.pick [0]⟩

set_option maxHeartbeats 4000000 in
set_option maxRecDepth 100000 in
theorem slices_Sort_int.calls (k : Nat) (w : World) (GG : Nat → Prop) (va0 : Value) (a0 : (List Int)) (hsep : Sep GG w [Row (Kd.int .i64) 3 va0 a0]) (r : (List Int)) (h : slices_Sort_int k a0 = some r) :
    Calls Try.prog 54 ([va0] : List Value).toArray w fun e w' => e = .returned (.tuple #[]) ∧ SH GG w w' [Row (Kd.int .i64) 3 va0 r] := by
 have H := h
 clear h
 unfold slices_Sort_int at H
 refine calls_enter Try.func54 rfl rfl ?_
 intro a hst
 have hsh := SH.start hsep
 refine wq_seq ?_
 refine wq_region_lit (.inl rfl) ?_
 refine r_t hst trivial rfl (x_move hst rfl) ?_; intro a hst
 refine r_t hst trivial rfl (x_lenSl hst Try.underlying56 rfl (hsh.row 0 rfl).slen) ?_; intro a hst
 refine r_t hst trivial rfl (x_assign hst rfl) ?_; intro a hst
 refine wpL_nil ?_
 refine then_normal ?_
 refine wq_region_lit (.inl rfl) ?_
 refine r_t hst trivial rfl (x_move hst rfl) ?_; intro a hst
 refine r_t hst trivial rfl (x_move hst rfl) ?_; intro a hst
 refine r_t hst trivial rfl (x_move hst rfl) ?_; intro a hst
 refine r_t hst trivial rfl (x_convI hst Try.underlying3 Try.underlying88 rfl) ?_; intro a hst
 obtain ⟨r1, hr1, H⟩ := Option.bind_eq_some_iff.1 H
 refine r_callD hst trivial rfl fn_66 rfl (math_bits_Len.calls _ (wu64 (a0.length : Int)) r1 hr1) ?_
 rintro e w2 ⟨rfl, hc⟩
 replace hsh := hsh.call0 hc
 clear hc
 refine ⟨_, rfl, fun a hst => ?_⟩
 replace hsh := hsh.pick [0]
 obtain ⟨GG5, hsp, hG, hbx, hfx, hk⟩ := SH.callD (L1 := [Row (Kd.int .i64) 3 va0 a0]) (L2 := []) hsh
 obtain ⟨r3, hr3, H⟩ := Option.bind_eq_some_iff.1 H
 refine r_callD hst trivial rfl fn_65 rfl (slices_pdqsortOrdered_int.calls k _ GG5 _ a0 0 (a0.length : Int) r1 hsp r3 hr3) ?_
 rintro e w4 ⟨rfl, hc⟩
 replace hsh := hk _ _ hc
 clear hc
 refine ⟨_, rfl, fun a hst => ?_⟩
 refine wpL_nil ?_
 obtain rfl := Option.some.inj H
 exact end0 hst rfl ⟨rfl, hsh.pick [0]⟩

set_option maxHeartbeats 4000000 in
set_option maxRecDepth 100000 in
theorem version_Numbers.calls (k : Nat) (w : World) (va0 : Value) (Za0 : Nat → Prop) (wra0 : World) (hsa0 : Same Za0 wra0 w) (a0 : (List (List File))) (hra0 : RD (Kd.slice 43 k_File) Za0 wra0 va0 a0) (r : (List Int)) (h : version_Numbers k a0 = some r) :
    Calls Try.prog 27 ([va0] : List Value).toArray w fun e w' => ∃ v0_ : Value, e = .returned (v0_) ∧ SH (fun _ => False) w w' [Row (Kd.int .i64) 3 v0_ r] := by
 have H := h
 clear h
 unfold version_Numbers at H
 refine calls_enter Try.func27 rfl rfl ?_
 intro a hst
 have hsh := SH.zero (fun _ => False) w
 refine wq_seq ?_
 refine wq_region_lit (.inl rfl) ?_
 refine r_t hst trivial rfl (x_assign hst rfl) ?_; intro a hst
 refine wpL_nil ?_
 refine then_normal ?_
 refine wq_seq ?_
 refine wq_seq ?_
 refine wq_region_lit (.inl rfl) ?_
 refine r_t hst trivial rfl (x_move hst rfl) ?_; intro a hst
 obtain ⟨r4, hr4, H⟩ := Option.bind_eq_some_iff.1 H
 refine r_callD hst trivial rfl fn_12 rfl (version_Valid.calls k _ _ _ _ (Same.sh0 hsa0 hsh) _ hra0 r4 hr4) ?_
 rintro e w5 ⟨rfl, hc⟩
 replace hsh := hsh.call0 hc
 clear hc
 refine ⟨_, rfl, fun a hst => ?_⟩
 refine r_t hst trivial rfl (x_notB hst rfl) ?_; intro a hst
 refine wpL_nil ?_
 refine then_normal ?_
 by_cases c6 : (!r4) = true
 · rw [if_pos c6] at H
   refine wq_condT hst rfl c6 ?_
   refine wq_seq ?_
   refine wq_region_lit (.inl rfl) ?_
   refine r_t hst trivial rfl (x_assign hst rfl) ?_; intro a hst
   refine wpL_nil ?_
   refine then_normal ?_
   refine wq_ret ?_
   refine then_ret ?_
   obtain rfl := Option.some.inj H
   have hsh := hsh.addNil (Kd.int .i64) 3
   exact ret1 hst rfl rfl ⟨(.slice none 0 0), rfl, hsh.pick [0]⟩
 · rw [if_neg c6] at H
   replace c6 := Bool.eq_false_iff.2 c6
   refine wq_condF hst rfl c6 ?_
   refine wq_skip ?_
   refine then_normal ?_
   refine wq_seq ?_
   refine wq_region_lit (.inl rfl) ?_
   refine r_t hst trivial rfl (x_assign hst rfl) ?_; intro a hst
   refine wpL_nil ?_
   refine then_normal ?_
   refine wq_seq ?_
   refine wq_seq ?_
   refine wq_region_lit (.inl rfl) ?_
   refine r_t hst trivial rfl (x_move hst rfl) ?_; intro a hst
   refine r_t hst trivial rfl (x_lenSl hst Try.underlying23 rfl hra0.slen) ?_; intro a hst
   refine r_t hst trivial rfl (x_move hst rfl) ?_; intro a hst
   refine wpL_nil ?_
   refine then_normal ?_
   refine wq_block ?_
   have hsh := hsh.addNil (Kd.int .i64) 3
   refine wq_loop_fuel (fun k_208 a w' => ∃ (v_167 : Value), ∃ (l_168 : (List Int)), ∃ (i_169 : Int), version_Numbers.l0 a0 k_208 l_168 i_169 = some r ∧ ST [] Try.f27.ntmps a [(2, (.slice none 0 0)), (3, v_167), (11, va0), (12, .int .i64 (a0.length : Int)), (13, .int .i64 i_169)] ∧ SH (fun _ => False) w w' [Row (Kd.int .i64) 3 v_167 l_168]) k ?_ ?_
   · exact ⟨(.slice none 0 0), ([]), 0, H, hst.keep _ ⟨rfl, rfl, rfl, rfl, rfl, trivial⟩, hsh.pick [0]⟩
   · rintro k_208 a W_170 ⟨v_167, l_168, i_169, H, hst, hsh⟩
     cases k_208 with
     | zero => rw [version_Numbers.l0] at H; cases H
     | succ k_208 =>
      rw [version_Numbers.l0] at H
      refine wq_seq ?_
      refine wq_region_lit (.inl rfl) ?_
      refine r_t hst trivial rfl (x_cmpI (b := decide (i_169 < (a0.length : Int))) hst rfl rfl rfl) ?_; intro a hst
      refine wpL_nil ?_
      refine then_normal ?_
      refine wq_seq ?_
      by_cases c682 : (decide (i_169 < (a0.length : Int))) = true
      · rw [if_pos c682] at H
        refine wq_condT hst rfl c682 ?_
        refine wq_skip ?_
        refine then_normal ?_
        obtain ⟨J_226, hJ_226, H⟩ := Jn.elim H
        refine wq_cut (fun a w' => ∃ (v_223 : Value), ∃ (l_224 : (List Int)), J_226 l_224 = some r ∧ ST [] Try.f27.ntmps a [(2, (.slice none 0 0)), (3, v_223), (11, va0), (12, .int .i64 (a0.length : Int)), (13, .int .i64 i_169)] ∧ SH (fun _ => False) w w' [Row (Kd.int .i64) 3 v_223 l_224]) ?_ ?_
        · rintro a W_225 ⟨v_223, l_224, H, hst, hsh⟩
          subst hJ_226
          dsimp only at H
          refine wq_region_lit (.inl rfl) ?_
          refine r_t hst trivial rfl (x_arI (r := w64 (i_169 + 1)) hst rfl rfl rfl) ?_; intro a hst
          refine r_t hst trivial rfl (x_move hst rfl) ?_; intro a hst
          refine wpL_nil ?_
          refine then_normal ?_
          exact ⟨k_208, Nat.lt_succ_self _, v_223, l_224, (w64 (i_169 + 1)), H, hst.keep _ ⟨rfl, rfl, rfl, rfl, rfl, trivial⟩, hsh.pick [0]⟩
        · refine wq_block ?_
          refine wq_seq ?_
          refine wq_region_lit (.inl rfl) ?_
          obtain ⟨x748, hx748, H⟩ := Option.bind_eq_some_iff.1 H
          refine r_t hst trivial rfl (x_indexAddr hst Try.underlying23 el_39 rfl rfl hra0 hx748) ?_; intro a hst
          obtain ⟨_, hk749, hc750⟩ := RD.cells2 hra0 hx748
          obtain ⟨v751, rfl, hr752⟩ := hk749
          refine r_t hst trivial rfl (x_loadC hst sc_39 rfl (hc750 _ (Same.sh0 hsa0 hsh) 0 _ rfl)) ?_; intro a hst
          refine r_t hst trivial rfl (x_assign hst rfl) ?_; intro a hst
          refine wpL_nil ?_
          refine then_normal ?_
          refine wq_seq ?_
          refine wq_region_lit (.inl rfl) ?_
          refine r_t hst trivial rfl (x_move hst rfl) ?_; intro a hst
          refine r_t hst trivial rfl (x_lenSl hst Try.underlying39 rfl hr752.slen) ?_; intro a hst
          refine r_t hst trivial rfl (x_move hst rfl) ?_; intro a hst
          refine wpL_nil ?_
          refine then_normal ?_
          refine wq_block ?_
          refine wq_loop_fuel (fun k_240 a w' => ∃ (v_232 : Value), ∃ (l_233 : (List Int)), ∃ (i_234 : Int), version_Numbers.l1 J_226 x748 k_240 l_233 i_234 = some r ∧ ST [] Try.f27.ntmps a [(2, (.slice none 0 0)), (3, v_232), (11, va0), (12, .int .i64 (a0.length : Int)), (13, .int .i64 i_169), (17, v751), (18, .int .i64 (x748.length : Int)), (19, .int .i64 i_234)] ∧ SH (fun _ => False) w w' [Row (Kd.int .i64) 3 v_232 l_233]) k_208 ?_ ?_
          · exact ⟨v_167, l_168, 0, H, hst.keep _ ⟨rfl, rfl, rfl, rfl, rfl, rfl, rfl, rfl, trivial⟩, hsh.pick [0]⟩
          · rintro k_240 a W_235 ⟨v_232, l_233, i_234, H, hst, hsh⟩
            cases k_240 with
            | zero => rw [version_Numbers.l1] at H; cases H
            | succ k_240 =>
             rw [version_Numbers.l1] at H
             refine wq_seq ?_
             refine wq_region_lit (.inl rfl) ?_
             refine r_t hst trivial rfl (x_cmpI (b := decide (i_234 < (x748.length : Int))) hst rfl rfl rfl) ?_; intro a hst
             refine wpL_nil ?_
             refine then_normal ?_
             refine wq_seq ?_
             by_cases c794 : (decide (i_234 < (x748.length : Int))) = true
             · rw [if_pos c794] at H
               refine wq_condT hst rfl c794 ?_
               refine wq_skip ?_
               refine then_normal ?_
               refine wq_seq ?_
               refine wq_block ?_
               refine wq_seq ?_
               refine wq_region_lit (.inl rfl) ?_
               obtain ⟨x804, hx804, H⟩ := Option.bind_eq_some_iff.1 H
               refine r_t hst trivial rfl (x_indexAddr hst Try.underlying39 el_43 rfl rfl hr752 hx804) ?_; intro a hst
               refine r_t hst trivial rfl (x_loadEsF (j := 0) (cs := [.int .i64 x804.Number, .int .i64 x804.Size, .string x804.Least, .string x804.Limit, .int .u64 x804.Low, .int .u64 x804.High]) (ps := [.int .i64 x804.Number, .int .i64 x804.Size, .string x804.Least, .string x804.Limit, .int .u64 x804.Low, .int .u64 x804.High]) hst ag_43 rfl hr752 (Same.sh0 hsa0 hsh) hx804 rfl (fun _ h => h) rfl) ?_; intro a hst
               refine r_alloc hst hsh trivial rfl zr_43 ?_
               intro g805 a w806 hgg805 hsh hst
               refine r_storeBs (i := 0) (cs' := [.int .i64 x804.Number, .int .i64 x804.Size, .string x804.Least, .string x804.Limit, .int .u64 x804.Low, .int .u64 x804.High]) (vs := [.int .i64 x804.Number, .int .i64 x804.Size, .string x804.Least, .string x804.Limit, .int .u64 x804.Low, .int .u64 x804.High]) hst hsh trivial ag_43 rfl rfl rfl rfl rfl rfl ?_; intro a w807 hsh hst
               refine wpL_nil ?_
               refine then_normal ?_
               refine wq_region_lit (.inl rfl) ?_
               refine r_t hst trivial rfl (x_move hst rfl) ?_; intro a hst
               refine r_t hst trivial rfl (x_fieldAddr (j' := 0) hst fa_43_0 rfl rfl) ?_; intro a hst
               refine r_t hst trivial rfl (x_loadB (i := 0) hst hsh sc_3 rfl rfl rfl) ?_; intro a hst
               refine r_buildSlice (vs := [.int .i64 x804.Number]) (cs := [.int .i64 x804.Number]) hst hsh trivial rfl Try.underlying56 el_3 rfl rfl (by simp [Value.cells]) rfl rfl ?_
               intro g808 a w809 hgg808 hsh hst
               replace hsh := hsh.pick [2, 0, 0]
               obtain ⟨l810, hl810, H⟩ := Option.bind_eq_some_iff.1 H
               refine r_append1 (xx := x804.Number) (C := []) (M := [Box g805 [.int .i64 x804.Number, .int .i64 x804.Size, .string x804.Least, .string x804.Limit, .int .u64 x804.Low, .int .u64 x804.High] 43]) hst hsh trivial rfl Try.underlying56 el_3 (by decide) (by decide) (by decide) rfl rfl (fun _ _ _ => rfl) hl810 ?_
               intro v811 a w812 hsh hst
               refine r_t hst trivial rfl (x_assign hst rfl) ?_; intro a hst
               refine wpL_nil ?_
               refine block_normal ?_
               refine then_normal ?_
               refine wq_region_lit (.inl rfl) ?_
               refine r_t hst trivial rfl (x_arI (r := w64 (i_234 + 1)) hst rfl rfl rfl) ?_; intro a hst
               refine r_t hst trivial rfl (x_move hst rfl) ?_; intro a hst
               refine wpL_nil ?_
               refine then_normal ?_
               exact ⟨k_240, Nat.lt_succ_self _, v811, l810, (w64 (i_234 + 1)), H, hst.keep _ ⟨rfl, rfl, rfl, rfl, rfl, rfl, rfl, rfl, trivial⟩, hsh.pick [0]⟩
             · rw [if_neg c794] at H
               replace c794 := Bool.eq_false_iff.2 c794
               refine wq_condF hst rfl c794 ?_
               refine wq_exit ?_
               refine then_exit ?_
               refine then_exit ?_
               refine block_hit ?_
               refine block_normal ?_
               refine then_normal ?_
               exact ⟨v_232, l_233, H, hst.keep _ ⟨rfl, rfl, rfl, rfl, rfl, trivial⟩, hsh.pick [0]⟩
      · rw [if_neg c682] at H
        replace c682 := Bool.eq_false_iff.2 c682
        refine wq_condF hst rfl c682 ?_
        refine wq_exit ?_
        refine then_exit ?_
        refine then_exit ?_
        refine block_hit ?_
        refine then_normal ?_
        refine wq_seq ?_
        refine wq_region_lit (.inl rfl) ?_
        refine r_t hst trivial rfl (x_move hst rfl) ?_; intro a hst
        replace hsh := hsh.pick [0]
        obtain ⟨GG815, hsp, hG, hbx, hfx, hk⟩ := SH.callD (L1 := [Row (Kd.int .i64) 3 v_167 l_168]) (L2 := []) hsh
        obtain ⟨r813, hr813, H⟩ := Option.bind_eq_some_iff.1 H
        refine r_callD hst trivial rfl fn_54 rfl (slices_Sort_int.calls k_208 _ GG815 _ l_168 hsp r813 hr813) ?_
        rintro e w814 ⟨rfl, hc⟩
        replace hsh := hk _ _ hc
        clear hc
        refine ⟨_, rfl, fun a hst => ?_⟩
        refine wpL_nil ?_
        refine then_normal ?_
        refine wq_seq ?_
        refine wq_region_lit (.inl rfl) ?_
        refine r_t hst trivial rfl (x_move hst rfl) ?_; intro a hst
        refine r_t hst trivial rfl (x_assign hst rfl) ?_; intro a hst
        refine wpL_nil ?_
        refine then_normal ?_
        refine wq_ret ?_
        obtain rfl := Option.some.inj H
        exact ret1 hst rfl rfl ⟨v_167, rfl, hsh.pick [0]⟩

set_option maxHeartbeats 4000000 in
set_option maxRecDepth 100000 in
theorem version_Files.calls (k : Nat) (w : World) (va0 : Value) (Za0 : Nat → Prop) (wra0 : World) (hsa0 : Same Za0 wra0 w) (a0 : (List (List File))) (hra0 : RD (Kd.slice 43 k_File) Za0 wra0 va0 a0) (r : Int) (h : version_Files k a0 = some r) :
    Calls Try.prog 31 ([va0] : List Value).toArray w fun e w' => e = .returned (.int .i64 r) ∧ SH (fun _ => False) w w' [] := by
 have H := h
 clear h
 unfold version_Files at H
 refine calls_enter Try.func31 rfl rfl ?_
 intro a hst
 have hsh := SH.zero (fun _ => False) w
 refine wq_seq ?_
 refine wq_region_lit (.inl rfl) ?_
 refine r_t hst trivial rfl (x_assign hst rfl) ?_; intro a hst
 refine wpL_nil ?_
 refine then_normal ?_
 refine wq_seq ?_
 refine wq_region_lit (.inl rfl) ?_
 refine r_t hst trivial rfl (x_move hst rfl) ?_; intro a hst
 obtain ⟨r1, hr1, H⟩ := Option.bind_eq_some_iff.1 H
 refine r_callD hst trivial rfl fn_27 rfl (version_Numbers.calls k _ _ _ _ (Same.sh0 hsa0 hsh) _ hra0 r1 hr1) ?_
 rintro e w2 ⟨v3, rfl, hc⟩
 replace hsh := hsh.call0 hc
 clear hc
 refine ⟨_, rfl, fun a hst => ?_⟩
 refine r_t hst trivial rfl (x_lenSl hst Try.underlying56 rfl (hsh.row 0 rfl).slen) ?_; intro a hst
 refine r_t hst trivial rfl (x_assign hst rfl) ?_; intro a hst
 refine wpL_nil ?_
 refine then_normal ?_
 refine wq_ret ?_
 obtain rfl := Option.some.inj H
 exact ret1 hst rfl rfl ⟨rfl, hsh.pick []⟩

set_option maxHeartbeats 4000000 in
set_option maxRecDepth 100000 in
theorem version_of.calls (k : Nat) (w : World) (va0 : Value) (Za0 : Nat → Prop) (wra0 : World) (hsa0 : Same Za0 wra0 w) (a0 : (List (List File))) (hra0 : RD (Kd.slice 43 k_File) Za0 wra0 va0 a0) (a1 : Int) (r : (List File)) (h : version_of k a0 a1 = some r) :
    Calls Try.prog 46 ([va0, .int .i64 a1] : List Value).toArray w fun e w' => ∃ v0_ : Value, e = .returned (v0_) ∧ SH (fun _ => False) w w' [] ∧ RD k_File Za0 wra0 v0_ r := by
 have H := h
 clear h
 unfold version_of at H
 refine calls_enter Try.func46 rfl rfl ?_
 intro a hst
 have hsh := SH.zero (fun _ => False) w
 refine wq_seq ?_
 refine wq_region_lit (.inl rfl) ?_
 refine r_t hst trivial rfl (x_assign hst rfl) ?_; intro a hst
 refine wpL_nil ?_
 refine then_normal ?_
 refine wq_seq ?_
 refine wq_seq ?_
 refine wq_region_lit (.inl rfl) ?_
 refine r_t hst trivial rfl (x_move hst rfl) ?_; intro a hst
 obtain ⟨r6, hr6, H⟩ := Option.bind_eq_some_iff.1 H
 refine r_callD hst trivial rfl fn_12 rfl (version_Valid.calls k _ _ _ _ (Same.sh0 hsa0 hsh) _ hra0 r6 hr6) ?_
 rintro e w7 ⟨rfl, hc⟩
 replace hsh := hsh.call0 hc
 clear hc
 refine ⟨_, rfl, fun a hst => ?_⟩
 refine r_t hst trivial rfl (x_notB hst rfl) ?_; intro a hst
 refine r_t hst trivial rfl (x_move hst rfl) ?_; intro a hst
 refine wl_join0 (Δ := []) (N := Try.f46.ntmps) 7 [(0, va0), (1, .int .i64 a1), (4, (.slice none 0 0)), (11, .bool ((!r6) || (decide (a1 < 0))))] ?_ ?_
 · intro a hst
   refine r_t hst trivial rfl (x_move hst rfl) ?_; intro a hst
   refine wl_join0 (Δ := []) (N := Try.f46.ntmps) 13 [(0, va0), (1, .int .i64 a1), (4, (.slice none 0 0)), (17, .bool (((!r6) || (decide (a1 < 0))) || (decide ((a0.length : Int) ≤ a1))))] ?_ ?_
   · intro a hst
     refine wpL_nil ?_
     refine then_normal ?_
     by_cases c10 : (((!r6) || (decide (a1 < 0))) || (decide ((a0.length : Int) ≤ a1))) = true
     · rw [if_pos c10] at H
       refine wq_condT hst rfl c10 ?_
       refine wq_seq ?_
       refine wq_region_lit (.inl rfl) ?_
       refine r_t hst trivial rfl (x_assign hst rfl) ?_; intro a hst
       refine wpL_nil ?_
       refine then_normal ?_
       refine wq_ret ?_
       refine then_ret ?_
       obtain rfl := Option.some.inj H
       exact ret1 hst rfl rfl ⟨(.slice none 0 0), rfl, hsh.pick [], (RD.nil _ _ _)⟩
     · rw [if_neg c10] at H
       replace c10 := Bool.eq_false_iff.2 c10
       refine wq_condF hst rfl c10 ?_
       refine wq_skip ?_
       refine then_normal ?_
       refine wq_seq ?_
       refine wq_region_lit (.inl rfl) ?_
       refine r_t hst trivial rfl (x_move hst rfl) ?_; intro a hst
       refine r_t hst trivial rfl (x_move hst rfl) ?_; intro a hst
       obtain ⟨x11, hx11, H⟩ := Option.bind_eq_some_iff.1 H
       refine r_t hst trivial rfl (x_indexAddr hst Try.underlying23 el_39 rfl rfl hra0 hx11) ?_; intro a hst
       obtain ⟨_, hk12, hc13⟩ := RD.cells2 hra0 hx11
       obtain ⟨v14, rfl, hr15⟩ := hk12
       refine r_t hst trivial rfl (x_loadC hst sc_39 rfl (hc13 _ (Same.sh0 hsa0 hsh) 0 _ rfl)) ?_; intro a hst
       refine r_t hst trivial rfl (x_assign hst rfl) ?_; intro a hst
       refine wpL_nil ?_
       refine then_normal ?_
       refine wq_ret ?_
       obtain rfl := Option.some.inj H
       exact ret1 hst rfl rfl ⟨v14, rfl, hsh.pick [], hr15⟩
   · intro hj
     by_cases c9 : ((!r6) || (decide (a1 < 0))) = true
     · refine r_not hst 12 rfl rfl c9 rfl ?_; intro a hst
       refine r_not hst 12 rfl rfl c9 rfl ?_; intro a hst
       refine r_not hst 12 rfl rfl c9 rfl ?_; intro a hst
       refine r_not hst 12 rfl rfl c9 rfl ?_; intro a hst
       refine r_t hst trivial rfl (x_orT (decide ((a0.length : Int) ≤ a1)) hst rfl c9 rfl) ?_; intro a hst
       exact hj _ (hst.keep _ ⟨rfl, rfl, rfl, rfl, trivial⟩)
     · replace c9 := Bool.eq_false_iff.2 c9
       refine r_t hst (wt_of 12 rfl rfl c9) rfl (x_move hst rfl) ?_; intro a hst
       refine r_t hst (wt_of 12 rfl rfl c9) rfl (x_move hst rfl) ?_; intro a hst
       refine r_t hst (wt_of 12 rfl rfl c9) rfl (x_lenSl hst Try.underlying23 rfl hra0.slen) ?_; intro a hst
       refine r_t hst (wt_of 12 rfl rfl c9) rfl (x_cmpI (b := decide ((a0.length : Int) ≤ a1)) hst rfl rfl rfl) ?_; intro a hst
       refine r_t hst trivial rfl (x_orF hst rfl c9 rfl) ?_; intro a hst
       exact hj _ (hst.keep _ ⟨rfl, rfl, rfl, rfl, trivial⟩)
 · intro hj
   by_cases c8 : (!r6) = true
   · refine r_not hst 8 rfl rfl c8 rfl ?_; intro a hst
     refine r_not hst 8 rfl rfl c8 rfl ?_; intro a hst
     refine r_t hst trivial rfl (x_orT (decide (a1 < 0)) hst rfl c8 rfl) ?_; intro a hst
     exact hj _ (hst.keep _ ⟨rfl, rfl, rfl, rfl, trivial⟩)
   · replace c8 := Bool.eq_false_iff.2 c8
     refine r_t hst (wt_of 8 rfl rfl c8) rfl (x_move hst rfl) ?_; intro a hst
     refine r_t hst (wt_of 8 rfl rfl c8) rfl (x_cmpI (b := decide (a1 < 0)) hst rfl rfl rfl) ?_; intro a hst
     refine r_t hst trivial rfl (x_orF hst rfl c8 rfl) ?_; intro a hst
     exact hj _ (hst.keep _ ⟨rfl, rfl, rfl, rfl, trivial⟩)

set_option maxHeartbeats 4000000 in
set_option maxRecDepth 100000 in
theorem version_overlaps.calls (w : World) (a0 : File) (a1 : ByteArray) (a2 : ByteArray) (r : Bool) (h : version_overlaps a0 a1 a2 = some r) :
    Calls Try.prog 47 ([.agg #[.int .i64 a0.Number, .int .i64 a0.Size, .string a0.Least, .string a0.Limit, .int .u64 a0.Low, .int .u64 a0.High], .string a1, .string a2] : List Value).toArray w fun e w' => e = .returned (.bool r) ∧ SH (fun _ => False) w w' [] := by
 have H := h
 clear h
 unfold version_overlaps at H
 refine calls_enter Try.func47 rfl rfl ?_
 intro a hst
 have hsh := SH.zero (fun _ => False) w
 refine wq_seq ?_
 refine wq_region_lit (.inl rfl) ?_
 refine r_box hst hsh trivial rfl rfl rfl ?_
 intro g1 a w2 hgg1 hsh hst
 refine r_t hst trivial rfl (x_assign hst rfl) ?_; intro a hst
 refine wpL_nil ?_
 refine then_normal ?_
 refine wq_seq ?_
 refine wq_region_lit (.inl rfl) ?_
 refine r_t hst trivial rfl (x_fieldAddr (j' := 3) hst fa_43_3 rfl rfl) ?_; intro a hst
 refine r_t hst trivial rfl (x_loadB (i := 0) hst hsh sc_9 rfl rfl rfl) ?_; intro a hst
 refine r_t hst trivial rfl (x_move hst rfl) ?_; intro a hst
 refine r_t hst trivial rfl (x_cmpS (b := (!(sLt a0.Limit a1 || sEq a0.Limit a1))) hst rfl rfl rfl) ?_; intro a hst
 refine r_t hst trivial rfl (x_move hst rfl) ?_; intro a hst
 refine wl_join0 (Δ := []) (N := Try.f47.ntmps) 19 [(6, .bool false), (25, .bool ((!(sLt a0.Limit a1 || sEq a0.Limit a1)) && ((sEq a2 (ByteArray.mk #[])) || ((sLt a0.Least a2) && (!(sLt a2 a1 || sEq a2 a1))))))] ?_ ?_
 · intro a hst
   refine r_t hst trivial rfl (x_assign hst rfl) ?_; intro a hst
   refine wpL_nil ?_
   refine then_normal ?_
   refine wq_ret ?_
   obtain rfl := Option.some.inj H
   exact ret1 hst rfl rfl ⟨rfl, hsh.pick []⟩
 · intro hj
   by_cases c3 : (!(sLt a0.Limit a1 || sEq a0.Limit a1)) = true
   · refine r_t hst (wt_of 11 rfl rfl c3) rfl (x_move hst rfl) ?_; intro a hst
     refine r_t hst (wt_of 11 rfl rfl c3) rfl (x_cmpS (b := sEq a2 (ByteArray.mk #[])) hst rfl rfl rfl) ?_; intro a hst
     refine r_t hst (wt_of 11 rfl rfl c3) rfl (x_move hst rfl) ?_; intro a hst
     refine wl_join0 (Δ := []) (N := Try.f47.ntmps) 18 [(6, .bool false), (11, .bool (!(sLt a0.Limit a1 || sEq a0.Limit a1))), (24, .bool ((sEq a2 (ByteArray.mk #[])) || ((sLt a0.Least a2) && (!(sLt a2 a1 || sEq a2 a1)))))] ?_ ?_
     · intro a hst
       refine r_t hst trivial rfl (x_andT hst rfl c3 rfl) ?_; intro a hst
       exact hj _ (hst.keep _ ⟨rfl, rfl, trivial⟩)
     · intro hj
       by_cases c4 : (sEq a2 (ByteArray.mk #[])) = true
       · refine r_not hst 14 rfl rfl c4 rfl ?_; intro a hst
         refine r_not hst 14 rfl rfl c4 rfl ?_; intro a hst
         refine r_not hst 14 rfl rfl c4 rfl ?_; intro a hst
         refine r_not hst 14 rfl rfl c4 rfl ?_; intro a hst
         refine r_not hst 14 rfl rfl c4 rfl ?_; intro a hst
         refine r_notU hst 19 rfl rfl rfl ?_; intro a hst
         refine r_notU hst 19 rfl rfl rfl ?_; intro a hst
         refine r_notU hst 19 rfl rfl rfl ?_; intro a hst
         refine r_not hst 14 rfl rfl c4 rfl ?_; intro a hst
         refine r_t hst (wt_of 11 rfl rfl c3) rfl (x_orT ((sLt a0.Least a2) && (!(sLt a2 a1 || sEq a2 a1))) hst rfl c4 rfl) ?_; intro a hst
         exact hj _ (hst.keep _ ⟨rfl, rfl, rfl, trivial⟩)
       · replace c4 := Bool.eq_false_iff.2 c4
         refine r_t hst (wt_of 14 rfl rfl c4) rfl (x_fieldAddr (j' := 2) hst fa_43_2 rfl rfl) ?_; intro a hst
         refine r_t hst (wt_of 14 rfl rfl c4) rfl (x_loadB (i := 0) hst hsh sc_9 rfl rfl rfl) ?_; intro a hst
         refine r_t hst (wt_of 14 rfl rfl c4) rfl (x_move hst rfl) ?_; intro a hst
         refine r_t hst (wt_of 14 rfl rfl c4) rfl (x_cmpS (b := sLt a0.Least a2) hst rfl rfl rfl) ?_; intro a hst
         refine r_t hst (wt_of 14 rfl rfl c4) rfl (x_move hst rfl) ?_; intro a hst
         refine wl_join0 (Δ := []) (N := Try.f47.ntmps) 17 [(6, .bool false), (11, .bool (!(sLt a0.Limit a1 || sEq a0.Limit a1))), (14, .bool (sEq a2 (ByteArray.mk #[]))), (23, .bool ((sLt a0.Least a2) && (!(sLt a2 a1 || sEq a2 a1))))] ?_ ?_
         · intro a hst
           refine r_t hst (wt_of 11 rfl rfl c3) rfl (x_orF hst rfl c4 rfl) ?_; intro a hst
           exact hj _ (hst.keep _ ⟨rfl, rfl, rfl, trivial⟩)
         · intro hj
           by_cases c5 : (sLt a0.Least a2) = true
           · refine r_t hst (wt_of 19 rfl rfl c5) rfl (x_move hst rfl) ?_; intro a hst
             refine r_t hst (wt_of 19 rfl rfl c5) rfl (x_move hst rfl) ?_; intro a hst
             refine r_t hst (wt_of 19 rfl rfl c5) rfl (x_cmpS (b := (!(sLt a2 a1 || sEq a2 a1))) hst rfl rfl rfl) ?_; intro a hst
             refine r_t hst (wt_of 14 rfl rfl c4) rfl (x_andT hst rfl c5 rfl) ?_; intro a hst
             exact hj _ (hst.keep _ ⟨rfl, rfl, rfl, rfl, trivial⟩)
           · replace c5 := Bool.eq_false_iff.2 c5
             refine r_not hst 19 rfl rfl c5 rfl ?_; intro a hst
             refine r_not hst 19 rfl rfl c5 rfl ?_; intro a hst
             refine r_not hst 19 rfl rfl c5 rfl ?_; intro a hst
             refine r_t hst (wt_of 14 rfl rfl c4) rfl (x_andF (!(sLt a2 a1 || sEq a2 a1)) hst rfl c5 rfl) ?_; intro a hst
             exact hj _ (hst.keep _ ⟨rfl, rfl, rfl, rfl, trivial⟩)
   · replace c3 := Bool.eq_false_iff.2 c3
     refine r_not hst 11 rfl rfl c3 rfl ?_; intro a hst
     refine r_not hst 11 rfl rfl c3 rfl ?_; intro a hst
     refine r_not hst 11 rfl rfl c3 rfl ?_; intro a hst
     refine r_notU hst 14 rfl rfl rfl ?_; intro a hst
     refine r_notU hst 14 rfl rfl rfl ?_; intro a hst
     refine r_notU hst 14 rfl rfl rfl ?_; intro a hst
     refine r_notU hst 14 rfl rfl rfl ?_; intro a hst
     refine r_notU hst 14 rfl rfl rfl ?_; intro a hst
     refine r_notU hst 19 rfl rfl rfl ?_; intro a hst
     refine r_notU hst 19 rfl rfl rfl ?_; intro a hst
     refine r_notU hst 19 rfl rfl rfl ?_; intro a hst
     refine r_notU hst 14 rfl rfl rfl ?_; intro a hst
     refine r_not hst 11 rfl rfl c3 rfl ?_; intro a hst
     refine r_t hst trivial rfl (x_andF ((sEq a2 (ByteArray.mk #[])) || ((sLt a0.Least a2) && (!(sLt a2 a1 || sEq a2 a1)))) hst rfl c3 rfl) ?_; intro a hst
     exact hj _ (hst.keep _ ⟨rfl, rfl, trivial⟩)

set_option maxHeartbeats 4000000 in
set_option maxRecDepth 100000 in
theorem version_Over.calls (k : Nat) (w : World) (va0 : Value) (Za0 : Nat → Prop) (wra0 : World) (hsa0 : Same Za0 wra0 w) (a0 : (List (List File))) (hra0 : RD (Kd.slice 43 k_File) Za0 wra0 va0 a0) (a1 : Int) (a2 : ByteArray) (a3 : ByteArray) (r : (List File)) (h : version_Over k a0 a1 a2 a3 = some r) :
    Calls Try.prog 18 ([va0, .int .i64 a1, .string a2, .string a3] : List Value).toArray w fun e w' => ∃ v0_ : Value, e = .returned (v0_) ∧ SH (fun _ => False) w w' [Row k_File 43 v0_ r] := by
 have H := h
 clear h
 unfold version_Over at H
 refine calls_enter Try.func18 rfl rfl ?_
 intro a hst
 have hsh := SH.zero (fun _ => False) w
 refine wq_seq ?_
 refine wq_region_lit (.inl rfl) ?_
 refine r_t hst trivial rfl (x_assign hst rfl) ?_; intro a hst
 refine wpL_nil ?_
 refine then_normal ?_
 refine wq_seq ?_
 refine wq_region_lit (.inl rfl) ?_
 refine r_t hst trivial rfl (x_assign hst rfl) ?_; intro a hst
 refine wpL_nil ?_
 refine then_normal ?_
 refine wq_seq ?_
 refine wq_seq ?_
 refine wq_region_lit (.inl rfl) ?_
 refine r_t hst trivial rfl (x_move hst rfl) ?_; intro a hst
 refine r_t hst trivial rfl (x_move hst rfl) ?_; intro a hst
 obtain ⟨r87, hr87, H⟩ := Option.bind_eq_some_iff.1 H
 refine r_callD hst trivial rfl fn_46 rfl (version_of.calls k _ _ _ _ (Same.sh0 hsa0 hsh) _ hra0 a1 r87 hr87) ?_
 rintro e w88 ⟨v89, rfl, hc, hv90⟩
 replace hsh := hsh.call0 hc
 clear hc
 refine ⟨_, rfl, fun a hst => ?_⟩
 refine r_t hst trivial rfl (x_lenSl hst Try.underlying39 rfl hv90.slen) ?_; intro a hst
 refine r_t hst trivial rfl (x_move hst rfl) ?_; intro a hst
 refine wpL_nil ?_
 refine then_normal ?_
 refine wq_block ?_
 have hsh := hsh.addNil k_File 43
 refine wq_loop_fuel (fun k_56 a w' => ∃ (v_43 : Value), ∃ (l_44 : (List File)), ∃ (i_45 : Int), version_Over.l0 a2 a3 r87 k_56 l_44 i_45 = some r ∧ ST [] Try.f18.ntmps a [(2, .string a2), (3, .string a3), (8, (.slice none 0 0)), (9, v_43), (14, v89), (15, .int .i64 (r87.length : Int)), (16, .int .i64 i_45)] ∧ SH (fun _ => False) w w' [Row k_File 43 v_43 l_44]) k ?_ ?_
 · exact ⟨(.slice none 0 0), ([]), 0, H, hst.keep _ ⟨rfl, rfl, rfl, rfl, rfl, rfl, rfl, trivial⟩, hsh.pick [0]⟩
 · rintro k_56 a W_46 ⟨v_43, l_44, i_45, H, hst, hsh⟩
   cases k_56 with
   | zero => rw [version_Over.l0] at H; cases H
   | succ k_56 =>
    rw [version_Over.l0] at H
    refine wq_seq ?_
    refine wq_region_lit (.inl rfl) ?_
    refine r_t hst trivial rfl (x_cmpI (b := decide (i_45 < (r87.length : Int))) hst rfl rfl rfl) ?_; intro a hst
    refine wpL_nil ?_
    refine then_normal ?_
    refine wq_seq ?_
    by_cases c147 : (decide (i_45 < (r87.length : Int))) = true
    · rw [if_pos c147] at H
      refine wq_condT hst rfl c147 ?_
      refine wq_skip ?_
      refine then_normal ?_
      obtain ⟨J_60, hJ_60, H⟩ := Jn.elim H
      refine wq_cut (fun a w' => ∃ (v_57 : Value), ∃ (l_58 : (List File)), J_60 l_58 = some r ∧ ST [] Try.f18.ntmps a [(2, .string a2), (3, .string a3), (8, (.slice none 0 0)), (9, v_57), (14, v89), (15, .int .i64 (r87.length : Int)), (16, .int .i64 i_45)] ∧ SH (fun _ => False) w w' [Row k_File 43 v_57 l_58]) ?_ ?_
      · rintro a W_59 ⟨v_57, l_58, H, hst, hsh⟩
        subst hJ_60
        dsimp only at H
        refine wq_region_lit (.inl rfl) ?_
        refine r_t hst trivial rfl (x_arI (r := w64 (i_45 + 1)) hst rfl rfl rfl) ?_; intro a hst
        refine r_t hst trivial rfl (x_move hst rfl) ?_; intro a hst
        refine wpL_nil ?_
        refine then_normal ?_
        exact ⟨k_56, Nat.lt_succ_self _, v_57, l_58, (w64 (i_45 + 1)), H, hst.keep _ ⟨rfl, rfl, rfl, rfl, rfl, rfl, rfl, trivial⟩, hsh.pick [0]⟩
      · refine wq_block ?_
        refine wq_seq ?_
        refine wq_region_lit (.inl rfl) ?_
        obtain ⟨x160, hx160, H⟩ := Option.bind_eq_some_iff.1 H
        refine r_t hst trivial rfl (x_indexAddr hst Try.underlying39 el_43 rfl rfl hv90 hx160) ?_; intro a hst
        refine r_t hst trivial rfl (x_loadEsF (j := 0) (cs := [.int .i64 x160.Number, .int .i64 x160.Size, .string x160.Least, .string x160.Limit, .int .u64 x160.Low, .int .u64 x160.High]) (ps := [.int .i64 x160.Number, .int .i64 x160.Size, .string x160.Least, .string x160.Limit, .int .u64 x160.Low, .int .u64 x160.High]) hst ag_43 rfl hv90 (Same.sh0 hsa0 hsh) hx160 rfl (fun _ h => h) rfl) ?_; intro a hst
        refine r_alloc hst hsh trivial rfl zr_43 ?_
        intro g161 a w162 hgg161 hsh hst
        refine r_storeBs (i := 0) (cs' := [.int .i64 x160.Number, .int .i64 x160.Size, .string x160.Least, .string x160.Limit, .int .u64 x160.Low, .int .u64 x160.High]) (vs := [.int .i64 x160.Number, .int .i64 x160.Size, .string x160.Least, .string x160.Limit, .int .u64 x160.Low, .int .u64 x160.High]) hst hsh trivial ag_43 rfl rfl rfl rfl rfl rfl ?_; intro a w163 hsh hst
        refine wpL_nil ?_
        refine then_normal ?_
        refine wq_seq ?_
        refine wq_region_lit (.inl rfl) ?_
        refine r_t hst trivial rfl (x_loadBs (i := 0) (ps := [.int .i64 x160.Number, .int .i64 x160.Size, .string x160.Least, .string x160.Limit, .int .u64 x160.Low, .int .u64 x160.High]) hst hsh ag_43 rfl rfl rfl) ?_; intro a hst
        refine r_t hst trivial rfl (x_move hst rfl) ?_; intro a hst
        refine r_t hst trivial rfl (x_move hst rfl) ?_; intro a hst
        obtain ⟨r164, hr164, H⟩ := Option.bind_eq_some_iff.1 H
        refine r_callD hst trivial rfl fn_47 rfl (version_overlaps.calls _ x160 a2 a3 r164 hr164) ?_
        rintro e w165 ⟨rfl, hc⟩
        replace hsh := hsh.call0 hc
        clear hc
        refine ⟨_, rfl, fun a hst => ?_⟩
        refine wpL_nil ?_
        refine then_normal ?_
        by_cases c166 : r164 = true
        · rw [if_pos c166] at H
          refine wq_condT hst rfl c166 ?_
          refine wq_region_lit (.inl rfl) ?_
          refine r_t hst trivial rfl (x_move hst rfl) ?_; intro a hst
          refine r_t hst trivial rfl (x_loadBs (i := 0) (ps := [.int .i64 x160.Number, .int .i64 x160.Size, .string x160.Least, .string x160.Limit, .int .u64 x160.Low, .int .u64 x160.High]) hst hsh ag_43 rfl rfl rfl) ?_; intro a hst
          refine r_buildSlice (vs := [.agg #[.int .i64 x160.Number, .int .i64 x160.Size, .string x160.Least, .string x160.Limit, .int .u64 x160.Low, .int .u64 x160.High]]) (cs := [.int .i64 x160.Number, .int .i64 x160.Size, .string x160.Least, .string x160.Limit, .int .u64 x160.Low, .int .u64 x160.High]) hst hsh trivial rfl Try.underlying39 el_43 rfl rfl (by simp [Value.cells]) rfl rfl ?_
          intro g167 a w168 hgg167 hsh hst
          replace hsh := hsh.pick [2, 0, 0]
          obtain ⟨l169, hl169, H⟩ := Option.bind_eq_some_iff.1 H
          refine r_append1 (xx := x160) (C := []) (M := [Box g161 [.int .i64 x160.Number, .int .i64 x160.Size, .string x160.Least, .string x160.Limit, .int .u64 x160.Low, .int .u64 x160.High] 43]) hst hsh trivial rfl Try.underlying39 el_43 (by decide) (by decide) (by decide) rfl rfl (fun _ _ _ => rfl) hl169 ?_
          intro v170 a w171 hsh hst
          refine r_t hst trivial rfl (x_assign hst rfl) ?_; intro a hst
          refine wpL_nil ?_
          refine block_normal ?_
          refine then_normal ?_
          exact ⟨v170, l169, H, hst.keep _ ⟨rfl, rfl, rfl, rfl, rfl, rfl, rfl, trivial⟩, hsh.pick [0]⟩
        · rw [if_neg c166] at H
          replace c166 := Bool.eq_false_iff.2 c166
          refine wq_condF hst rfl c166 ?_
          refine wq_skip ?_
          refine block_normal ?_
          refine then_normal ?_
          exact ⟨v_43, l_44, H, hst.keep _ ⟨rfl, rfl, rfl, rfl, rfl, rfl, rfl, trivial⟩, hsh.pick [1]⟩
    · rw [if_neg c147] at H
      replace c147 := Bool.eq_false_iff.2 c147
      refine wq_condF hst rfl c147 ?_
      refine wq_exit ?_
      refine then_exit ?_
      refine then_exit ?_
      refine block_hit ?_
      refine then_normal ?_
      refine wq_seq ?_
      refine wq_region_lit (.inl rfl) ?_
      refine r_t hst trivial rfl (x_move hst rfl) ?_; intro a hst
      refine r_t hst trivial rfl (x_assign hst rfl) ?_; intro a hst
      refine wpL_nil ?_
      refine then_normal ?_
      refine wq_ret ?_
      obtain rfl := Option.some.inj H
      exact ret1 hst rfl rfl ⟨v_43, rfl, hsh.pick [0]⟩

set_option maxHeartbeats 4000000 in
set_option maxRecDepth 100000 in
theorem slices_Backward_File_1.calls (k : Nat) (w : World) (va0 : Value) (Za0 : Nat → Prop) (wra0 : World) (hsa0 : Same Za0 wra0 w) (a0 : (Int → File → Option Bool)) (hra0 : ∀ (w : World) (x0 : Int) (x1 : File) (r : Bool), Same Za0 wra0 w → a0 x0 x1 = some r → CallsV Try.prog va0 [.int .i64 x0, .agg #[.int .i64 x1.Number, .int .i64 x1.Size, .string x1.Least, .string x1.Limit, .int .u64 x1.Low, .int .u64 x1.High]] w (fun e w'' => e = .returned (.bool r) ∧ SH (fun _ => False) w w'' [])) (c0 : (List File)) (vc0_0 : Value) (Zc0_0 : Nat → Prop) (wrc0_0 : World) (hsc0_0 : Same Zc0_0 wrc0_0 w) (hrc0_0 : RD k_File Zc0_0 wrc0_0 vc0_0 c0) (ggc0 : Nat) (Zc0 : Nat → Prop) (wrc0 : World) (hsc0 : Same Zc0 wrc0 w) (hzc0 : Zc0 ggc0) (hbc0 : wrc0.heap[ggc0]? = some (.cells ([vc0_0] : List Value).toArray 39 (0, 0))) (r : Unit) (h : slices_Backward_File_1 k a0 c0 = some r) :
    Calls Try.prog 64 ([va0, .pointer (some ⟨ggc0, 0, none⟩)] : List Value).toArray w fun e w' => e = .returned (.tuple #[]) ∧ SH (fun _ => False) w w' [] := by
 have H := h
 clear h
 unfold slices_Backward_File_1 at H
 refine calls_enter Try.func64 rfl rfl ?_
 intro a hst
 have hsh := SH.zero (fun _ => False) w
 refine wq_seq ?_
 refine wq_region_lit (.inl rfl) ?_
 refine r_t hst trivial rfl (x_loadCap (cs := [vc0_0]) hst hbc0 (Same.sh0 hsc0 hsh) hzc0 sc_39 rfl rfl) ?_; intro a hst
 refine r_t hst trivial rfl (x_lenSl hst Try.underlying39 rfl hrc0_0.slen) ?_; intro a hst
 refine r_t hst trivial rfl (x_arI (r := w64 ((c0.length : Int) - 1)) hst rfl rfl rfl) ?_; intro a hst
 refine r_t hst trivial rfl (x_assign hst rfl) ?_; intro a hst
 refine wpL_nil ?_
 refine then_normal ?_
 refine wq_block ?_
 refine wq_loop_fuel (fun k_5 a w' => ∃ (i_1 : Int), slices_Backward_File_1.l0 a0 c0 k_5 i_1 = some r ∧ ST [] Try.f64.ntmps a [(0, va0), (1, .pointer (some ⟨ggc0, 0, none⟩)), (3, .int .i64 i_1)] ∧ SH (fun _ => False) w w' []) k ?_ ?_
 · exact ⟨(w64 ((c0.length : Int) - 1)), H, hst.keep _ ⟨rfl, rfl, rfl, trivial⟩, hsh.pick []⟩
 · rintro k_5 a W_2 ⟨i_1, H, hst, hsh⟩
   cases k_5 with
   | zero => rw [slices_Backward_File_1.l0] at H; cases H
   | succ k_5 =>
    rw [slices_Backward_File_1.l0] at H
    refine wq_seq ?_
    refine wq_seq ?_
    refine wq_region_lit (.inl rfl) ?_
    refine r_t hst trivial rfl (x_move hst rfl) ?_; intro a hst
    refine r_t hst trivial rfl (x_cmpI (b := decide (0 ≤ i_1)) hst rfl rfl rfl) ?_; intro a hst
    refine wpL_nil ?_
    refine then_normal ?_
    by_cases c12 : (decide (0 ≤ i_1)) = true
    · rw [if_pos c12] at H
      refine wq_condT hst rfl c12 ?_
      refine wq_skip ?_
      refine then_normal ?_
      refine wq_seq ?_
      refine wq_block ?_
      refine wq_seq ?_
      refine wq_region_lit (.inl rfl) ?_
      refine r_t hst trivial rfl (x_move hst rfl) ?_; intro a hst
      refine r_t hst trivial rfl (x_move hst rfl) ?_; intro a hst
      refine r_t hst trivial rfl (x_loadCap (cs := [vc0_0]) hst hbc0 (Same.sh0 hsc0 hsh) hzc0 sc_39 rfl rfl) ?_; intro a hst
      refine r_t hst trivial rfl (x_move hst rfl) ?_; intro a hst
      obtain ⟨x17, hx17, H⟩ := Option.bind_eq_some_iff.1 H
      refine r_t hst trivial rfl (x_indexAddr hst Try.underlying39 el_43 rfl rfl hrc0_0 hx17) ?_; intro a hst
      refine r_t hst trivial rfl (x_loadEsF (j := 0) (cs := [.int .i64 x17.Number, .int .i64 x17.Size, .string x17.Least, .string x17.Limit, .int .u64 x17.Low, .int .u64 x17.High]) (ps := [.int .i64 x17.Number, .int .i64 x17.Size, .string x17.Least, .string x17.Limit, .int .u64 x17.Low, .int .u64 x17.High]) hst ag_43 rfl hrc0_0 (Same.sh0 hsc0_0 hsh) hx17 rfl (fun _ h => h) rfl) ?_; intro a hst
      obtain ⟨r18, hr18, H⟩ := Option.bind_eq_some_iff.1 H
      refine r_callV hst trivial rfl rfl rfl (hra0 _ i_1 x17 r18 (Same.sh0 hsa0 hsh) hr18) ?_
      rintro e w19 ⟨rfl, hc⟩
      replace hsh := hsh.call0 hc
      clear hc
      refine ⟨_, rfl, fun a hst => ?_⟩
      refine r_t hst trivial rfl (x_notB hst rfl) ?_; intro a hst
      refine wpL_nil ?_
      refine then_normal ?_
      by_cases c20 : (!r18) = true
      · rw [if_pos c20] at H
        refine wq_condT hst rfl c20 ?_
        refine wq_ret ?_
        refine block_ret ?_
        refine then_ret ?_
        refine then_ret ?_
        refine block_ret ?_
        obtain rfl := Option.some.inj H
        exact ret0 hst rfl ⟨rfl, hsh.pick []⟩
      · rw [if_neg c20] at H
        replace c20 := Bool.eq_false_iff.2 c20
        refine wq_condF hst rfl c20 ?_
        refine wq_skip ?_
        refine block_normal ?_
        refine then_normal ?_
        refine wq_region_lit (.inl rfl) ?_
        refine r_t hst trivial rfl (x_move hst rfl) ?_; intro a hst
        refine r_t hst trivial rfl (x_arI (r := w64 (i_1 - 1)) hst rfl rfl rfl) ?_; intro a hst
        refine r_t hst trivial rfl (x_assign hst rfl) ?_; intro a hst
        refine wpL_nil ?_
        refine then_normal ?_
        exact ⟨k_5, Nat.lt_succ_self _, (w64 (i_1 - 1)), H, hst.keep _ ⟨rfl, rfl, rfl, trivial⟩, hsh.pick []⟩
    · rw [if_neg c12] at H
      replace c12 := Bool.eq_false_iff.2 c12
      refine wq_condF hst rfl c12 ?_
      refine wq_exit ?_
      refine then_exit ?_
      refine then_exit ?_
      refine block_hit ?_
      exact end0 hst rfl ⟨rfl, hsh.pick []⟩

set_option maxHeartbeats 4000000 in
set_option maxRecDepth 100000 in
theorem version_Asks_1.calls (w : World) (a0 : Int) (c0 : (List File)) (vc0_0 : Value) (Zc0_0 : Nat → Prop) (wrc0_0 : World) (hsc0_0 : Same Zc0_0 wrc0_0 w) (hrc0_0 : RD k_File Zc0_0 wrc0_0 vc0_0 c0) (ggc0 : Nat) (Zc0 : Nat → Prop) (wrc0 : World) (hsc0 : Same Zc0 wrc0 w) (hzc0 : Zc0 ggc0) (hbc0 : wrc0.heap[ggc0]? = some (.cells ([vc0_0] : List Value).toArray 39 (0, 0))) (c1 : ByteArray) (ggc1 : Nat) (Zc1 : Nat → Prop) (wrc1 : World) (hsc1 : Same Zc1 wrc1 w) (hzc1 : Zc1 ggc1) (hbc1 : wrc1.heap[ggc1]? = some (.cells ([.string c1] : List Value).toArray 9 (0, 0))) (r : Bool) (h : version_Asks_1 a0 c0 c1 = some r) :
    Calls Try.prog 50 ([.int .i64 a0, .pointer (some ⟨ggc0, 0, none⟩), .pointer (some ⟨ggc1, 0, none⟩)] : List Value).toArray w fun e w' => e = .returned (.bool r) ∧ SH (fun _ => False) w w' [] := by
 have H := h
 clear h
 unfold version_Asks_1 at H
 refine calls_enter Try.func50 rfl rfl ?_
 intro a hst
 have hsh := SH.zero (fun _ => False) w
 refine wq_seq ?_
 refine wq_region_lit (.inl rfl) ?_
 refine r_t hst trivial rfl (x_assign hst rfl) ?_; intro a hst
 refine wpL_nil ?_
 refine then_normal ?_
 refine wq_seq ?_
 refine wq_region_q (.inl rfl) (fun w' => SH (fun _ => False) w w' []) (shut_sh _ _ _) hsh.drew fo (by kernel_rfl) ?_
 refine q_t hst trivial rfl (fun _ hsh => x_loadCap (cs := [vc0_0]) hst hbc0 (Same.sh0 hsc0 hsh) hzc0 sc_39 rfl rfl) ?_; intro a hst
 refine q_t hst trivial rfl (fun _ hsh => x_move hst rfl) ?_; intro a hst
 obtain ⟨x1, hx1, H⟩ := Option.bind_eq_some_iff.1 H
 refine q_t hst trivial rfl (fun _ hsh => x_indexAddr hst Try.underlying39 el_43 rfl rfl hrc0_0 hx1) ?_; intro a hst
 refine q_t hst trivial rfl (fun _ hsh => x_fieldAddrE (n' := Int.toNat a0 * k_File.sz + 3) hst fa_43_3 rfl rfl) ?_; intro a hst
 refine q_t hst trivial rfl (fun _ hsh => x_loadEF (j := 3) (cs := [.int .i64 x1.Number, .int .i64 x1.Size, .string x1.Least, .string x1.Limit, .int .u64 x1.Low, .int .u64 x1.High]) hst sc_9 rfl hrc0_0 (Same.sh0 hsc0_0 hsh) hx1 rfl (fun _ h => h) rfl) ?_; intro a hst
 refine q_t hst trivial rfl (fun _ hsh => x_loadCap (cs := [.string c1]) hst hbc1 (Same.sh0 hsc1 hsh) hzc1 sc_9 rfl rfl) ?_; intro a hst
 refine q_t hst trivial rfl (fun _ hsh => x_cmpS (b := (!(sLt x1.Limit c1 || sEq x1.Limit c1))) hst rfl rfl rfl) ?_; intro a hst
 refine q_t hst trivial rfl (fun _ hsh => x_assign hst rfl) ?_; intro a hst
 refine q_nil ?_
 intro w2 hsh
 refine then_normal ?_
 refine wq_ret ?_
 obtain rfl := Option.some.inj H
 exact ret1 hst rfl rfl ⟨rfl, hsh.pick []⟩

set_option maxHeartbeats 4000000 in
set_option maxRecDepth 100000 in
theorem sort_Search.calls (k : Nat) (w : World) (a0 : Int) (va1 : Value) (Za1 : Nat → Prop) (wra1 : World) (hsa1 : Same Za1 wra1 w) (a1 : (Int → Option Bool)) (hra1 : ∀ (w : World) (x0 : Int) (r : Bool), Same Za1 wra1 w → a1 x0 = some r → CallsV Try.prog va1 [.int .i64 x0] w (fun e w'' => e = .returned (.bool r) ∧ SH (fun _ => False) w w'' [])) (r : Int) (h : sort_Search k a0 a1 = some r) :
    Calls Try.prog 49 ([.int .i64 a0, va1] : List Value).toArray w fun e w' => e = .returned (.int .i64 r) ∧ SH (fun _ => False) w w' [] := by
 have H := h
 clear h
 unfold sort_Search at H
 refine calls_enter Try.func49 rfl rfl ?_
 intro a hst
 have hsh := SH.zero (fun _ => False) w
 refine wq_seq ?_
 refine wq_region_lit (.inl rfl) ?_
 refine r_t hst trivial rfl (x_assign hst rfl) ?_; intro a hst
 refine wpL_nil ?_
 refine then_normal ?_
 refine wq_seq ?_
 refine wq_region_lit (.inl rfl) ?_
 refine r_t hst trivial rfl (x_move hst rfl) ?_; intro a hst
 refine r_t hst trivial rfl (x_assign hst rfl) ?_; intro a hst
 refine r_t hst trivial rfl (x_assign hst rfl) ?_; intro a hst
 refine wpL_nil ?_
 refine then_normal ?_
 refine wq_seq ?_
 refine wq_block ?_
 refine wq_loop_fuel (fun k_22 a w' => ∃ (i_16 : Int), ∃ (i_17 : Int), sort_Search.l0 a1 k_22 i_16 i_17 = some r ∧ ST [] Try.f49.ntmps a [(1, va1), (4, .int .i64 0), (5, .int .i64 i_16), (6, .int .i64 i_17)] ∧ SH (fun _ => False) w w' []) k ?_ ?_
 · exact ⟨0, a0, H, hst.keep _ ⟨rfl, rfl, rfl, rfl, trivial⟩, hsh.pick []⟩
 · rintro k_22 a W_18 ⟨i_16, i_17, H, hst, hsh⟩
   cases k_22 with
   | zero => rw [sort_Search.l0] at H; cases H
   | succ k_22 =>
    rw [sort_Search.l0] at H
    refine wq_seq ?_
    refine wq_seq ?_
    refine wq_region_lit (.inl rfl) ?_
    refine r_t hst trivial rfl (x_move hst rfl) ?_; intro a hst
    refine r_t hst trivial rfl (x_move hst rfl) ?_; intro a hst
    refine r_t hst trivial rfl (x_cmpI (b := decide (i_16 < i_17)) hst rfl rfl rfl) ?_; intro a hst
    refine wpL_nil ?_
    refine then_normal ?_
    by_cases c27 : (decide (i_16 < i_17)) = true
    · rw [if_pos c27] at H
      refine wq_condT hst rfl c27 ?_
      refine wq_skip ?_
      refine then_normal ?_
      refine wq_block ?_
      refine wq_seq ?_
      refine wq_region_lit (.inl rfl) ?_
      refine r_t hst trivial rfl (x_move hst rfl) ?_; intro a hst
      refine r_t hst trivial rfl (x_move hst rfl) ?_; intro a hst
      refine r_t hst trivial rfl (x_arI (r := w64 (i_16 + i_17)) hst rfl rfl rfl) ?_; intro a hst
      refine r_t hst trivial rfl (x_convI hst Try.underlying3 Try.underlying88 rfl) ?_; intro a hst
      refine r_t hst trivial rfl (x_shr hst rfl rfl (by decide) (by decide)) ?_; intro a hst
      refine r_t hst trivial rfl (x_convI hst Try.underlying88 Try.underlying3 rfl) ?_; intro a hst
      refine r_t hst trivial rfl (x_assign hst rfl) ?_; intro a hst
      refine wpL_nil ?_
      refine then_normal ?_
      refine wq_seq ?_
      refine wq_region_lit (.inl rfl) ?_
      refine r_t hst trivial rfl (x_move hst rfl) ?_; intro a hst
      refine r_t hst trivial rfl (x_move hst rfl) ?_; intro a hst
      obtain ⟨r28, hr28, H⟩ := Option.bind_eq_some_iff.1 H
      refine r_callV hst trivial rfl rfl rfl (hra1 _ (w64 ((wu64 (w64 (i_16 + i_17))) / 2 ^ (Int.toNat 1))) r28 (Same.sh0 hsa1 hsh) hr28) ?_
      rintro e w29 ⟨rfl, hc⟩
      replace hsh := hsh.call0 hc
      clear hc
      refine ⟨_, rfl, fun a hst => ?_⟩
      refine r_t hst trivial rfl (x_notB hst rfl) ?_; intro a hst
      refine wpL_nil ?_
      refine then_normal ?_
      by_cases c30 : (!r28) = true
      · rw [if_pos c30] at H
        refine wq_condT hst rfl c30 ?_
        refine wq_region_lit (.inl rfl) ?_
        refine r_t hst trivial rfl (x_move hst rfl) ?_; intro a hst
        refine r_t hst trivial rfl (x_arI (r := w64 ((w64 ((wu64 (w64 (i_16 + i_17))) / 2 ^ (Int.toNat 1))) + 1)) hst rfl rfl rfl) ?_; intro a hst
        refine r_t hst trivial rfl (x_assign hst rfl) ?_; intro a hst
        refine wpL_nil ?_
        refine block_normal ?_
        refine then_normal ?_
        exact ⟨k_22, Nat.lt_succ_self _, (w64 ((w64 ((wu64 (w64 (i_16 + i_17))) / 2 ^ (Int.toNat 1))) + 1)), i_17, H, hst.keep _ ⟨rfl, rfl, rfl, rfl, trivial⟩, hsh.pick []⟩
      · rw [if_neg c30] at H
        replace c30 := Bool.eq_false_iff.2 c30
        refine wq_condF hst rfl c30 ?_
        refine wq_region_lit (.inl rfl) ?_
        refine r_t hst trivial rfl (x_move hst rfl) ?_; intro a hst
        refine r_t hst trivial rfl (x_assign hst rfl) ?_; intro a hst
        refine wpL_nil ?_
        refine block_normal ?_
        refine then_normal ?_
        exact ⟨k_22, Nat.lt_succ_self _, i_16, (w64 ((wu64 (w64 (i_16 + i_17))) / 2 ^ (Int.toNat 1))), H, hst.keep _ ⟨rfl, rfl, rfl, rfl, trivial⟩, hsh.pick []⟩
    · rw [if_neg c27] at H
      replace c27 := Bool.eq_false_iff.2 c27
      refine wq_condF hst rfl c27 ?_
      refine wq_exit ?_
      refine then_exit ?_
      refine then_exit ?_
      refine block_hit ?_
      refine then_normal ?_
      refine wq_seq ?_
      refine wq_region_lit (.inl rfl) ?_
      refine r_t hst trivial rfl (x_move hst rfl) ?_; intro a hst
      refine r_t hst trivial rfl (x_assign hst rfl) ?_; intro a hst
      refine wpL_nil ?_
      refine then_normal ?_
      refine wq_ret ?_
      obtain rfl := Option.some.inj H
      exact ret1 hst rfl rfl ⟨rfl, hsh.pick []⟩

set_option maxHeartbeats 4000000 in
set_option maxRecDepth 100000 in
theorem version_Asks.calls (k : Nat) (w : World) (va0 : Value) (Za0 : Nat → Prop) (wra0 : World) (hsa0 : Same Za0 wra0 w) (a0 : (List (List File))) (hra0 : RD (Kd.slice 43 k_File) Za0 wra0 va0 a0) (a1 : ByteArray) (r : (List Place)) (h : version_Asks k a0 a1 = some r) :
    Calls Try.prog 19 ([va0, .string a1] : List Value).toArray w fun e w' => ∃ v0_ : Value, e = .returned (v0_) ∧ SH (fun _ => False) w w' [Row k_Place 41 v0_ r] := by
 have H := h
 clear h
 unfold version_Asks at H
 refine calls_enterM Try.func19 rfl rfl ?_
 intro a hst
 have hsh := SH.zero (fun _ => False) w
 replace hsh := hsh.addMks
 refine wq_seq ?_
 refine wq_region_lit (.inl rfl) ?_
 refine r_box hst hsh trivial rfl rfl rfl ?_
 intro g1 a w2 hgg1 hsh hst
 refine r_t hst trivial rfl (x_assign hst rfl) ?_; intro a hst
 refine wpL_nil ?_
 refine then_normal ?_
 refine wq_seq ?_
 refine wq_region_lit (.inl rfl) ?_
 refine r_alloc hst hsh trivial rfl zr_25 ?_
 intro g3 a w4 hgg3 hsh hst
 refine wpL_nil ?_
 refine then_normal ?_
 obtain ⟨J_63, hJ_63, H⟩ := Jn.elim H
 refine wq_cut (fun a w' => ∃ (v_59 : Value), ∃ (l_60 : (List Place)), ∃ (bs_61 : (List Nat)), J_63 l_60 = some r ∧ ST (List.map Go.Proofs.Ytbbepmmelpabbaa.Sy.mark bs_61) Try.f19.ntmps a [(0, va0), (3, .pointer (some ⟨g1, 0, none⟩)), (4, (.slice none 0 0)), (5, .pointer (some ⟨g3, 0, none⟩))] ∧ SH (fun _ => False) w w' [Box g1 [.string a1] 9, Box g3 [v_59] 25, Row k_Place 41 v_59 l_60, Mks bs_61]) ?_ ?_
 · rintro a W_62 ⟨v_59, l_60, bs_61, H, hst, hsh⟩
   subst hJ_63
   dsimp only at H
   refine wq_seq ?_
   refine wq_seq ?_
   refine wq_region_lit (.inl rfl) ?_
   refine r_t hst trivial rfl (x_assign hst rfl) ?_; intro a hst
   refine wpL_nil ?_
   refine then_normal ?_
   refine wq_block ?_
   refine wq_loop_fuel (fun k_1031 a w' => ∃ (v_835 : Value), ∃ (l_836 : (List Place)), ∃ (i_837 : Int), version_Asks.l0 a0 a1 k_1031 l_836 i_837 = some r ∧ ST (List.map Go.Proofs.Ytbbepmmelpabbaa.Sy.mark bs_61) Try.f19.ntmps a [(0, va0), (3, .pointer (some ⟨g1, 0, none⟩)), (4, (.slice none 0 0)), (5, .pointer (some ⟨g3, 0, none⟩)), (8, .int .i64 i_837)] ∧ SH (fun _ => False) w w' [Box g1 [.string a1] 9, Box g3 [v_835] 25, Row k_Place 41 v_835 l_836, Mks bs_61]) k ?_ ?_
   · exact ⟨v_59, l_60, 1, H, hst.keep _ ⟨rfl, rfl, rfl, rfl, rfl, trivial⟩, hsh.pick [0, 0, 0, 0]⟩
   · rintro k_1031 a W_838 ⟨v_835, l_836, i_837, H, hst, hsh⟩
     cases k_1031 with
     | zero => rw [version_Asks.l0] at H; cases H
     | succ k_1031 =>
      rw [version_Asks.l0] at H
      refine wq_seq ?_
      refine wq_seq ?_
      refine wq_region_lit (.inl rfl) ?_
      refine r_t hst trivial rfl (x_move hst rfl) ?_; intro a hst
      refine r_t hst trivial rfl (x_move hst rfl) ?_; intro a hst
      refine r_t hst trivial rfl (x_lenSl hst Try.underlying23 rfl hra0.slen) ?_; intro a hst
      refine r_t hst trivial rfl (x_cmpI (b := decide (i_837 < (a0.length : Int))) hst rfl rfl rfl) ?_; intro a hst
      refine wpL_nil ?_
      refine then_normal ?_
      by_cases c1303 : (decide (i_837 < (a0.length : Int))) = true
      · rw [if_pos c1303] at H
        refine wq_condT hst rfl c1303 ?_
        refine wq_skip ?_
        refine then_normal ?_
        obtain ⟨J_1127, hJ_1127, H⟩ := Jn.elim H
        refine wq_cut (fun a w' => ∃ (v_1124 : Value), ∃ (l_1125 : (List Place)), J_1127 l_1125 = some r ∧ ST (List.map Go.Proofs.Ytbbepmmelpabbaa.Sy.mark bs_61) Try.f19.ntmps a [(0, va0), (3, .pointer (some ⟨g1, 0, none⟩)), (4, (.slice none 0 0)), (5, .pointer (some ⟨g3, 0, none⟩)), (8, .int .i64 i_837)] ∧ SH (fun _ => False) w w' [Box g1 [.string a1] 9, Box g3 [v_1124] 25, Row k_Place 41 v_1124 l_1125, Mks bs_61]) ?_ ?_
        · rintro a W_1126 ⟨v_1124, l_1125, H, hst, hsh⟩
          subst hJ_1127
          dsimp only at H
          refine wq_region_lit (.inl rfl) ?_
          refine r_t hst trivial rfl (x_move hst rfl) ?_; intro a hst
          refine r_t hst trivial rfl (x_arI (r := w64 (i_837 + 1)) hst rfl rfl rfl) ?_; intro a hst
          refine r_t hst trivial rfl (x_assign hst rfl) ?_; intro a hst
          refine wpL_nil ?_
          refine then_normal ?_
          exact ⟨k_1031, Nat.lt_succ_self _, v_1124, l_1125, (w64 (i_837 + 1)), H, hst.keep _ ⟨rfl, rfl, rfl, rfl, rfl, trivial⟩, hsh.pick [0, 0, 0, 0]⟩
        · refine wq_block ?_
          refine wq_seq ?_
          refine wq_region_lit (.inl rfl) ?_
          refine r_t hst trivial rfl (x_move hst rfl) ?_; intro a hst
          refine r_t hst trivial rfl (x_move hst rfl) ?_; intro a hst
          obtain ⟨r1411, hr1411, H⟩ := Option.bind_eq_some_iff.1 H
          refine r_callD hst trivial rfl fn_46 rfl (version_of.calls k_1031 _ _ _ _ (Same.sh0 hsa0 hsh) _ hra0 i_837 r1411 hr1411) ?_
          rintro e w1412 ⟨v1413, rfl, hc, hv1414⟩
          replace hsh := hsh.call0 hc
          clear hc
          refine ⟨_, rfl, fun a hst => ?_⟩
          refine r_alloc hst hsh trivial rfl zr_39 ?_
          intro g1415 a w1416 hgg1415 hsh hst
          refine r_storeB (i := 0) (cs' := [v1413]) hst hsh trivial sc_39 rfl rfl rfl rfl (one_slice hv1414.slen) rfl ?_; intro a w1417 hsh hst
          refine wpL_nil ?_
          refine then_normal ?_
          obtain ⟨J_1173, hJ_1173, H⟩ := Jn.elim H
          refine wq_cut (fun a w' => ∃ (i_1171 : Int), J_1173 i_1171 = some r ∧ ST (List.map Go.Proofs.Ytbbepmmelpabbaa.Sy.mark bs_61) Try.f19.ntmps a [(0, va0), (3, .pointer (some ⟨g1, 0, none⟩)), (4, (.slice none 0 0)), (5, .pointer (some ⟨g3, 0, none⟩)), (8, .int .i64 i_837), (9, .pointer (some ⟨g1415, 0, none⟩)), (10, .int .i64 i_1171)] ∧ SH (fun _ => False) w w' [Box g1 [.string a1] 9, Box g3 [v_835] 25, Row k_Place 41 v_835 l_836, Box g1415 [v1413] 39, Mks bs_61]) ?_ ?_
          · rintro a W_1172 ⟨i_1171, H, hst, hsh⟩
            subst hJ_1173
            dsimp only at H
            refine wq_seq ?_
            refine wq_region_q (.inl rfl) (fun w' => SH (fun _ => False) w w' [Box g1 [.string a1] 9, Box g3 [v_835] 25, Row k_Place 41 v_835 l_836, Box g1415 [v1413] 39, Mks bs_61]) (shut_sh _ _ _) hsh.drew fo (by kernel_rfl) ?_
            refine q_t hst trivial rfl (fun _ hsh => x_move hst rfl) ?_; intro a hst
            refine q_t hst trivial rfl (fun _ hsh => x_loadB (i := 3) hst hsh sc_39 rfl rfl rfl) ?_; intro a hst
            refine q_t hst trivial rfl (fun _ hsh => x_lenSl hst Try.underlying39 rfl hv1414.slen) ?_; intro a hst
            refine q_t hst trivial rfl (fun _ hsh => x_cmpI (b := decide (i_1171 < (r1411.length : Int))) hst rfl rfl rfl) ?_; intro a hst
            refine q_t hst trivial rfl (fun _ hsh => x_move hst rfl) ?_; intro a hst
            obtain ⟨J_1175, hJ_1175, H⟩ := Jn.elim H
            refine q_join 13 (fun a => ∃ (b_1174 : Bool), J_1175 b_1174 = some r ∧ ST (List.map Go.Proofs.Ytbbepmmelpabbaa.Sy.mark bs_61) Try.f19.ntmps a [(0, va0), (3, .pointer (some ⟨g1, 0, none⟩)), (4, (.slice none 0 0)), (5, .pointer (some ⟨g3, 0, none⟩)), (8, .int .i64 i_837), (9, .pointer (some ⟨g1415, 0, none⟩)), (10, .int .i64 i_1171), (57, .bool b_1174)]) ?_ ?_
            · rintro a ⟨b_1174, H, hst⟩
              subst hJ_1175
              dsimp only at H
              refine q_nil ?_
              intro w1462 hsh
              refine then_normal ?_
              by_cases c1463 : b_1174 = true
              · rw [if_pos c1463] at H
                refine wq_condT hst rfl c1463 ?_
                have hw1463_2 := hsh.row 2 rfl
                refine wq_region_t (.inl rfl) (.fin [(0, 0), (3, 1), (0, 2), (3, 3), (3, 4), (3, 5), (0, 6), (3, 7), (1, 8), (1, 9), (2, 10)]) (fun w' => SH (fun _ => False) w w' [Box g1 [.string a1] 9, Box g1415 [v1413] 39, Mks bs_61]) (fun w' => SH (fun _ => False) w w' [Box g1 [.string a1] 9, Box g3 [v_835] 25, Box g1415 [v1413] 39, Mks bs_61]) (fun w' => SH (fun _ => False) w w' [Box g1 [.string a1] 9, Box g3 [v_835] 25, Row k_Place 41 v_835 l_836, Box g1415 [v1413] 39, Mks bs_61]) (shut_sh _ _ _) (shut_sh _ _ _) (shut_sh _ _ _) (sub_sh [0, 1, 1] rfl) (sub_sh [0, 0, 1, 1] rfl) hsh.drew fo (by kernel_rfl) ?_
                refine t_fin ?_
                refine m_t hst trivial rfl (fun _ hsh => x_loadB (i := 1) hst hsh sc_25 rfl rfl rfl) ?_; intro a hst
                refine m_p hst trivial rfl (fun _ => x_move hst rfl) ?_; intro a hst
                refine m_t hst trivial rfl (fun _ hsh => x_loadB (i := 2) hst hsh sc_39 rfl rfl rfl) ?_; intro a hst
                refine m_p hst trivial rfl (fun _ => x_move hst rfl) ?_; intro a hst
                obtain ⟨x1464, hx1464, H⟩ := Option.bind_eq_some_iff.1 H
                refine m_p hst trivial rfl (fun _ => x_indexAddr hst Try.underlying39 el_43 rfl rfl hv1414 hx1464) ?_; intro a hst
                refine m_p hst trivial rfl (fun _ => x_fieldAddrE (n' := Int.toNat i_1171 * k_File.sz) hst fa_43_0 rfl rfl) ?_; intro a hst
                refine m_t hst trivial rfl (fun _ hsh => x_loadEF (j := 0) (cs := [.int .i64 x1464.Number, .int .i64 x1464.Size, .string x1464.Least, .string x1464.Limit, .int .u64 x1464.Low, .int .u64 x1464.High]) hst sc_3 rfl hv1414 (Same.sh0 hsa0 hsh) hx1464 rfl (fun _ h => h) rfl) ?_; intro a hst
                refine m_p hst trivial rfl (fun _ => x_build (cs := [.int .i64 i_837, .int .i64 x1464.Number]) hst rfl (by kernel_rfl)) ?_; intro a hst
                refine m_loud (.inl rfl) ?_
                intro w1465 hsh
                refine r_buildSlice (vs := [.agg #[.int .i64 i_837, .int .i64 x1464.Number]]) (cs := [.int .i64 i_837, .int .i64 x1464.Number]) hst hsh trivial rfl Try.underlying25 el_41 rfl rfl (by simp [Value.cells]) rfl rfl ?_
                intro g1466 a w1467 hgg1466 hsh hst
                refine m_on (MB := [Box g1 [.string a1] 9, Box g3 [v_835] 25, Box g1415 [v1413] 39, Mks bs_61]) [1, 1, 2, 2] [0, 0, 0, 0] rfl rfl hsh rfl (sub_sh [0, 1, 1] rfl) ?_
                refine m_loud (.inl rfl) ?_
                intro w1468 hsh
                replace hsh := hsh.pick [3, 0, 0, 0, 0, 0]
                obtain ⟨l1469, hl1469, H⟩ := Option.bind_eq_some_iff.1 H
                refine r_append1 (xx := (⟨i_837, x1464.Number⟩ : Place)) (C := []) (M := [Box g1 [.string a1] 9, Box g3 [v_835] 25, Box g1415 [v1413] 39, Mks bs_61]) hst hsh trivial rfl Try.underlying25 el_41 (by decide) (by decide) (by decide) rfl rfl (fun _ _ _ => rfl) hl1469 ?_
                intro v1470 a w1471 hsh hst
                refine m_on (MB := [Row k_Place 41 v1470 l1469, Box g1 [.string a1] 9, Box g3 [v_835] 25, Box g1415 [v1413] 39, Mks bs_61]) [0, 0, 0, 0, 0] [1, 1, 1, 1] rfl rfl hsh rfl (sub_sh [0, 1, 1] rfl) ?_
                refine m_loud (.inr rfl) ?_
                intro w1472 hsh
                refine r_storeB (i := 2) (cs' := [v1470]) hst hsh trivial sc_25 rfl rfl rfl rfl (one_slice (hsh.row 0 rfl).slen) rfl ?_; intro a w1473 hsh hst
                refine m_turn hsh (sub_sh [2, 2, 2] rfl) ?_
                refine m_nil ?_
                intro w1474 hsh
                refine qn_normal ?_
                refine block_normal ?_
                refine then_normal ?_
                exact ⟨v1470, l1469, H, hst.keep _ ⟨rfl, rfl, rfl, rfl, rfl, trivial⟩, hsh.pick [2, 0, 0, 1]⟩
              · rw [if_neg c1463] at H
                replace c1463 := Bool.eq_false_iff.2 c1463
                refine wq_condF hst rfl c1463 ?_
                refine wq_skip ?_
                refine block_normal ?_
                refine then_normal ?_
                exact ⟨v_835, l_836, H, hst.keep _ ⟨rfl, rfl, rfl, rfl, rfl, trivial⟩, hsh.pick [0, 0, 0, 1]⟩
            · intro hj
              by_cases c1460 : (decide (i_1171 < (r1411.length : Int))) = true
              · rw [if_pos c1460] at H
                refine q_t hst (wt_of 49 rfl rfl c1460) rfl (fun _ hsh => x_loadB (i := 3) hst hsh sc_39 rfl rfl rfl) ?_; intro a hst
                refine q_t hst (wt_of 49 rfl rfl c1460) rfl (fun _ hsh => x_move hst rfl) ?_; intro a hst
                obtain ⟨x1475, hx1475, H⟩ := Option.bind_eq_some_iff.1 H
                refine q_t hst (wt_of 49 rfl rfl c1460) rfl (fun _ hsh => x_indexAddr hst Try.underlying39 el_43 rfl rfl hv1414 hx1475) ?_; intro a hst
                refine q_t hst (wt_of 49 rfl rfl c1460) rfl (fun _ hsh => x_fieldAddrE (n' := Int.toNat i_1171 * k_File.sz + 2) hst fa_43_2 rfl rfl) ?_; intro a hst
                refine q_t hst (wt_of 49 rfl rfl c1460) rfl (fun _ hsh => x_loadEF (j := 2) (cs := [.int .i64 x1475.Number, .int .i64 x1475.Size, .string x1475.Least, .string x1475.Limit, .int .u64 x1475.Low, .int .u64 x1475.High]) hst sc_9 rfl hv1414 (Same.sh0 hsa0 hsh) hx1475 rfl (fun _ h => h) rfl) ?_; intro a hst
                refine q_t hst (wt_of 49 rfl rfl c1460) rfl (fun _ hsh => x_loadB (i := 0) hst hsh sc_9 rfl rfl rfl) ?_; intro a hst
                refine q_t hst (wt_of 49 rfl rfl c1460) rfl (fun _ hsh => x_cmpS (b := (sLt x1475.Least a1 || sEq x1475.Least a1)) hst rfl rfl rfl) ?_; intro a hst
                refine q_t hst trivial rfl (fun _ hsh => x_pickT hst rfl c1460 rfl) ?_; intro a hst
                exact hj _ ⟨(sLt x1475.Least a1 || sEq x1475.Least a1), H, hst.keep _ ⟨rfl, rfl, rfl, rfl, rfl, rfl, rfl, rfl, trivial⟩⟩
              · rw [if_neg c1460] at H
                replace c1460 := Bool.eq_false_iff.2 c1460
                refine q_not hst 49 rfl rfl c1460 rfl ?_; intro a hst
                refine q_not hst 49 rfl rfl c1460 rfl ?_; intro a hst
                refine q_not hst 49 rfl rfl c1460 rfl ?_; intro a hst
                refine q_not hst 49 rfl rfl c1460 rfl ?_; intro a hst
                refine q_not hst 49 rfl rfl c1460 rfl ?_; intro a hst
                refine q_not hst 49 rfl rfl c1460 rfl ?_; intro a hst
                refine q_not hst 49 rfl rfl c1460 rfl ?_; intro a hst
                refine q_t hst trivial rfl (fun _ hsh => x_pickF hst rfl c1460 rfl) ?_; intro a hst
                exact hj _ ⟨false, H, hst.keep _ ⟨rfl, rfl, rfl, rfl, rfl, rfl, rfl, rfl, trivial⟩⟩
          · refine wq_region_lit (.inl rfl) ?_
            refine r_t hst trivial rfl (x_loadB (i := 0) hst hsh sc_39 rfl rfl rfl) ?_; intro a hst
            refine r_t hst trivial rfl (x_lenSl hst Try.underlying39 rfl hv1414.slen) ?_; intro a hst
            refine r_t hst trivial rfl (x_makeFunc hst rfl) ?_; intro a hst
            refine r_inl hst trivial rfl fn_49 rfl ?_
            refine calls_enter Try.func49 rfl rfl ?_
            intro a hst
            refine wq_seq ?_
            refine wq_region_lit (.inl rfl) ?_
            refine r_t hst trivial rfl (x_assign hst rfl) ?_; intro a hst
            refine wpL_nil ?_
            refine then_normal ?_
            refine wq_seq ?_
            refine wq_region_lit (.inl rfl) ?_
            refine r_t hst trivial rfl (x_move hst rfl) ?_; intro a hst
            refine r_t hst trivial rfl (x_assign hst rfl) ?_; intro a hst
            refine r_t hst trivial rfl (x_assign hst rfl) ?_; intro a hst
            refine wpL_nil ?_
            refine then_normal ?_
            obtain ⟨J_1199, hJ_1199, H⟩ := Jn.elim H
            refine wq_cut (fun a w' => ∃ (i_1197 : Int), J_1199 i_1197 = some r ∧ ST [] Try.f49.ntmps a [(4, .int .i64 0), (5, .int .i64 i_1197)] ∧ SH (fun _ => False) w w' [Box g1 [.string a1] 9, Box g3 [v_835] 25, Row k_Place 41 v_835 l_836, Box g1415 [v1413] 39, Mks bs_61]) ?_ ?_
            · rintro a W_1198 ⟨i_1197, H, hst, hsh⟩
              subst hJ_1199
              dsimp only at H
              refine wq_seq ?_
              refine wq_region_lit (.inl rfl) ?_
              refine r_t hst trivial rfl (x_move hst rfl) ?_; intro a hst
              refine r_t hst trivial rfl (x_assign hst rfl) ?_; intro a hst
              refine wpL_nil ?_
              refine then_normal ?_
              refine wq_ret ?_
              refine ret1 hst rfl rfl ?_
              refine ⟨_, rfl, fun a hst => ?_⟩
              refine r_t hst trivial rfl (x_assign hst rfl) ?_; intro a hst
              refine wpL_nil ?_
              refine then_normal ?_
              exact ⟨i_1197, H, hst.keep _ ⟨rfl, rfl, rfl, rfl, rfl, rfl, rfl, trivial⟩, hsh.pick [0, 0, 0, 0, 0]⟩
            · refine wq_block ?_
              refine wq_loop_fuel (fun k_1216 a w' => ∃ (i_1207 : Int), ∃ (i_1208 : Int), version_Asks.l1 a1 r1411 J_1199 k_1216 i_1207 i_1208 = some r ∧ ST [] Try.f49.ntmps a [(1, .func (.func 50) #[] #[.pointer (some ⟨g1415, 0, none⟩), .pointer (some ⟨g1, 0, none⟩)]), (4, .int .i64 0), (5, .int .i64 i_1207), (6, .int .i64 i_1208)] ∧ SH (fun _ => False) w w' [Box g1415 [v1413] 39, Box g1 [.string a1] 9, Box g3 [v_835] 25, Row k_Place 41 v_835 l_836, Mks bs_61]) k_1031 ?_ ?_
              · exact ⟨0, (r1411.length : Int), H, hst.keep _ ⟨rfl, rfl, rfl, rfl, trivial⟩, hsh.pick [0, 0, 0, 0, 0]⟩
              · rintro k_1216 a W_1209 ⟨i_1207, i_1208, H, hst, hsh⟩
                cases k_1216 with
                | zero => rw [version_Asks.l1] at H; cases H
                | succ k_1216 =>
                 rw [version_Asks.l1] at H
                 refine wq_seq ?_
                 refine wq_seq ?_
                 refine wq_region_lit (.inl rfl) ?_
                 refine r_t hst trivial rfl (x_move hst rfl) ?_; intro a hst
                 refine r_t hst trivial rfl (x_move hst rfl) ?_; intro a hst
                 refine r_t hst trivial rfl (x_cmpI (b := decide (i_1207 < i_1208)) hst rfl rfl rfl) ?_; intro a hst
                 refine wpL_nil ?_
                 refine then_normal ?_
                 by_cases c1512 : (decide (i_1207 < i_1208)) = true
                 · rw [if_pos c1512] at H
                   refine wq_condT hst rfl c1512 ?_
                   refine wq_skip ?_
                   refine then_normal ?_
                   refine wq_block ?_
                   refine wq_seq ?_
                   refine wq_region_lit (.inl rfl) ?_
                   refine r_t hst trivial rfl (x_move hst rfl) ?_; intro a hst
                   refine r_t hst trivial rfl (x_move hst rfl) ?_; intro a hst
                   refine r_t hst trivial rfl (x_arI (r := w64 (i_1207 + i_1208)) hst rfl rfl rfl) ?_; intro a hst
                   refine r_t hst trivial rfl (x_convI hst Try.underlying3 Try.underlying88 rfl) ?_; intro a hst
                   refine r_t hst trivial rfl (x_shr hst rfl rfl (by decide) (by decide)) ?_; intro a hst
                   refine r_t hst trivial rfl (x_convI hst Try.underlying88 Try.underlying3 rfl) ?_; intro a hst
                   refine r_t hst trivial rfl (x_assign hst rfl) ?_; intro a hst
                   refine wpL_nil ?_
                   refine then_normal ?_
                   obtain ⟨J_1219, hJ_1219, H⟩ := Jn.elim H
                   refine wq_cut (fun a w' => ∃ (b_1217 : Bool), J_1219 b_1217 = some r ∧ ST [] Try.f49.ntmps a [(1, .func (.func 50) #[] #[.pointer (some ⟨g1415, 0, none⟩), .pointer (some ⟨g1, 0, none⟩)]), (4, .int .i64 0), (5, .int .i64 i_1207), (6, .int .i64 i_1208), (7, .int .i64 (w64 ((wu64 (w64 (i_1207 + i_1208))) / 2 ^ (Int.toNat 1)))), (21, .bool b_1217)] ∧ SH (fun _ => False) w w' [Box g1415 [v1413] 39, Box g1 [.string a1] 9, Box g3 [v_835] 25, Row k_Place 41 v_835 l_836, Mks bs_61]) ?_ ?_
                   · rintro a W_1218 ⟨b_1217, H, hst, hsh⟩
                     subst hJ_1219
                     dsimp only at H
                     by_cases c1515 : b_1217 = true
                     · rw [if_pos c1515] at H
                       refine wq_condT hst rfl c1515 ?_
                       refine wq_region_lit (.inl rfl) ?_
                       refine r_t hst trivial rfl (x_move hst rfl) ?_; intro a hst
                       refine r_t hst trivial rfl (x_arI (r := w64 ((w64 ((wu64 (w64 (i_1207 + i_1208))) / 2 ^ (Int.toNat 1))) + 1)) hst rfl rfl rfl) ?_; intro a hst
                       refine r_t hst trivial rfl (x_assign hst rfl) ?_; intro a hst
                       refine wpL_nil ?_
                       refine block_normal ?_
                       refine then_normal ?_
                       exact ⟨k_1216, Nat.lt_succ_self _, (w64 ((w64 ((wu64 (w64 (i_1207 + i_1208))) / 2 ^ (Int.toNat 1))) + 1)), i_1208, H, hst.keep _ ⟨rfl, rfl, rfl, rfl, trivial⟩, hsh.pick [0, 0, 0, 0, 0]⟩
                     · rw [if_neg c1515] at H
                       replace c1515 := Bool.eq_false_iff.2 c1515
                       refine wq_condF hst rfl c1515 ?_
                       refine wq_region_lit (.inl rfl) ?_
                       refine r_t hst trivial rfl (x_move hst rfl) ?_; intro a hst
                       refine r_t hst trivial rfl (x_assign hst rfl) ?_; intro a hst
                       refine wpL_nil ?_
                       refine block_normal ?_
                       refine then_normal ?_
                       exact ⟨k_1216, Nat.lt_succ_self _, i_1207, (w64 ((wu64 (w64 (i_1207 + i_1208))) / 2 ^ (Int.toNat 1))), H, hst.keep _ ⟨rfl, rfl, rfl, rfl, trivial⟩, hsh.pick [0, 0, 0, 0, 0]⟩
                   · refine wq_region_lit (.inl rfl) ?_
                     refine r_t hst trivial rfl (x_move hst rfl) ?_; intro a hst
                     refine r_t hst trivial rfl (x_move hst rfl) ?_; intro a hst
                     refine r_inlV hst trivial rfl rfl fn_50 rfl ?_
                     refine calls_enter Try.func50 rfl rfl ?_
                     intro a hst
                     refine wq_seq ?_
                     refine wq_region_lit (.inl rfl) ?_
                     refine r_t hst trivial rfl (x_assign hst rfl) ?_; intro a hst
                     refine wpL_nil ?_
                     refine then_normal ?_
                     refine wq_seq ?_
                     refine wq_region_q (.inl rfl) (fun w' => SH (fun _ => False) w w' [Box g1415 [v1413] 39, Box g1 [.string a1] 9, Box g3 [v_835] 25, Row k_Place 41 v_835 l_836, Mks bs_61]) (shut_sh _ _ _) hsh.drew fo (by kernel_rfl) ?_
                     refine q_t hst trivial rfl (fun _ hsh => x_loadB (i := 0) hst hsh sc_39 rfl rfl rfl) ?_; intro a hst
                     refine q_t hst trivial rfl (fun _ hsh => x_move hst rfl) ?_; intro a hst
                     obtain ⟨x1516, hx1516, H⟩ := Option.bind_eq_some_iff.1 H
                     refine q_t hst trivial rfl (fun _ hsh => x_indexAddr hst Try.underlying39 el_43 rfl rfl hv1414 hx1516) ?_; intro a hst
                     refine q_t hst trivial rfl (fun _ hsh => x_fieldAddrE (n' := Int.toNat (w64 ((wu64 (w64 (i_1207 + i_1208))) / 2 ^ (Int.toNat 1))) * k_File.sz + 3) hst fa_43_3 rfl rfl) ?_; intro a hst
                     refine q_t hst trivial rfl (fun _ hsh => x_loadEF (j := 3) (cs := [.int .i64 x1516.Number, .int .i64 x1516.Size, .string x1516.Least, .string x1516.Limit, .int .u64 x1516.Low, .int .u64 x1516.High]) hst sc_9 rfl hv1414 (Same.sh0 hsa0 hsh) hx1516 rfl (fun _ h => h) rfl) ?_; intro a hst
                     refine q_t hst trivial rfl (fun _ hsh => x_loadB (i := 1) hst hsh sc_9 rfl rfl rfl) ?_; intro a hst
                     refine q_t hst trivial rfl (fun _ hsh => x_cmpS (b := (!(sLt x1516.Limit a1 || sEq x1516.Limit a1))) hst rfl rfl rfl) ?_; intro a hst
                     refine q_t hst trivial rfl (fun _ hsh => x_assign hst rfl) ?_; intro a hst
                     refine q_nil ?_
                     intro w1517 hsh
                     refine then_normal ?_
                     refine wq_ret ?_
                     refine ret1 hst rfl rfl ?_
                     refine ⟨_, rfl, fun a hst => ?_⟩
                     refine r_t hst trivial rfl (x_notB hst rfl) ?_; intro a hst
                     refine wpL_nil ?_
                     refine then_normal ?_
                     exact ⟨(!(!(sLt x1516.Limit a1 || sEq x1516.Limit a1))), H, hst.keep _ ⟨rfl, rfl, rfl, rfl, rfl, rfl, trivial⟩, hsh.pick [0, 0, 0, 0, 0]⟩
                 · rw [if_neg c1512] at H
                   replace c1512 := Bool.eq_false_iff.2 c1512
                   refine wq_condF hst rfl c1512 ?_
                   refine wq_exit ?_
                   refine then_exit ?_
                   refine then_exit ?_
                   refine block_hit ?_
                   refine then_normal ?_
                   exact ⟨i_1207, H, hst.keep _ ⟨rfl, rfl, trivial⟩, hsh.pick [1, 1, 1, 0, 0]⟩
      · rw [if_neg c1303] at H
        replace c1303 := Bool.eq_false_iff.2 c1303
        refine wq_condF hst rfl c1303 ?_
        refine wq_exit ?_
        refine then_exit ?_
        refine then_exit ?_
        refine block_hit ?_
        refine then_normal ?_
        refine wq_seq ?_
        refine wq_region_lit (.inl rfl) ?_
        refine r_t hst trivial rfl (x_loadB (i := 1) hst hsh sc_25 rfl rfl rfl) ?_; intro a hst
        refine r_t hst trivial rfl (x_assign hst rfl) ?_; intro a hst
        refine wpL_nil ?_
        refine then_normal ?_
        refine wq_ret ?_
        refine retM (.inl rfl) hst hsh 3 rfl ?_; intro a w hst hsh
        obtain rfl := Option.some.inj H
        exact ret1 hst rfl rfl ⟨v_835, rfl, hsh.pick [2]⟩
 · refine wq_seq ?_
   refine wq_region_lit (.inl rfl) ?_
   refine r_t hst trivial rfl (x_move hst rfl) ?_; intro a hst
   obtain ⟨r1524, hr1524, H⟩ := Option.bind_eq_some_iff.1 H
   refine r_callD hst trivial rfl fn_46 rfl (version_of.calls k _ _ _ _ (Same.sh0 hsa0 hsh) _ hra0 0 r1524 hr1524) ?_
   rintro e w1525 ⟨v1526, rfl, hc, hv1527⟩
   replace hsh := hsh.call0 hc
   clear hc
   refine ⟨_, rfl, fun a hst => ?_⟩
   refine r_inl hst trivial rfl fn_48 rfl ?_
   refine calls_enter Try.func48 rfl rfl ?_
   intro a hst
   refine wq_seq ?_
   refine wq_region_lit (.inl rfl) ?_
   refine r_box hst hsh trivial rfl rfl (cells_slen hv1527.slen) ?_
   intro g1528 a w1529 hgg1528 hsh hst
   refine r_t hst trivial rfl (x_assign hst rfl) ?_; intro a hst
   refine wpL_nil ?_
   refine then_normal ?_
   refine wq_seq ?_
   refine wq_region_lit (.inl rfl) ?_
   refine r_t hst trivial rfl (x_makeFunc hst rfl) ?_; intro a hst
   refine r_t hst trivial rfl (x_assign hst rfl) ?_; intro a hst
   refine wpL_nil ?_
   refine then_normal ?_
   refine wq_ret ?_
   refine ret1 hst rfl rfl ?_
   refine ⟨_, rfl, fun a hst => ?_⟩
   refine wpL_nil ?_
   refine then_normal ?_
   refine wq_block ?_
   replace hsh := hsh.pick [3, 0, 0, 0]
   refine wq_rangeFunc hst hsh rfl fn_64 ?_
   intro l1530 g1531 r1532 w1533 hpr1532 har1532 hbr1532 htr1532 hsh
   refine calls_enter Try.func64 rfl rfl ?_
   intro a hst
   refine wq_seq ?_
   refine wq_region_lit (.inl rfl) ?_
   refine r_t hst trivial rfl (x_loadB (i := 2) hst hsh sc_39 rfl rfl rfl) ?_; intro a hst
   refine r_t hst trivial rfl (x_lenSl hst Try.underlying39 rfl hv1527.slen) ?_; intro a hst
   refine r_t hst trivial rfl (x_arI (r := w64 ((r1524.length : Int) - 1)) hst rfl rfl rfl) ?_; intro a hst
   refine r_t hst trivial rfl (x_assign hst rfl) ?_; intro a hst
   refine wpL_nil ?_
   refine then_normal ?_
   refine wq_block ?_
   have hsh := hsh.addNil k_Place 41
   refine wq_loop_fuel (fun k_1263 a w' => ∃ (i_1241 : Int), ∃ (v_1243 : Value), ∃ (l_1244 : (List Place)), version_Asks.l2 a1 J_63 r1524 k_1263 i_1241 l_1244 = some r ∧ ST [] Try.f64.ntmps a [(0, .func (.yield l1530) #[] #[]), (1, .pointer (some ⟨g1528, 0, none⟩)), (3, .int .i64 i_1241)] ∧ SH (fun _ => False) w w' [Box g1528 [v1526] 39, Box g1 [.string a1] 9, Box g3 [v_1243] 25, Row k_Place 41 v_1243 l_1244, Blk l1530 (.loop (lrec r1532 .ready none)), Mks (g1531 :: [])]) k ?_ ?_
   · exact ⟨(w64 ((r1524.length : Int) - 1)), (.slice none 0 0), ([]), H, hst.keep _ ⟨rfl, rfl, rfl, trivial⟩, hsh.pick [3, 4, 3, 0, 0, 0]⟩
   · rintro k_1263 a W_1245 ⟨i_1241, v_1243, l_1244, H, hst, hsh⟩
     cases k_1263 with
     | zero => rw [version_Asks.l2] at H; cases H
     | succ k_1263 =>
      rw [version_Asks.l2] at H
      refine wq_seq ?_
      refine wq_seq ?_
      refine wq_region_lit (.inl rfl) ?_
      refine r_t hst trivial rfl (x_move hst rfl) ?_; intro a hst
      refine r_t hst trivial rfl (x_cmpI (b := decide (0 ≤ i_1241)) hst rfl rfl rfl) ?_; intro a hst
      refine wpL_nil ?_
      refine then_normal ?_
      by_cases c1669 : (decide (0 ≤ i_1241)) = true
      · rw [if_pos c1669] at H
        refine wq_condT hst rfl c1669 ?_
        refine wq_skip ?_
        refine then_normal ?_
        obtain ⟨J_1271, hJ_1271, H⟩ := Jn.elim H
        refine wq_cut (fun a w' => ∃ (v_1268 : Value), ∃ (l_1269 : (List Place)), J_1271 l_1269 = some r ∧ ST [] Try.f64.ntmps a [(0, .func (.yield l1530) #[] #[]), (1, .pointer (some ⟨g1528, 0, none⟩)), (3, .int .i64 i_1241)] ∧ SH (fun _ => False) w w' [Box g1528 [v1526] 39, Box g1 [.string a1] 9, Box g3 [v_1268] 25, Row k_Place 41 v_1268 l_1269, Blk l1530 (.loop (lrec r1532 .ready none)), Mks (g1531 :: [])]) ?_ ?_
        · rintro a W_1270 ⟨v_1268, l_1269, H, hst, hsh⟩
          subst hJ_1271
          dsimp only at H
          refine wq_region_lit (.inl rfl) ?_
          refine r_t hst trivial rfl (x_move hst rfl) ?_; intro a hst
          refine r_t hst trivial rfl (x_arI (r := w64 (i_1241 - 1)) hst rfl rfl rfl) ?_; intro a hst
          refine r_t hst trivial rfl (x_assign hst rfl) ?_; intro a hst
          refine wpL_nil ?_
          refine then_normal ?_
          exact ⟨k_1263, Nat.lt_succ_self _, (w64 (i_1241 - 1)), v_1268, l_1269, H, hst.keep _ ⟨rfl, rfl, rfl, trivial⟩, hsh.pick [0, 0, 0, 0, 0, 0]⟩
        · refine wq_block ?_
          obtain ⟨J_1275, hJ_1275, H⟩ := Jn.elim H
          refine wq_cut (fun a w' => ∃ (v_1272 : Value), ∃ (l_1273 : (List Place)), J_1275 l_1273 = some r ∧ ST [] Try.f64.ntmps a [(0, .func (.yield l1530) #[] #[]), (1, .pointer (some ⟨g1528, 0, none⟩)), (3, .int .i64 i_1241), (18, .bool (!true))] ∧ SH (fun _ => False) w w' [Box g1528 [v1526] 39, Box g1 [.string a1] 9, Box g3 [v_1272] 25, Row k_Place 41 v_1272 l_1273, Blk l1530 (.loop (lrec r1532 .ready none)), Mks (g1531 :: [])]) ?_ ?_
          · rintro a W_1274 ⟨v_1272, l_1273, H, hst, hsh⟩
            subst hJ_1275
            dsimp only at H
            by_cases c1716 : (!true) = true
            · rw [if_pos c1716] at H
              refine wq_condT hst rfl c1716 ?_
              refine wq_ret ?_
              refine block_ret ?_
              refine then_ret ?_
              refine then_ret ?_
              refine block_ret ?_
              refine ret0 hst rfl ?_
              refine ⟨_, rfl, loop_end hsh 4 rfl (by decide) ?_⟩
              intro w1717 hsh a hst
              dsimp only
              refine block_normal ?_
              refine then_normal ?_
              exact ⟨v_1272, l_1273, (g1531 :: []), H, hst.keep _ ⟨rfl, rfl, rfl, rfl, trivial⟩, hsh.pick [1, 1, 1, 1]⟩
            · rw [if_neg c1716] at H
              replace c1716 := Bool.eq_false_iff.2 c1716
              refine wq_condF hst rfl c1716 ?_
              refine wq_skip ?_
              refine block_normal ?_
              refine then_normal ?_
              exact ⟨v_1272, l_1273, H, hst.keep _ ⟨rfl, rfl, rfl, trivial⟩, hsh.pick [0, 0, 0, 0, 0, 0]⟩
          · refine wq_region_lit (.inl rfl) ?_
            refine r_t hst trivial rfl (x_move hst rfl) ?_; intro a hst
            refine r_t hst trivial rfl (x_move hst rfl) ?_; intro a hst
            refine r_t hst trivial rfl (x_loadB (i := 0) hst hsh sc_39 rfl rfl rfl) ?_; intro a hst
            refine r_t hst trivial rfl (x_move hst rfl) ?_; intro a hst
            obtain ⟨x1718, hx1718, H⟩ := Option.bind_eq_some_iff.1 H
            refine r_t hst trivial rfl (x_indexAddr hst Try.underlying39 el_43 rfl rfl hv1527 hx1718) ?_; intro a hst
            refine r_t hst trivial rfl (x_loadEsF (j := 0) (cs := [.int .i64 x1718.Number, .int .i64 x1718.Size, .string x1718.Least, .string x1718.Limit, .int .u64 x1718.Low, .int .u64 x1718.High]) (ps := [.int .i64 x1718.Number, .int .i64 x1718.Size, .string x1718.Least, .string x1718.Limit, .int .u64 x1718.Low, .int .u64 x1718.High]) hst ag_43 rfl hv1527 (Same.sh0 hsa0 hsh) hx1718 rfl (fun _ h => h) rfl) ?_; intro a hst
            refine r_yield hst trivial rfl hsh hpr1532 har1532 hbr1532 htr1532 rfl rfl 4 rfl rfl ?_
            intro a hst
            refine wq_region_lit (.inr (by kernel_rfl)) ?_
            refine r_alloc hst hsh trivial rfl zr_43 ?_
            intro g1719 a w1720 hgg1719 hsh hst
            refine r_storeBs (i := 0) (cs' := [.int .i64 x1718.Number, .int .i64 x1718.Size, .string x1718.Least, .string x1718.Limit, .int .u64 x1718.Low, .int .u64 x1718.High]) (vs := [.int .i64 x1718.Number, .int .i64 x1718.Size, .string x1718.Least, .string x1718.Limit, .int .u64 x1718.Low, .int .u64 x1718.High]) hst hsh trivial ag_43 rfl rfl rfl rfl rfl rfl ?_; intro a w1721 hsh hst
            refine wpL_nil ?_
            refine then_normal ?_
            refine round_begin hsh 5 rfl ?_
            intro w1722 hsh
            refine wq_block ?_
            refine wq_seq ?_
            refine wq_region_lit (.inr (by kernel_rfl)) ?_
            refine r_t hst trivial rfl (x_fieldAddr (j' := 2) hst fa_43_2 rfl rfl) ?_; intro a hst
            refine r_t hst trivial rfl (x_loadB (i := 1) hst hsh sc_9 rfl rfl rfl) ?_; intro a hst
            refine r_t hst trivial rfl (x_loadB (i := 3) hst hsh sc_9 rfl rfl rfl) ?_; intro a hst
            refine r_t hst trivial rfl (x_cmpS (b := (sLt x1718.Least a1 || sEq x1718.Least a1)) hst rfl rfl rfl) ?_; intro a hst
            refine r_t hst trivial rfl (x_move hst rfl) ?_; intro a hst
            refine wl_join0 (Δ := []) (N := Try.f19.ntmps) 10 [(5, .pointer (some ⟨g3, 0, none⟩)), (7, .pointer (some ⟨g1719, 0, none⟩)), (25, .bool ((sLt x1718.Least a1 || sEq x1718.Least a1) && (sLt a1 x1718.Limit)))] ?_ ?_
            · intro a hst
              refine wpL_nil ?_
              refine then_normal ?_
              by_cases c1724 : ((sLt x1718.Least a1 || sEq x1718.Least a1) && (sLt a1 x1718.Limit)) = true
              · rw [if_pos c1724] at H
                refine wq_condT hst rfl c1724 ?_
                refine wq_region_lit (.inr (by kernel_rfl)) ?_
                refine r_t hst trivial rfl (x_loadB (i := 4) hst hsh sc_25 rfl rfl rfl) ?_; intro a hst
                refine r_t hst trivial rfl (x_fieldAddr (j' := 0) hst fa_43_0 rfl rfl) ?_; intro a hst
                refine r_t hst trivial rfl (x_loadB (i := 1) hst hsh sc_3 rfl rfl rfl) ?_; intro a hst
                refine r_t hst trivial rfl (x_build (cs := [.int .i64 0, .int .i64 x1718.Number]) hst rfl (by kernel_rfl)) ?_; intro a hst
                refine r_buildSlice (vs := [.agg #[.int .i64 0, .int .i64 x1718.Number]]) (cs := [.int .i64 0, .int .i64 x1718.Number]) hst hsh trivial rfl Try.underlying25 el_41 rfl rfl (by simp [Value.cells]) rfl rfl ?_
                intro g1725 a w1726 hgg1725 hsh hst
                replace hsh := hsh.pick [6, 0, 0, 0, 0, 0, 0, 0]
                obtain ⟨l1727, hl1727, H⟩ := Option.bind_eq_some_iff.1 H
                refine r_append1 (xx := (⟨0, x1718.Number⟩ : Place)) (C := []) (M := [Blk l1530 (.loop (lrec r1532 .busy none)), Box g1719 [.int .i64 x1718.Number, .int .i64 x1718.Size, .string x1718.Least, .string x1718.Limit, .int .u64 x1718.Low, .int .u64 x1718.High] 43, Box g1528 [v1526] 39, Box g1 [.string a1] 9, Box g3 [v_1243] 25, Mks (g1531 :: [])]) hst hsh trivial rfl Try.underlying25 el_41 (by decide) (by decide) (by decide) rfl rfl (fun _ _ _ => rfl) hl1727 ?_
                intro v1728 a w1729 hsh hst
                refine r_storeB (i := 5) (cs' := [v1728]) hst hsh trivial sc_25 rfl rfl rfl rfl (one_slice (hsh.row 0 rfl).slen) rfl ?_; intro a w1730 hsh hst
                refine wpL_nil ?_
                refine block_normal ?_
                refine round_end hsh 2 rfl ?_
                intro w1731 hsh
                refine ⟨_, rfl, fun a hst => ?_⟩
                refine r_t hst trivial rfl (x_notB hst rfl) ?_; intro a hst
                refine wpL_nil ?_
                refine then_normal ?_
                exact ⟨v1728, l1727, H, hst.keep _ ⟨rfl, rfl, rfl, rfl, trivial⟩, hsh.pick [4, 4, 1, 1, 0, 1]⟩
              · rw [if_neg c1724] at H
                replace c1724 := Bool.eq_false_iff.2 c1724
                refine wq_condF hst rfl c1724 ?_
                refine wq_skip ?_
                refine block_normal ?_
                refine round_end hsh 0 rfl ?_
                intro w1732 hsh
                refine ⟨_, rfl, fun a hst => ?_⟩
                refine r_t hst trivial rfl (x_notB hst rfl) ?_; intro a hst
                refine wpL_nil ?_
                refine then_normal ?_
                exact ⟨v_1243, l_1244, H, hst.keep _ ⟨rfl, rfl, rfl, rfl, trivial⟩, hsh.pick [2, 2, 2, 2, 0, 1]⟩
            · intro hj
              by_cases c1723 : (sLt x1718.Least a1 || sEq x1718.Least a1) = true
              · refine r_t hst (wt_of 20 rfl rfl c1723) rfl (x_loadB (i := 3) hst hsh sc_9 rfl rfl rfl) ?_; intro a hst
                refine r_t hst (wt_of 20 rfl rfl c1723) rfl (x_fieldAddr (j' := 3) hst fa_43_3 rfl rfl) ?_; intro a hst
                refine r_t hst (wt_of 20 rfl rfl c1723) rfl (x_loadB (i := 1) hst hsh sc_9 rfl rfl rfl) ?_; intro a hst
                refine r_t hst (wt_of 20 rfl rfl c1723) rfl (x_cmpS (b := sLt a1 x1718.Limit) hst rfl rfl rfl) ?_; intro a hst
                refine r_t hst trivial rfl (x_andT hst rfl c1723 rfl) ?_; intro a hst
                exact hj _ (hst.keep _ ⟨rfl, rfl, rfl, trivial⟩)
              · replace c1723 := Bool.eq_false_iff.2 c1723
                refine r_not hst 20 rfl rfl c1723 rfl ?_; intro a hst
                refine r_not hst 20 rfl rfl c1723 rfl ?_; intro a hst
                refine r_not hst 20 rfl rfl c1723 rfl ?_; intro a hst
                refine r_not hst 20 rfl rfl c1723 rfl ?_; intro a hst
                refine r_t hst trivial rfl (x_andF (sLt a1 x1718.Limit) hst rfl c1723 rfl) ?_; intro a hst
                exact hj _ (hst.keep _ ⟨rfl, rfl, rfl, trivial⟩)
      · rw [if_neg c1669] at H
        replace c1669 := Bool.eq_false_iff.2 c1669
        refine wq_condF hst rfl c1669 ?_
        refine wq_exit ?_
        refine then_exit ?_
        refine then_exit ?_
        refine block_hit ?_
        refine end0 hst rfl ?_
        refine ⟨_, rfl, loop_end hsh 4 rfl (by decide) ?_⟩
        intro w1733 hsh a hst
        dsimp only
        refine block_normal ?_
        refine then_normal ?_
        exact ⟨v_1243, l_1244, (g1531 :: []), H, hst.keep _ ⟨rfl, rfl, rfl, rfl, trivial⟩, hsh.pick [1, 1, 1, 1]⟩

set_option maxHeartbeats 4000000 in
set_option maxRecDepth 100000 in
theorem l16_one.calls (k : Nat) (w : World)  (r : Bool) (h : l16_one k = some r) :
    Calls Try.prog 21 ([] : List Value).toArray w fun e w' => e = .returned (.bool r) ∧ SH (fun _ => False) w w' [] := by
 have H := h
 clear h
 unfold l16_one at H
 refine calls_enter Try.func21 rfl rfl ?_
 intro a hst
 have hsh := SH.zero (fun _ => False) w
 refine wq_seq ?_
 refine wq_region_lit (.inl rfl) ?_
 refine r_t hst trivial rfl (x_assign hst rfl) ?_; intro a hst
 refine wpL_nil ?_
 refine then_normal ?_
 refine wq_seq ?_
 refine wq_region_lit (.inl rfl) ?_
 refine r_t hst trivial rfl (x_build (cs := [.int .i64 3, .int .i64 9, .string (ByteArray.mk #[97]), .string (ByteArray.mk #[99]), .int .u64 1, .int .u64 1]) hst rfl (by kernel_rfl)) ?_; intro a hst
 refine r_buildSlice (vs := [.agg #[.int .i64 3, .int .i64 9, .string (ByteArray.mk #[97]), .string (ByteArray.mk #[99]), .int .u64 1, .int .u64 1]]) (cs := [.int .i64 3, .int .i64 9, .string (ByteArray.mk #[97]), .string (ByteArray.mk #[99]), .int .u64 1, .int .u64 1]) hst hsh trivial rfl Try.underlying39 el_43 rfl rfl (by simp [Value.cells]) rfl rfl ?_
 intro g1 a w2 hgg1 hsh hst
 replace hsh := hsh.pick [0]
 replace hsh : SH (fun _ => False) w w2 [Row k_File 43 (.slice (some ⟨g1, 0, none⟩) 1 1) ([(⟨3, 9, (ByteArray.mk #[97]), (ByteArray.mk #[99]), 1, 1⟩ : File)])] := SH.boxRow ([(⟨3, 9, (ByteArray.mk #[97]), (ByteArray.mk #[99]), 1, 1⟩ : File)] : List File) hsh rfl rfl rfl
 refine r_buildSlice (vs := [(.slice (some ⟨g1, 0, none⟩) 1 1)]) (cs := [(.slice (some ⟨g1, 0, none⟩) 1 1)]) hst hsh trivial rfl Try.underlying23 el_39 rfl rfl (by simp [cells_sl, cells_slen (hsh.row 0 rfl).slen]) rfl (by simp [cells_sl, cells_slen (hsh.row 0 rfl).slen]) ?_
 intro g4 a w5 hgg4 hsh hst
 replace hsh := hsh.pick [0, 0]
 replace hsh : SH (fun _ => False) w w5 [Row (Kd.slice 43 k_File) 39 (.slice (some ⟨g4, 0, none⟩) 1 1) ([[(⟨3, 9, (ByteArray.mk #[97]), (ByteArray.mk #[99]), 1, 1⟩ : File)]])] := SH.boxRowM (C := [Row k_File 43 (.slice (some ⟨g1, 0, none⟩) 1 1) ([(⟨3, 9, (ByteArray.mk #[97]), (ByteArray.mk #[99]), 1, 1⟩ : File)])]) ([[(⟨3, 9, (ByteArray.mk #[97]), (ByteArray.mk #[99]), 1, 1⟩ : File)]] : List (List File)) hsh (ef_cons mf_slice ef_nil) rfl rfl (by decide)
 refine r_t hst trivial rfl (x_assign hst rfl) ?_; intro a hst
 refine wpL_nil ?_
 refine then_normal ?_
 refine wq_seq ?_
 refine wq_region_lit (.inl rfl) ?_
 refine r_t hst trivial rfl (x_move hst rfl) ?_; intro a hst
 obtain ⟨r7, hr7, H⟩ := Option.bind_eq_some_iff.1 H
 refine r_callD hst trivial rfl fn_12 rfl (version_Valid.calls k _ _ _ _ (Same.refl _ _) _ (hsh.row 0 rfl) r7 hr7) ?_
 rintro e w8 ⟨rfl, hc⟩
 replace hsh := hsh.call0 hc
 clear hc
 refine ⟨_, rfl, fun a hst => ?_⟩
 refine r_t hst trivial rfl (x_move hst rfl) ?_; intro a hst
 obtain ⟨J_2, hJ_2, H⟩ := Jn.elim H
 refine wl_join 7 (fun a w' => ∃ (b_1 : Bool), J_2 b_1 = some r ∧ ST [] Try.f21.ntmps a [(0, .bool false), (1, (.slice (some ⟨g4, 0, none⟩) 1 1)), (11, .bool b_1)] ∧ SH (fun _ => False) w w' [Row (Kd.slice 43 k_File) 39 (.slice (some ⟨g4, 0, none⟩) 1 1) ([[(⟨3, 9, (ByteArray.mk #[97]), (ByteArray.mk #[99]), 1, 1⟩ : File)]])]) ?_ ?_
 · rintro a W_3 ⟨b_1, H, hst, hsh⟩
   subst hJ_2
   dsimp only at H
   refine r_t hst trivial rfl (x_move hst rfl) ?_; intro a hst
   obtain ⟨J_5, hJ_5, H⟩ := Jn.elim H
   refine wl_join 13 (fun a w' => ∃ (b_4 : Bool), J_5 b_4 = some r ∧ ST [] Try.f21.ntmps a [(0, .bool false), (1, (.slice (some ⟨g4, 0, none⟩) 1 1)), (17, .bool b_4)] ∧ SH (fun _ => False) w w' [Row (Kd.slice 43 k_File) 39 (.slice (some ⟨g4, 0, none⟩) 1 1) ([[(⟨3, 9, (ByteArray.mk #[97]), (ByteArray.mk #[99]), 1, 1⟩ : File)]])]) ?_ ?_
   · rintro a W_6 ⟨b_4, H, hst, hsh⟩
     subst hJ_5
     dsimp only at H
     refine r_t hst trivial rfl (x_move hst rfl) ?_; intro a hst
     obtain ⟨J_8, hJ_8, H⟩ := Jn.elim H
     refine wl_join 19 (fun a w' => ∃ (b_7 : Bool), J_8 b_7 = some r ∧ ST [] Try.f21.ntmps a [(0, .bool false), (23, .bool b_7)] ∧ SH (fun _ => False) w w' []) ?_ ?_
     · rintro a W_9 ⟨b_7, H, hst, hsh⟩
       subst hJ_8
       dsimp only at H
       refine r_t hst trivial rfl (x_assign hst rfl) ?_; intro a hst
       refine wpL_nil ?_
       refine then_normal ?_
       refine wq_ret ?_
       obtain rfl := Option.some.inj H
       exact ret1 hst rfl rfl ⟨rfl, hsh.pick []⟩
     · intro hj
       by_cases c17 : b_4 = true
       · rw [if_pos c17] at H
         refine r_t hst (wt_of 18 rfl rfl c17) rfl (x_move hst rfl) ?_; intro a hst
         obtain ⟨r22, hr22, H⟩ := Option.bind_eq_some_iff.1 H
         refine r_callD hst (wt_of 18 rfl rfl c17) rfl fn_19 rfl (version_Asks.calls k _ _ _ _ (Same.refl _ _) _ (hsh.row 0 rfl) (ByteArray.mk #[98]) r22 hr22) ?_
         rintro e w23 ⟨v24, rfl, hc⟩
         replace hsh := hsh.call0 hc
         clear hc
         refine ⟨_, rfl, fun a hst => ?_⟩
         refine r_t hst (wt_of 18 rfl rfl c17) rfl (x_lenSl hst Try.underlying25 rfl (hsh.row 0 rfl).slen) ?_; intro a hst
         refine r_t hst (wt_of 18 rfl rfl c17) rfl (x_cmpI (b := ((r22.length : Int) == 1)) hst rfl rfl rfl) ?_; intro a hst
         refine r_t hst trivial rfl (x_pickT hst rfl c17 rfl) ?_; intro a hst
         exact hj _ _ ⟨((r22.length : Int) == 1), H, hst.keep _ ⟨rfl, rfl, trivial⟩, hsh.pick []⟩
       · rw [if_neg c17] at H
         replace c17 := Bool.eq_false_iff.2 c17
         refine r_not hst 18 rfl rfl c17 rfl ?_; intro a hst
         refine r_not hst 18 rfl rfl c17 rfl ?_; intro a hst
         refine r_not hst 18 rfl rfl c17 rfl ?_; intro a hst
         refine r_not hst 18 rfl rfl c17 rfl ?_; intro a hst
         refine r_t hst trivial rfl (x_pickF hst rfl c17 rfl) ?_; intro a hst
         exact hj _ _ ⟨false, H, hst.keep _ ⟨rfl, rfl, trivial⟩, hsh.pick []⟩
   · intro hj
     by_cases c12 : b_1 = true
     · rw [if_pos c12] at H
       refine r_t hst (wt_of 12 rfl rfl c12) rfl (x_move hst rfl) ?_; intro a hst
       obtain ⟨r26, hr26, H⟩ := Option.bind_eq_some_iff.1 H
       refine r_callD hst (wt_of 12 rfl rfl c12) rfl fn_18 rfl (version_Over.calls k _ _ _ _ (Same.refl _ _) _ (hsh.row 0 rfl) 0 (ByteArray.mk #[98]) (ByteArray.mk #[]) r26 hr26) ?_
       rintro e w27 ⟨v28, rfl, hc⟩
       replace hsh := hsh.call0 hc
       clear hc
       refine ⟨_, rfl, fun a hst => ?_⟩
       refine r_t hst (wt_of 12 rfl rfl c12) rfl (x_lenSl hst Try.underlying39 rfl (hsh.row 0 rfl).slen) ?_; intro a hst
       refine r_t hst (wt_of 12 rfl rfl c12) rfl (x_cmpI (b := ((r26.length : Int) == 1)) hst rfl rfl rfl) ?_; intro a hst
       refine r_t hst trivial rfl (x_pickT hst rfl c12 rfl) ?_; intro a hst
       exact hj _ _ ⟨((r26.length : Int) == 1), H, hst.keep _ ⟨rfl, rfl, rfl, trivial⟩, hsh.pick [1]⟩
     · rw [if_neg c12] at H
       replace c12 := Bool.eq_false_iff.2 c12
       refine r_not hst 12 rfl rfl c12 rfl ?_; intro a hst
       refine r_not hst 12 rfl rfl c12 rfl ?_; intro a hst
       refine r_not hst 12 rfl rfl c12 rfl ?_; intro a hst
       refine r_not hst 12 rfl rfl c12 rfl ?_; intro a hst
       refine r_t hst trivial rfl (x_pickF hst rfl c12 rfl) ?_; intro a hst
       exact hj _ _ ⟨false, H, hst.keep _ ⟨rfl, rfl, rfl, trivial⟩, hsh.pick [0]⟩
 · intro hj
   by_cases c9 : r7 = true
   · rw [if_pos c9] at H
     refine r_t hst (wt_of 7 rfl rfl c9) rfl (x_move hst rfl) ?_; intro a hst
     obtain ⟨r30, hr30, H⟩ := Option.bind_eq_some_iff.1 H
     refine r_callD hst (wt_of 7 rfl rfl c9) rfl fn_31 rfl (version_Files.calls k _ _ _ _ (Same.refl _ _) _ (hsh.row 0 rfl) r30 hr30) ?_
     rintro e w31 ⟨rfl, hc⟩
     replace hsh := hsh.call0 hc
     clear hc
     refine ⟨_, rfl, fun a hst => ?_⟩
     refine r_t hst (wt_of 7 rfl rfl c9) rfl (x_cmpI (b := (r30 == 1)) hst rfl rfl rfl) ?_; intro a hst
     refine r_t hst trivial rfl (x_pickT hst rfl c9 rfl) ?_; intro a hst
     exact hj _ _ ⟨(r30 == 1), H, hst.keep _ ⟨rfl, rfl, rfl, trivial⟩, hsh.pick [0]⟩
   · rw [if_neg c9] at H
     replace c9 := Bool.eq_false_iff.2 c9
     refine r_not hst 7 rfl rfl c9 rfl ?_; intro a hst
     refine r_not hst 7 rfl rfl c9 rfl ?_; intro a hst
     refine r_not hst 7 rfl rfl c9 rfl ?_; intro a hst
     refine r_t hst trivial rfl (x_pickF hst rfl c9 rfl) ?_; intro a hst
     exact hj _ _ ⟨false, H, hst.keep _ ⟨rfl, rfl, rfl, trivial⟩, hsh.pick [0]⟩

set_option maxHeartbeats 4000000 in
set_option maxRecDepth 100000 in
theorem l16_files.calls (k : Nat) (w : World) (va0 : Value) (Za0 : Nat → Prop) (wra0 : World) (hsa0 : Same Za0 wra0 w) (a0 : (List File)) (hra0 : RD k_File Za0 wra0 va0 a0) (va1 : Value) (Za1 : Nat → Prop) (wra1 : World) (hsa1 : Same Za1 wra1 w) (a1 : (List File)) (hra1 : RD k_File Za1 wra1 va1 a1) (r : Bool) (h : l16_files k a0 a1 = some r) :
    Calls Try.prog 22 ([va0, va1] : List Value).toArray w fun e w' => e = .returned (.bool r) ∧ SH (fun _ => False) w w' [] := by
 have H := h
 clear h
 unfold l16_files at H
 refine calls_enter Try.func22 rfl rfl ?_
 intro a hst
 have hsh := SH.zero (fun _ => False) w
 refine wq_seq ?_
 refine wq_region_lit (.inl rfl) ?_
 refine r_t hst trivial rfl (x_assign hst rfl) ?_; intro a hst
 refine wpL_nil ?_
 refine then_normal ?_
 refine wq_seq ?_
 refine wq_seq ?_
 refine wq_region_lit (.inl rfl) ?_
 refine r_t hst trivial rfl (x_move hst rfl) ?_; intro a hst
 refine r_t hst trivial rfl (x_lenSl hst Try.underlying39 rfl hra0.slen) ?_; intro a hst
 refine r_t hst trivial rfl (x_move hst rfl) ?_; intro a hst
 refine r_t hst trivial rfl (x_lenSl hst Try.underlying39 rfl hra1.slen) ?_; intro a hst
 refine r_t hst trivial rfl (x_cmpI (b := ((a0.length : Int) != (a1.length : Int))) hst rfl rfl rfl) ?_; intro a hst
 refine wpL_nil ?_
 refine then_normal ?_
 by_cases c2 : ((a0.length : Int) != (a1.length : Int)) = true
 · rw [if_pos c2] at H
   refine wq_condT hst rfl c2 ?_
   refine wq_seq ?_
   refine wq_region_lit (.inl rfl) ?_
   refine r_t hst trivial rfl (x_assign hst rfl) ?_; intro a hst
   refine wpL_nil ?_
   refine then_normal ?_
   refine wq_ret ?_
   refine then_ret ?_
   obtain rfl := Option.some.inj H
   exact ret1 hst rfl rfl ⟨rfl, hsh.pick []⟩
 · rw [if_neg c2] at H
   replace c2 := Bool.eq_false_iff.2 c2
   refine wq_condF hst rfl c2 ?_
   refine wq_skip ?_
   refine then_normal ?_
   refine wq_seq ?_
   refine wq_seq ?_
   refine wq_region_lit (.inl rfl) ?_
   refine r_t hst trivial rfl (x_assign hst rfl) ?_; intro a hst
   refine wpL_nil ?_
   refine then_normal ?_
   refine wq_block ?_
   refine wq_loop_fuel (fun k_16 a w' => ∃ (i_12 : Int), l16_files.l0 a0 a1 k_16 i_12 = some r ∧ ST [] Try.f22.ntmps a [(0, va0), (1, va1), (4, .bool false), (5, .int .i64 i_12)] ∧ SH (fun _ => False) w w' []) k ?_ ?_
   · exact ⟨0, H, hst.keep _ ⟨rfl, rfl, rfl, rfl, trivial⟩, hsh.pick []⟩
   · rintro k_16 a W_13 ⟨i_12, H, hst, hsh⟩
     cases k_16 with
     | zero => rw [l16_files.l0] at H; cases H
     | succ k_16 =>
      rw [l16_files.l0] at H
      refine wq_seq ?_
      refine wq_seq ?_
      refine wq_region_lit (.inl rfl) ?_
      refine r_t hst trivial rfl (x_move hst rfl) ?_; intro a hst
      refine r_t hst trivial rfl (x_move hst rfl) ?_; intro a hst
      refine r_t hst trivial rfl (x_lenSl hst Try.underlying39 rfl hra0.slen) ?_; intro a hst
      refine r_t hst trivial rfl (x_cmpI (b := decide (i_12 < (a0.length : Int))) hst rfl rfl rfl) ?_; intro a hst
      refine wpL_nil ?_
      refine then_normal ?_
      by_cases c54 : (decide (i_12 < (a0.length : Int))) = true
      · rw [if_pos c54] at H
        refine wq_condT hst rfl c54 ?_
        refine wq_skip ?_
        refine then_normal ?_
        refine wq_seq ?_
        refine wq_block ?_
        refine wq_seq ?_
        refine wq_region_q (.inl rfl) (fun w' => SH (fun _ => False) w w' []) (shut_sh _ _ _) hsh.drew fo (by kernel_rfl) ?_
        refine q_t hst trivial rfl (fun _ hsh => x_move hst rfl) ?_; intro a hst
        refine q_t hst trivial rfl (fun _ hsh => x_move hst rfl) ?_; intro a hst
        obtain ⟨x59, hx59, H⟩ := Option.bind_eq_some_iff.1 H
        refine q_t hst trivial rfl (fun _ hsh => x_indexAddr hst Try.underlying39 el_43 rfl rfl hra0 hx59) ?_; intro a hst
        refine q_t hst trivial rfl (fun _ hsh => x_loadEsF (j := 0) (cs := [.int .i64 x59.Number, .int .i64 x59.Size, .string x59.Least, .string x59.Limit, .int .u64 x59.Low, .int .u64 x59.High]) (ps := [.int .i64 x59.Number, .int .i64 x59.Size, .string x59.Least, .string x59.Limit, .int .u64 x59.Low, .int .u64 x59.High]) hst ag_43 rfl hra0 (Same.sh0 hsa0 hsh) hx59 rfl (fun _ h => h) rfl) ?_; intro a hst
        refine q_t hst trivial rfl (fun _ hsh => x_move hst rfl) ?_; intro a hst
        refine q_t hst trivial rfl (fun _ hsh => x_move hst rfl) ?_; intro a hst
        obtain ⟨x60, hx60, H⟩ := Option.bind_eq_some_iff.1 H
        refine q_t hst trivial rfl (fun _ hsh => x_indexAddr hst Try.underlying39 el_43 rfl rfl hra1 hx60) ?_; intro a hst
        refine q_t hst trivial rfl (fun _ hsh => x_loadEsF (j := 0) (cs := [.int .i64 x60.Number, .int .i64 x60.Size, .string x60.Least, .string x60.Limit, .int .u64 x60.Low, .int .u64 x60.High]) (ps := [.int .i64 x60.Number, .int .i64 x60.Size, .string x60.Least, .string x60.Limit, .int .u64 x60.Low, .int .u64 x60.High]) hst ag_43 rfl hra1 (Same.sh0 hsa1 hsh) hx60 rfl (fun _ h => h) rfl) ?_; intro a hst
        refine q_t hst trivial rfl (fun _ hsh => x_eqSn (b := File.eqb x59 x60) (x0 := x59) (y0 := x60) hst eqof_43 rfl rfl rfl) ?_; intro a hst
        refine q_nil ?_
        intro w61 hsh
        refine then_normal ?_
        by_cases c62 : (!File.eqb x59 x60) = true
        · rw [if_pos c62] at H
          refine wq_condT hst rfl c62 ?_
          refine wq_seq ?_
          refine wq_region_lit (.inl rfl) ?_
          refine r_t hst trivial rfl (x_assign hst rfl) ?_; intro a hst
          refine wpL_nil ?_
          refine then_normal ?_
          refine wq_ret ?_
          refine block_ret ?_
          refine then_ret ?_
          refine then_ret ?_
          refine block_ret ?_
          refine then_ret ?_
          obtain rfl := Option.some.inj H
          exact ret1 hst rfl rfl ⟨rfl, hsh.pick []⟩
        · rw [if_neg c62] at H
          replace c62 := Bool.eq_false_iff.2 c62
          refine wq_condF hst rfl c62 ?_
          refine wq_skip ?_
          refine block_normal ?_
          refine then_normal ?_
          refine wq_region_lit (.inl rfl) ?_
          refine r_t hst trivial rfl (x_move hst rfl) ?_; intro a hst
          refine r_t hst trivial rfl (x_arI (r := w64 (i_12 + 1)) hst rfl rfl rfl) ?_; intro a hst
          refine r_t hst trivial rfl (x_assign hst rfl) ?_; intro a hst
          refine wpL_nil ?_
          refine then_normal ?_
          exact ⟨k_16, Nat.lt_succ_self _, (w64 (i_12 + 1)), H, hst.keep _ ⟨rfl, rfl, rfl, rfl, trivial⟩, hsh.pick []⟩
      · rw [if_neg c54] at H
        replace c54 := Bool.eq_false_iff.2 c54
        refine wq_condF hst rfl c54 ?_
        refine wq_exit ?_
        refine then_exit ?_
        refine then_exit ?_
        refine block_hit ?_
        refine then_normal ?_
        refine wq_seq ?_
        refine wq_region_lit (.inl rfl) ?_
        refine r_t hst trivial rfl (x_assign hst rfl) ?_; intro a hst
        refine wpL_nil ?_
        refine then_normal ?_
        refine wq_ret ?_
        obtain rfl := Option.some.inj H
        exact ret1 hst rfl rfl ⟨rfl, hsh.pick []⟩

set_option maxHeartbeats 4000000 in
set_option maxRecDepth 100000 in
theorem l16_copied.calls (k : Nat) (w : World) (va0 : Value) (Za0 : Nat → Prop) (wra0 : World) (hsa0 : Same Za0 wra0 w) (a0 : (List (List File))) (hra0 : RD (Kd.slice 43 k_File) Za0 wra0 va0 a0) (r : (List (List File))) (h : l16_copied k a0 = some r) :
    Calls Try.prog 11 ([va0] : List Value).toArray w fun e w' => ∃ v0_ : Value, e = .returned (v0_) ∧ SH (fun _ => False) w w' [Row (Kd.slice 43 k_File) 39 v0_ r] := by
 have H := h
 clear h
 unfold l16_copied at H
 refine calls_enter Try.func11 rfl rfl ?_
 intro a hst
 have hsh := SH.zero (fun _ => False) w
 refine wq_seq ?_
 refine wq_region_lit (.inl rfl) ?_
 refine r_t hst trivial rfl (x_assign hst rfl) ?_; intro a hst
 refine wpL_nil ?_
 refine then_normal ?_
 refine wq_seq ?_
 refine wq_region_lit (.inl rfl) ?_
 refine r_buildSlice (vs := []) (cs := []) hst hsh trivial rfl Try.underlying23 el_39 rfl rfl (by simp [Value.cells]) rfl rfl ?_
 intro g1 a w2 hgg1 hsh hst
 replace hsh := hsh.pick [0]
 replace hsh : SH (fun _ => False) w w2 [Row (Kd.slice 43 k_File) 39 (.slice (some ⟨g1, 0, none⟩) 0 0) ([])] := SH.boxRowM (C := []) ([] : List (List File)) hsh ef_nil rfl rfl (by decide)
 refine r_t hst trivial rfl (x_assign hst rfl) ?_; intro a hst
 refine wpL_nil ?_
 refine then_normal ?_
 refine wq_seq ?_
 refine wq_seq ?_
 refine wq_region_lit (.inl rfl) ?_
 refine r_t hst trivial rfl (x_assign hst rfl) ?_; intro a hst
 refine wpL_nil ?_
 refine then_normal ?_
 refine wq_block ?_
 refine wq_loop_fuel (fun k_28 a w' => ∃ (v_20 : Value), ∃ (l_21 : (List (List File))), ∃ (i_22 : Int), l16_copied.l0 a0 k_28 l_21 i_22 = some r ∧ ST [] Try.f11.ntmps a [(0, va0), (2, (.slice none 0 0)), (3, v_20), (4, .int .i64 i_22)] ∧ SH (fun _ => False) w w' [Row (Kd.slice 43 k_File) 39 v_20 l_21]) k ?_ ?_
 · exact ⟨(.slice (some ⟨g1, 0, none⟩) 0 0), ([]), 0, H, hst.keep _ ⟨rfl, rfl, rfl, rfl, trivial⟩, hsh.pick [0]⟩
 · rintro k_28 a W_23 ⟨v_20, l_21, i_22, H, hst, hsh⟩
   cases k_28 with
   | zero => rw [l16_copied.l0] at H; cases H
   | succ k_28 =>
    rw [l16_copied.l0] at H
    refine wq_seq ?_
    refine wq_seq ?_
    refine wq_region_lit (.inl rfl) ?_
    refine r_t hst trivial rfl (x_move hst rfl) ?_; intro a hst
    refine r_t hst trivial rfl (x_move hst rfl) ?_; intro a hst
    refine r_t hst trivial rfl (x_lenSl hst Try.underlying23 rfl hra0.slen) ?_; intro a hst
    refine r_t hst trivial rfl (x_cmpI (b := decide (i_22 < (a0.length : Int))) hst rfl rfl rfl) ?_; intro a hst
    refine wpL_nil ?_
    refine then_normal ?_
    by_cases c175 : (decide (i_22 < (a0.length : Int))) = true
    · rw [if_pos c175] at H
      refine wq_condT hst rfl c175 ?_
      refine wq_skip ?_
      refine then_normal ?_
      refine wq_seq ?_
      refine wq_block ?_
      refine wq_region_lit (.inl rfl) ?_
      refine r_t hst trivial rfl (x_move hst rfl) ?_; intro a hst
      refine r_buildSlice (vs := []) (cs := []) hst hsh trivial rfl Try.underlying39 el_43 rfl rfl (by simp [Value.cells]) rfl rfl ?_
      intro g192 a w193 hgg192 hsh hst
      replace hsh := hsh.pick [0, 0]
      replace hsh : SH (fun _ => False) w w193 [Row k_File 43 (.slice (some ⟨g192, 0, none⟩) 0 0) ([]), Row (Kd.slice 43 k_File) 39 v_20 l_21] := SH.boxRow ([] : List File) hsh rfl rfl rfl
      refine r_t hst trivial rfl (x_move hst rfl) ?_; intro a hst
      refine r_t hst trivial rfl (x_move hst rfl) ?_; intro a hst
      obtain ⟨x195, hx195, H⟩ := Option.bind_eq_some_iff.1 H
      refine r_t hst trivial rfl (x_indexAddr hst Try.underlying23 el_39 rfl rfl hra0 hx195) ?_; intro a hst
      obtain ⟨_, hk196, hc197⟩ := RD.cells2 hra0 hx195
      obtain ⟨v198, rfl, hr199⟩ := hk196
      refine r_t hst trivial rfl (x_loadC hst sc_39 rfl (hc197 _ (Same.sh0 hsa0 hsh) 0 _ rfl)) ?_; intro a hst
      replace hsh := hsh.pick [0, 0]
      obtain ⟨l200, hl200, H⟩ := Option.bind_eq_some_iff.1 H
      refine r_appendN (M := [Row (Kd.slice 43 k_File) 39 v_20 l_21]) hst hsh trivial rfl Try.underlying39 el_43 (by decide) (by decide) (by decide) rfl rfl (flat_flat _ _ _ _) hr199 (Same.sh0 hsa0 hsh) hl200 ?_
      intro v201 a w202 hsh hst
      refine r_buildSlice (vs := [v201]) (cs := [v201]) hst hsh trivial rfl Try.underlying23 el_39 rfl rfl (by simp [cells_sl, cells_slen (hsh.row 0 rfl).slen]) rfl (by simp [cells_sl, cells_slen (hsh.row 0 rfl).slen]) ?_
      intro g203 a w204 hgg203 hsh hst
      replace hsh := hsh.pick [2, 0, 0]
      obtain ⟨l205, hl205, H⟩ := Option.bind_eq_some_iff.1 H
      refine r_append1 (xx := l200) (C := [Row k_File 43 v201 l200]) (M := []) hst hsh trivial rfl Try.underlying23 el_39 (by decide) (by decide) (by decide) rfl rfl mf_slice hl205 ?_
      intro v206 a w207 hsh hst
      refine r_t hst trivial rfl (x_assign hst rfl) ?_; intro a hst
      refine wpL_nil ?_
      refine block_normal ?_
      refine then_normal ?_
      refine wq_region_lit (.inl rfl) ?_
      refine r_t hst trivial rfl (x_move hst rfl) ?_; intro a hst
      refine r_t hst trivial rfl (x_arI (r := w64 (i_22 + 1)) hst rfl rfl rfl) ?_; intro a hst
      refine r_t hst trivial rfl (x_assign hst rfl) ?_; intro a hst
      refine wpL_nil ?_
      refine then_normal ?_
      exact ⟨k_28, Nat.lt_succ_self _, v206, l205, (w64 (i_22 + 1)), H, hst.keep _ ⟨rfl, rfl, rfl, rfl, trivial⟩, hsh.pick [0]⟩
    · rw [if_neg c175] at H
      replace c175 := Bool.eq_false_iff.2 c175
      refine wq_condF hst rfl c175 ?_
      refine wq_exit ?_
      refine then_exit ?_
      refine then_exit ?_
      refine block_hit ?_
      refine then_normal ?_
      refine wq_seq ?_
      refine wq_region_lit (.inl rfl) ?_
      refine r_t hst trivial rfl (x_move hst rfl) ?_; intro a hst
      refine r_t hst trivial rfl (x_assign hst rfl) ?_; intro a hst
      refine wpL_nil ?_
      refine then_normal ?_
      refine wq_ret ?_
      obtain rfl := Option.some.inj H
      exact ret1 hst rfl rfl ⟨v_20, rfl, hsh.pick [0]⟩

set_option maxHeartbeats 4000000 in
set_option maxRecDepth 100000 in
theorem slices_Equal_File.calls (k : Nat) (w : World) (va0 : Value) (Za0 : Nat → Prop) (wra0 : World) (hsa0 : Same Za0 wra0 w) (a0 : (List File)) (hra0 : RD k_File Za0 wra0 va0 a0) (va1 : Value) (Za1 : Nat → Prop) (wra1 : World) (hsa1 : Same Za1 wra1 w) (a1 : (List File)) (hra1 : RD k_File Za1 wra1 va1 a1) (r : Bool) (h : slices_Equal_File k a0 a1 = some r) :
    Calls Try.prog 57 ([va0, va1] : List Value).toArray w fun e w' => e = .returned (.bool r) ∧ SH (fun _ => False) w w' [] := by
 have H := h
 clear h
 unfold slices_Equal_File at H
 refine calls_enter Try.func57 rfl rfl ?_
 intro a hst
 have hsh := SH.zero (fun _ => False) w
 refine wq_seq ?_
 refine wq_region_lit (.inl rfl) ?_
 refine r_t hst trivial rfl (x_assign hst rfl) ?_; intro a hst
 refine wpL_nil ?_
 refine then_normal ?_
 refine wq_seq ?_
 refine wq_seq ?_
 refine wq_region_lit (.inl rfl) ?_
 refine r_t hst trivial rfl (x_move hst rfl) ?_; intro a hst
 refine r_t hst trivial rfl (x_lenSl hst Try.underlying39 rfl hra0.slen) ?_; intro a hst
 refine r_t hst trivial rfl (x_move hst rfl) ?_; intro a hst
 refine r_t hst trivial rfl (x_lenSl hst Try.underlying39 rfl hra1.slen) ?_; intro a hst
 refine r_t hst trivial rfl (x_cmpI (b := ((a0.length : Int) != (a1.length : Int))) hst rfl rfl rfl) ?_; intro a hst
 refine wpL_nil ?_
 refine then_normal ?_
 by_cases c2 : ((a0.length : Int) != (a1.length : Int)) = true
 · rw [if_pos c2] at H
   refine wq_condT hst rfl c2 ?_
   refine wq_seq ?_
   refine wq_region_lit (.inl rfl) ?_
   refine r_t hst trivial rfl (x_assign hst rfl) ?_; intro a hst
   refine wpL_nil ?_
   refine then_normal ?_
   refine wq_ret ?_
   refine then_ret ?_
   obtain rfl := Option.some.inj H
   exact ret1 hst rfl rfl ⟨rfl, hsh.pick []⟩
 · rw [if_neg c2] at H
   replace c2 := Bool.eq_false_iff.2 c2
   refine wq_condF hst rfl c2 ?_
   refine wq_skip ?_
   refine then_normal ?_
   refine wq_seq ?_
   refine wq_seq ?_
   refine wq_region_lit (.inl rfl) ?_
   refine r_t hst trivial rfl (x_move hst rfl) ?_; intro a hst
   refine r_t hst trivial rfl (x_lenSl hst Try.underlying39 rfl hra0.slen) ?_; intro a hst
   refine r_t hst trivial rfl (x_move hst rfl) ?_; intro a hst
   refine wpL_nil ?_
   refine then_normal ?_
   refine wq_block ?_
   refine wq_loop_fuel (fun k_16 a w' => ∃ (i_12 : Int), slices_Equal_File.l0 a0 a1 k_16 i_12 = some r ∧ ST [] Try.f57.ntmps a [(0, va0), (1, va1), (4, .bool false), (12, .int .i64 (a0.length : Int)), (13, .int .i64 i_12)] ∧ SH (fun _ => False) w w' []) k ?_ ?_
   · exact ⟨0, H, hst.keep _ ⟨rfl, rfl, rfl, rfl, rfl, trivial⟩, hsh.pick []⟩
   · rintro k_16 a W_13 ⟨i_12, H, hst, hsh⟩
     cases k_16 with
     | zero => rw [slices_Equal_File.l0] at H; cases H
     | succ k_16 =>
      rw [slices_Equal_File.l0] at H
      refine wq_seq ?_
      refine wq_region_lit (.inl rfl) ?_
      refine r_t hst trivial rfl (x_cmpI (b := decide (i_12 < (a0.length : Int))) hst rfl rfl rfl) ?_; intro a hst
      refine wpL_nil ?_
      refine then_normal ?_
      refine wq_seq ?_
      by_cases c54 : (decide (i_12 < (a0.length : Int))) = true
      · rw [if_pos c54] at H
        refine wq_condT hst rfl c54 ?_
        refine wq_skip ?_
        refine then_normal ?_
        refine wq_seq ?_
        refine wq_block ?_
        refine wq_seq ?_
        refine wq_region_lit (.inl rfl) ?_
        refine r_t hst trivial rfl (x_move hst rfl) ?_; intro a hst
        refine r_t hst trivial rfl (x_assign hst rfl) ?_; intro a hst
        refine wpL_nil ?_
        refine then_normal ?_
        refine wq_seq ?_
        refine wq_region_q (.inl rfl) (fun w' => SH (fun _ => False) w w' []) (shut_sh _ _ _) hsh.drew fo (by kernel_rfl) ?_
        refine q_t hst trivial rfl (fun _ hsh => x_move hst rfl) ?_; intro a hst
        refine q_t hst trivial rfl (fun _ hsh => x_move hst rfl) ?_; intro a hst
        obtain ⟨x59, hx59, H⟩ := Option.bind_eq_some_iff.1 H
        refine q_t hst trivial rfl (fun _ hsh => x_indexAddr hst Try.underlying39 el_43 rfl rfl hra0 hx59) ?_; intro a hst
        refine q_t hst trivial rfl (fun _ hsh => x_loadEsF (j := 0) (cs := [.int .i64 x59.Number, .int .i64 x59.Size, .string x59.Least, .string x59.Limit, .int .u64 x59.Low, .int .u64 x59.High]) (ps := [.int .i64 x59.Number, .int .i64 x59.Size, .string x59.Least, .string x59.Limit, .int .u64 x59.Low, .int .u64 x59.High]) hst ag_43 rfl hra0 (Same.sh0 hsa0 hsh) hx59 rfl (fun _ h => h) rfl) ?_; intro a hst
        refine q_t hst trivial rfl (fun _ hsh => x_move hst rfl) ?_; intro a hst
        refine q_t hst trivial rfl (fun _ hsh => x_move hst rfl) ?_; intro a hst
        obtain ⟨x60, hx60, H⟩ := Option.bind_eq_some_iff.1 H
        refine q_t hst trivial rfl (fun _ hsh => x_indexAddr hst Try.underlying39 el_43 rfl rfl hra1 hx60) ?_; intro a hst
        refine q_t hst trivial rfl (fun _ hsh => x_loadEsF (j := 0) (cs := [.int .i64 x60.Number, .int .i64 x60.Size, .string x60.Least, .string x60.Limit, .int .u64 x60.Low, .int .u64 x60.High]) (ps := [.int .i64 x60.Number, .int .i64 x60.Size, .string x60.Least, .string x60.Limit, .int .u64 x60.Low, .int .u64 x60.High]) hst ag_43 rfl hra1 (Same.sh0 hsa1 hsh) hx60 rfl (fun _ h => h) rfl) ?_; intro a hst
        refine q_t hst trivial rfl (fun _ hsh => x_eqSn (b := File.eqb x59 x60) (x0 := x59) (y0 := x60) hst eqof_43 rfl rfl rfl) ?_; intro a hst
        refine q_nil ?_
        intro w61 hsh
        refine then_normal ?_
        by_cases c62 : (!File.eqb x59 x60) = true
        · rw [if_pos c62] at H
          refine wq_condT hst rfl c62 ?_
          refine wq_seq ?_
          refine wq_region_lit (.inl rfl) ?_
          refine r_t hst trivial rfl (x_assign hst rfl) ?_; intro a hst
          refine wpL_nil ?_
          refine then_normal ?_
          refine wq_ret ?_
          refine block_ret ?_
          refine then_ret ?_
          refine then_ret ?_
          refine block_ret ?_
          refine then_ret ?_
          obtain rfl := Option.some.inj H
          exact ret1 hst rfl rfl ⟨rfl, hsh.pick []⟩
        · rw [if_neg c62] at H
          replace c62 := Bool.eq_false_iff.2 c62
          refine wq_condF hst rfl c62 ?_
          refine wq_skip ?_
          refine block_normal ?_
          refine then_normal ?_
          refine wq_region_lit (.inl rfl) ?_
          refine r_t hst trivial rfl (x_arI (r := w64 (i_12 + 1)) hst rfl rfl rfl) ?_; intro a hst
          refine r_t hst trivial rfl (x_move hst rfl) ?_; intro a hst
          refine wpL_nil ?_
          refine then_normal ?_
          exact ⟨k_16, Nat.lt_succ_self _, (w64 (i_12 + 1)), H, hst.keep _ ⟨rfl, rfl, rfl, rfl, rfl, trivial⟩, hsh.pick []⟩
      · rw [if_neg c54] at H
        replace c54 := Bool.eq_false_iff.2 c54
        refine wq_condF hst rfl c54 ?_
        refine wq_exit ?_
        refine then_exit ?_
        refine then_exit ?_
        refine block_hit ?_
        refine then_normal ?_
        refine wq_seq ?_
        refine wq_region_lit (.inl rfl) ?_
        refine r_t hst trivial rfl (x_assign hst rfl) ?_; intro a hst
        refine wpL_nil ?_
        refine then_normal ?_
        refine wq_ret ?_
        obtain rfl := Option.some.inj H
        exact ret1 hst rfl rfl ⟨rfl, hsh.pick []⟩

set_option maxHeartbeats 4000000 in
set_option maxRecDepth 100000 in
theorem version_Same_1.calls (k : Nat) (w : World) (va0 : Value) (Za0 : Nat → Prop) (wra0 : World) (hsa0 : Same Za0 wra0 w) (a0 : (List File)) (hra0 : RD k_File Za0 wra0 va0 a0) (va1 : Value) (Za1 : Nat → Prop) (wra1 : World) (hsa1 : Same Za1 wra1 w) (a1 : (List File)) (hra1 : RD k_File Za1 wra1 va1 a1) (r : Bool) (h : version_Same_1 k a0 a1 = some r) :
    Calls Try.prog 56 ([va0, va1] : List Value).toArray w fun e w' => e = .returned (.bool r) ∧ SH (fun _ => False) w w' [] := by
 have H := h
 clear h
 unfold version_Same_1 at H
 refine calls_enter Try.func56 rfl rfl ?_
 intro a hst
 have hsh := SH.zero (fun _ => False) w
 refine wq_seq ?_
 refine wq_region_lit (.inl rfl) ?_
 refine r_t hst trivial rfl (x_assign hst rfl) ?_; intro a hst
 refine wpL_nil ?_
 refine then_normal ?_
 refine wq_seq ?_
 refine wq_region_lit (.inl rfl) ?_
 refine r_t hst trivial rfl (x_move hst rfl) ?_; intro a hst
 refine r_t hst trivial rfl (x_move hst rfl) ?_; intro a hst
 obtain ⟨r1, hr1, H⟩ := Option.bind_eq_some_iff.1 H
 refine r_callD hst trivial rfl fn_57 rfl (slices_Equal_File.calls k _ _ _ _ (Same.sh0 hsa0 hsh) _ hra0 _ _ _ (Same.sh0 hsa1 hsh) _ hra1 r1 hr1) ?_
 rintro e w2 ⟨rfl, hc⟩
 replace hsh := hsh.call0 hc
 clear hc
 refine ⟨_, rfl, fun a hst => ?_⟩
 refine r_t hst trivial rfl (x_assign hst rfl) ?_; intro a hst
 refine wpL_nil ?_
 refine then_normal ?_
 refine wq_ret ?_
 obtain rfl := Option.some.inj H
 exact ret1 hst rfl rfl ⟨rfl, hsh.pick []⟩
end Go.Proofs.Ytbbepmmelpabbaa.Mo
