/- Printed by gen.py: contracts. -/
import Derived.Test.YtbbepmmelpabbaaVerCa1
set_option linter.unusedVariables false
set_option linter.unusedSectionVars false
set_option linter.unusedSimpArgs false
set_option maxRecDepth 100000
namespace Go.Proofs.Ytbbepmmelpabbaa.Mo
open Go Go.Proofs.Ytbbepmmelpabbaa.Sy
open Go.Proofs
set_option maxHeartbeats 4000000 in
set_option maxRecDepth 100000 in
theorem version_Same.calls (k : Nat) (w : World) (va0 : Value) (Za0 : Nat → Prop) (wra0 : World) (hsa0 : Same Za0 wra0 w) (a0 : (List (List File))) (hra0 : RD (Kd.slice 43 k_File) Za0 wra0 va0 a0) (va1 : Value) (Za1 : Nat → Prop) (wra1 : World) (hsa1 : Same Za1 wra1 w) (a1 : (List (List File))) (hra1 : RD (Kd.slice 43 k_File) Za1 wra1 va1 a1) (r : Bool) (h : version_Same k a0 a1 = some r) :
    Calls Try.prog 36 ([va0, va1] : List Value).toArray w fun e w' => e = .returned (.bool r) ∧ SH (fun _ => False) w w' [] := by
 have H := h
 clear h
 unfold version_Same at H
 refine calls_enter Try.func36 rfl rfl ?_
 intro a hst
 have hsh := SH.zero (fun _ => False) w
 refine wq_seq ?_
 refine wq_region_lit (.inl rfl) ?_
 refine r_t hst trivial rfl (x_assign hst rfl) ?_; intro a hst
 refine wpL_nil ?_
 refine then_normal ?_
 obtain ⟨J_19, hJ_19, H⟩ := Jn.elim H
 refine wq_cut (fun a w' => ∃ (b_17 : Bool), J_19 b_17 = some r ∧ ST [] Try.f36.ntmps a [(4, .bool b_17)] ∧ SH (fun _ => False) w w' []) ?_ ?_
 · rintro a W_18 ⟨b_17, H, hst, hsh⟩
   subst hJ_19
   dsimp only at H
   refine wq_ret ?_
   obtain rfl := Option.some.inj H
   exact ret1 hst rfl rfl ⟨rfl, hsh.pick []⟩
 · refine wq_region_lit (.inl rfl) ?_
   refine r_t hst trivial rfl (x_move hst rfl) ?_; intro a hst
   refine r_t hst trivial rfl (x_move hst rfl) ?_; intro a hst
   refine r_inl hst trivial rfl fn_55 rfl ?_
   refine calls_enter Try.func55 rfl rfl ?_
   intro a hst
   refine wq_seq ?_
   refine wq_region_lit (.inl rfl) ?_
   refine r_t hst trivial rfl (x_assign hst rfl) ?_; intro a hst
   refine wpL_nil ?_
   refine then_normal ?_
   refine wq_seq ?_
   refine wq_seq ?_
   refine wq_region_lit (.inl rfl) ?_
   refine r_t hst trivial rfl (x_move hst rfl) ?_; intro a hst
   refine r_t hst trivial rfl (x_lenSl hst Try.underlying23 rfl hra0.slen) ?_; intro a hst
   refine r_t hst trivial rfl (x_move hst rfl) ?_; intro a hst
   refine r_t hst trivial rfl (x_lenSl hst Try.underlying23 rfl hra1.slen) ?_; intro a hst
   refine r_t hst trivial rfl (x_cmpI (b := ((a0.length : Int) != (a1.length : Int))) hst rfl rfl rfl) ?_; intro a hst
   refine wpL_nil ?_
   refine then_normal ?_
   by_cases c172 : ((a0.length : Int) != (a1.length : Int)) = true
   · rw [if_pos c172] at H
     refine wq_condT hst rfl c172 ?_
     refine wq_seq ?_
     refine wq_region_lit (.inl rfl) ?_
     refine r_t hst trivial rfl (x_assign hst rfl) ?_; intro a hst
     refine wpL_nil ?_
     refine then_normal ?_
     refine wq_ret ?_
     refine then_ret ?_
     refine ret1 hst rfl rfl ?_
     refine ⟨_, rfl, fun a hst => ?_⟩
     refine r_t hst trivial rfl (x_assign hst rfl) ?_; intro a hst
     refine wpL_nil ?_
     refine then_normal ?_
     exact ⟨false, H, hst.keep _ ⟨rfl, trivial⟩, hsh.pick []⟩
   · rw [if_neg c172] at H
     replace c172 := Bool.eq_false_iff.2 c172
     refine wq_condF hst rfl c172 ?_
     refine wq_skip ?_
     refine then_normal ?_
     refine wq_seq ?_
     refine wq_seq ?_
     refine wq_region_lit (.inl rfl) ?_
     refine r_t hst trivial rfl (x_move hst rfl) ?_; intro a hst
     refine r_t hst trivial rfl (x_lenSl hst Try.underlying23 rfl hra0.slen) ?_; intro a hst
     refine r_t hst trivial rfl (x_move hst rfl) ?_; intro a hst
     refine wpL_nil ?_
     refine then_normal ?_
     refine wq_block ?_
     refine wq_loop_fuel (fun k_35 a w' => ∃ (i_31 : Int), version_Same.l0 a0 a1 J_19 k_35 i_31 = some r ∧ ST [] Try.f55.ntmps a [(1, va1), (2, .func (.func 56) #[] #[]), (6, .bool false), (15, va0), (16, .int .i64 (a0.length : Int)), (17, .int .i64 i_31)] ∧ SH (fun _ => False) w w' []) k ?_ ?_
     · exact ⟨0, H, hst.keep _ ⟨rfl, rfl, rfl, rfl, rfl, rfl, trivial⟩, hsh.pick []⟩
     · rintro k_35 a W_32 ⟨i_31, H, hst, hsh⟩
       cases k_35 with
       | zero => rw [version_Same.l0] at H; cases H
       | succ k_35 =>
        rw [version_Same.l0] at H
        refine wq_seq ?_
        refine wq_region_lit (.inl rfl) ?_
        refine r_t hst trivial rfl (x_cmpI (b := decide (i_31 < (a0.length : Int))) hst rfl rfl rfl) ?_; intro a hst
        refine wpL_nil ?_
        refine then_normal ?_
        refine wq_seq ?_
        by_cases c314 : (decide (i_31 < (a0.length : Int))) = true
        · rw [if_pos c314] at H
          refine wq_condT hst rfl c314 ?_
          refine wq_skip ?_
          refine then_normal ?_
          refine wq_seq ?_
          refine wq_block ?_
          refine wq_seq ?_
          refine wq_region_lit (.inl rfl) ?_
          refine r_t hst trivial rfl (x_move hst rfl) ?_; intro a hst
          obtain ⟨x328, hx328, H⟩ := Option.bind_eq_some_iff.1 H
          refine r_t hst trivial rfl (x_indexAddr hst Try.underlying23 el_39 rfl rfl hra0 hx328) ?_; intro a hst
          obtain ⟨_, hk329, hc330⟩ := RD.cells2 hra0 hx328
          obtain ⟨v331, rfl, hr332⟩ := hk329
          refine r_t hst trivial rfl (x_loadC hst sc_39 rfl (hc330 _ (Same.sh0 hsa0 hsh) 0 _ rfl)) ?_; intro a hst
          refine r_t hst trivial rfl (x_assign hst rfl) ?_; intro a hst
          refine r_t hst trivial rfl (x_assign hst rfl) ?_; intro a hst
          refine wpL_nil ?_
          refine then_normal ?_
          refine wq_seq ?_
          refine wq_region_lit (.inl rfl) ?_
          refine r_t hst trivial rfl (x_move hst rfl) ?_; intro a hst
          refine r_t hst trivial rfl (x_move hst rfl) ?_; intro a hst
          obtain ⟨x333, hx333, H⟩ := Option.bind_eq_some_iff.1 H
          refine r_t hst trivial rfl (x_indexAddr hst Try.underlying23 el_39 rfl rfl hra1 hx333) ?_; intro a hst
          obtain ⟨_, hk334, hc335⟩ := RD.cells2 hra1 hx333
          obtain ⟨v336, rfl, hr337⟩ := hk334
          refine r_t hst trivial rfl (x_loadC hst sc_39 rfl (hc335 _ (Same.sh0 hsa1 hsh) 0 _ rfl)) ?_; intro a hst
          refine r_t hst trivial rfl (x_assign hst rfl) ?_; intro a hst
          refine wpL_nil ?_
          refine then_normal ?_
          refine wq_seq ?_
          refine wq_region_lit (.inl rfl) ?_
          refine r_t hst trivial rfl (x_move hst rfl) ?_; intro a hst
          refine r_t hst trivial rfl (x_move hst rfl) ?_; intro a hst
          refine r_t hst trivial rfl (x_move hst rfl) ?_; intro a hst
          obtain ⟨r338, hr338, H⟩ := Option.bind_eq_some_iff.1 H
          refine r_callDV hst trivial rfl rfl fn_56 rfl (version_Same_1.calls k_35 _ _ _ _ (Same.sh0 hsa0 hsh) _ hr332 _ _ _ (Same.sh0 hsa1 hsh) _ hr337 r338 hr338) ?_
          rintro e w339 ⟨rfl, hc⟩
          replace hsh := hsh.call0 hc
          clear hc
          refine ⟨_, rfl, fun a hst => ?_⟩
          refine r_t hst trivial rfl (x_notB hst rfl) ?_; intro a hst
          refine wpL_nil ?_
          refine then_normal ?_
          by_cases c340 : (!r338) = true
          · rw [if_pos c340] at H
            refine wq_condT hst rfl c340 ?_
            refine wq_seq ?_
            refine wq_region_lit (.inl rfl) ?_
            refine r_t hst trivial rfl (x_assign hst rfl) ?_; intro a hst
            refine wpL_nil ?_
            refine then_normal ?_
            refine wq_ret ?_
            refine block_ret ?_
            refine then_ret ?_
            refine then_ret ?_
            refine block_ret ?_
            refine then_ret ?_
            refine ret1 hst rfl rfl ?_
            refine ⟨_, rfl, fun a hst => ?_⟩
            refine r_t hst trivial rfl (x_assign hst rfl) ?_; intro a hst
            refine wpL_nil ?_
            refine then_normal ?_
            exact ⟨false, H, hst.keep _ ⟨rfl, trivial⟩, hsh.pick []⟩
          · rw [if_neg c340] at H
            replace c340 := Bool.eq_false_iff.2 c340
            refine wq_condF hst rfl c340 ?_
            refine wq_skip ?_
            refine block_normal ?_
            refine then_normal ?_
            refine wq_region_lit (.inl rfl) ?_
            refine r_t hst trivial rfl (x_arI (r := w64 (i_31 + 1)) hst rfl rfl rfl) ?_; intro a hst
            refine r_t hst trivial rfl (x_move hst rfl) ?_; intro a hst
            refine wpL_nil ?_
            refine then_normal ?_
            exact ⟨k_35, Nat.lt_succ_self _, (w64 (i_31 + 1)), H, hst.keep _ ⟨rfl, rfl, rfl, rfl, rfl, rfl, trivial⟩, hsh.pick []⟩
        · rw [if_neg c314] at H
          replace c314 := Bool.eq_false_iff.2 c314
          refine wq_condF hst rfl c314 ?_
          refine wq_exit ?_
          refine then_exit ?_
          refine then_exit ?_
          refine block_hit ?_
          refine then_normal ?_
          refine wq_seq ?_
          refine wq_region_lit (.inl rfl) ?_
          refine r_t hst trivial rfl (x_assign hst rfl) ?_; intro a hst
          refine wpL_nil ?_
          refine then_normal ?_
          refine wq_ret ?_
          refine ret1 hst rfl rfl ?_
          refine ⟨_, rfl, fun a hst => ?_⟩
          refine r_t hst trivial rfl (x_assign hst rfl) ?_; intro a hst
          refine wpL_nil ?_
          refine then_normal ?_
          exact ⟨true, H, hst.keep _ ⟨rfl, trivial⟩, hsh.pick []⟩

set_option maxHeartbeats 4000000 in
set_option maxRecDepth 100000 in
theorem r16_Same.calls (k : Nat) (w : World) (va0 : Value) (Za0 : Nat → Prop) (wra0 : World) (hsa0 : Same Za0 wra0 w) (a0 : (List (List File))) (hra0 : RD (Kd.slice 43 k_File) Za0 wra0 va0 a0) (va1 : Value) (Za1 : Nat → Prop) (wra1 : World) (hsa1 : Same Za1 wra1 w) (a1 : (List (List File))) (hra1 : RD (Kd.slice 43 k_File) Za1 wra1 va1 a1) (r : Bool) (h : r16_Same k a0 a1 = some r) :
    Calls Try.prog 16 ([va0, va1] : List Value).toArray w fun e w' => e = .returned (.bool r) ∧ SH (fun _ => False) w w' [] := by
 have H := h
 clear h
 unfold r16_Same at H
 refine calls_enter Try.func16 rfl rfl ?_
 intro a hst
 have hsh := SH.zero (fun _ => False) w
 refine wq_seq ?_
 refine wq_region_lit (.inl rfl) ?_
 refine r_t hst trivial rfl (x_assign hst rfl) ?_; intro a hst
 refine wpL_nil ?_
 refine then_normal ?_
 refine wq_seq ?_
 refine wq_seq ?_
 refine wq_region_lit (.inl rfl) ?_
 refine r_t hst trivial rfl (x_move hst rfl) ?_; intro a hst
 refine r_t hst trivial rfl (x_lenSl hst Try.underlying23 rfl hra0.slen) ?_; intro a hst
 refine r_t hst trivial rfl (x_move hst rfl) ?_; intro a hst
 refine r_t hst trivial rfl (x_lenSl hst Try.underlying23 rfl hra1.slen) ?_; intro a hst
 refine r_t hst trivial rfl (x_cmpI (b := ((a0.length : Int) != (a1.length : Int))) hst rfl rfl rfl) ?_; intro a hst
 refine wpL_nil ?_
 refine then_normal ?_
 by_cases c2 : ((a0.length : Int) != (a1.length : Int)) = true
 · rw [if_pos c2] at H
   refine wq_condT hst rfl c2 ?_
   refine wq_seq ?_
   refine wq_region_lit (.inl rfl) ?_
   refine r_t hst trivial rfl (x_assign hst rfl) ?_; intro a hst
   refine wpL_nil ?_
   refine then_normal ?_
   refine wq_ret ?_
   refine then_ret ?_
   obtain rfl := Option.some.inj H
   exact ret1 hst rfl rfl ⟨rfl, hsh.pick []⟩
 · rw [if_neg c2] at H
   replace c2 := Bool.eq_false_iff.2 c2
   refine wq_condF hst rfl c2 ?_
   refine wq_skip ?_
   refine then_normal ?_
   refine wq_seq ?_
   refine wq_seq ?_
   refine wq_region_lit (.inl rfl) ?_
   refine r_t hst trivial rfl (x_assign hst rfl) ?_; intro a hst
   refine wpL_nil ?_
   refine then_normal ?_
   refine wq_block ?_
   refine wq_loop_fuel (fun k_106 a w' => ∃ (i_84 : Int), r16_Same.l0 a0 a1 k_106 i_84 = some r ∧ ST [] Try.f16.ntmps a [(0, va0), (1, va1), (4, .bool false), (5, .int .i64 i_84)] ∧ SH (fun _ => False) w w' []) k ?_ ?_
   · exact ⟨0, H, hst.keep _ ⟨rfl, rfl, rfl, rfl, trivial⟩, hsh.pick []⟩
   · rintro k_106 a W_85 ⟨i_84, H, hst, hsh⟩
     cases k_106 with
     | zero => rw [r16_Same.l0] at H; cases H
     | succ k_106 =>
      rw [r16_Same.l0] at H
      refine wq_seq ?_
      refine wq_seq ?_
      refine wq_region_lit (.inl rfl) ?_
      refine r_t hst trivial rfl (x_move hst rfl) ?_; intro a hst
      refine r_t hst trivial rfl (x_move hst rfl) ?_; intro a hst
      refine r_t hst trivial rfl (x_lenSl hst Try.underlying23 rfl hra0.slen) ?_; intro a hst
      refine r_t hst trivial rfl (x_cmpI (b := decide (i_84 < (a0.length : Int))) hst rfl rfl rfl) ?_; intro a hst
      refine wpL_nil ?_
      refine then_normal ?_
      by_cases c1454 : (decide (i_84 < (a0.length : Int))) = true
      · rw [if_pos c1454] at H
        refine wq_condT hst rfl c1454 ?_
        refine wq_skip ?_
        refine then_normal ?_
        obtain ⟨J_116, hJ_116, H⟩ := Jn.elim H
        refine wq_cut (fun a w' => J_116 = some r ∧ ST [] Try.f16.ntmps a [(0, va0), (1, va1), (4, .bool false), (5, .int .i64 i_84)] ∧ SH (fun _ => False) w w' []) ?_ ?_
        · rintro a W_115 ⟨H, hst, hsh⟩
          subst hJ_116
          refine wq_region_lit (.inl rfl) ?_
          refine r_t hst trivial rfl (x_move hst rfl) ?_; intro a hst
          refine r_t hst trivial rfl (x_arI (r := w64 (i_84 + 1)) hst rfl rfl rfl) ?_; intro a hst
          refine r_t hst trivial rfl (x_assign hst rfl) ?_; intro a hst
          refine wpL_nil ?_
          refine then_normal ?_
          exact ⟨k_106, Nat.lt_succ_self _, (w64 (i_84 + 1)), H, hst.keep _ ⟨rfl, rfl, rfl, rfl, trivial⟩, hsh.pick []⟩
        · refine wq_block ?_
          refine wq_seq ?_
          refine wq_seq ?_
          refine wq_region_q (.inl rfl) (fun w' => SH (fun _ => False) w w' []) (shut_sh _ _ _) hsh.drew fo (by kernel_rfl) ?_
          refine q_t hst trivial rfl (fun _ hsh => x_move hst rfl) ?_; intro a hst
          refine q_t hst trivial rfl (fun _ hsh => x_move hst rfl) ?_; intro a hst
          obtain ⟨x1611, hx1611, H⟩ := Option.bind_eq_some_iff.1 H
          refine q_t hst trivial rfl (fun _ hsh => x_indexAddr hst Try.underlying23 el_39 rfl rfl hra0 hx1611) ?_; intro a hst
          obtain ⟨_, hk1612, hc1613⟩ := RD.cells2 hra0 hx1611
          obtain ⟨v1614, rfl, hr1615⟩ := hk1612
          refine q_t hst trivial rfl (fun _ hsh => x_loadC hst sc_39 rfl (hc1613 _ (Same.sh0 hsa0 hsh) 0 _ rfl)) ?_; intro a hst
          refine q_t hst trivial rfl (fun _ hsh => x_lenSl hst Try.underlying39 rfl hr1615.slen) ?_; intro a hst
          refine q_t hst trivial rfl (fun _ hsh => x_move hst rfl) ?_; intro a hst
          refine q_t hst trivial rfl (fun _ hsh => x_move hst rfl) ?_; intro a hst
          obtain ⟨x1616, hx1616, H⟩ := Option.bind_eq_some_iff.1 H
          refine q_t hst trivial rfl (fun _ hsh => x_indexAddr hst Try.underlying23 el_39 rfl rfl hra1 hx1616) ?_; intro a hst
          obtain ⟨_, hk1617, hc1618⟩ := RD.cells2 hra1 hx1616
          obtain ⟨v1619, rfl, hr1620⟩ := hk1617
          refine q_t hst trivial rfl (fun _ hsh => x_loadC hst sc_39 rfl (hc1618 _ (Same.sh0 hsa1 hsh) 0 _ rfl)) ?_; intro a hst
          refine q_t hst trivial rfl (fun _ hsh => x_lenSl hst Try.underlying39 rfl hr1620.slen) ?_; intro a hst
          refine q_t hst trivial rfl (fun _ hsh => x_cmpI (b := ((x1611.length : Int) != (x1616.length : Int))) hst rfl rfl rfl) ?_; intro a hst
          refine q_nil ?_
          intro w1621 hsh
          refine then_normal ?_
          by_cases c1622 : ((x1611.length : Int) != (x1616.length : Int)) = true
          · rw [if_pos c1622] at H
            refine wq_condT hst rfl c1622 ?_
            refine wq_seq ?_
            refine wq_region_lit (.inl rfl) ?_
            refine r_t hst trivial rfl (x_assign hst rfl) ?_; intro a hst
            refine wpL_nil ?_
            refine then_normal ?_
            refine wq_ret ?_
            refine then_ret ?_
            refine block_ret ?_
            refine then_ret ?_
            refine then_ret ?_
            refine block_ret ?_
            refine then_ret ?_
            obtain rfl := Option.some.inj H
            exact ret1 hst rfl rfl ⟨rfl, hsh.pick []⟩
          · rw [if_neg c1622] at H
            replace c1622 := Bool.eq_false_iff.2 c1622
            refine wq_condF hst rfl c1622 ?_
            refine wq_skip ?_
            refine then_normal ?_
            refine wq_seq ?_
            refine wq_region_lit (.inl rfl) ?_
            refine r_t hst trivial rfl (x_assign hst rfl) ?_; intro a hst
            refine wpL_nil ?_
            refine then_normal ?_
            refine wq_block ?_
            refine wq_loop_fuel (fun k_124 a w' => ∃ (i_120 : Int), r16_Same.l1 a0 a1 i_84 J_116 k_124 i_120 = some r ∧ ST [] Try.f16.ntmps a [(0, va0), (1, va1), (4, .bool false), (5, .int .i64 i_84), (6, .int .i64 i_120)] ∧ SH (fun _ => False) w w' []) k_106 ?_ ?_
            · exact ⟨0, H, hst.keep _ ⟨rfl, rfl, rfl, rfl, rfl, trivial⟩, hsh.pick []⟩
            · rintro k_124 a W_121 ⟨i_120, H, hst, hsh⟩
              cases k_124 with
              | zero => rw [r16_Same.l1] at H; cases H
              | succ k_124 =>
               rw [r16_Same.l1] at H
               refine wq_seq ?_
               refine wq_seq ?_
               refine wq_region_lit (.inl rfl) ?_
               refine r_t hst trivial rfl (x_move hst rfl) ?_; intro a hst
               refine r_t hst trivial rfl (x_move hst rfl) ?_; intro a hst
               refine r_t hst trivial rfl (x_move hst rfl) ?_; intro a hst
               obtain ⟨x1709, hx1709, H⟩ := Option.bind_eq_some_iff.1 H
               refine r_t hst trivial rfl (x_indexAddr hst Try.underlying23 el_39 rfl rfl hra0 hx1709) ?_; intro a hst
               obtain ⟨_, hk1710, hc1711⟩ := RD.cells2 hra0 hx1709
               obtain ⟨v1712, rfl, hr1713⟩ := hk1710
               refine r_t hst trivial rfl (x_loadC hst sc_39 rfl (hc1711 _ (Same.sh0 hsa0 hsh) 0 _ rfl)) ?_; intro a hst
               refine r_t hst trivial rfl (x_lenSl hst Try.underlying39 rfl hr1713.slen) ?_; intro a hst
               refine r_t hst trivial rfl (x_cmpI (b := decide (i_120 < (x1709.length : Int))) hst rfl rfl rfl) ?_; intro a hst
               refine wpL_nil ?_
               refine then_normal ?_
               by_cases c1714 : (decide (i_120 < (x1709.length : Int))) = true
               · rw [if_pos c1714] at H
                 refine wq_condT hst rfl c1714 ?_
                 refine wq_skip ?_
                 refine then_normal ?_
                 refine wq_seq ?_
                 refine wq_block ?_
                 refine wq_seq ?_
                 refine wq_region_q (.inl rfl) (fun w' => SH (fun _ => False) w w' []) (shut_sh _ _ _) hsh.drew fo (by kernel_rfl) ?_
                 refine q_t hst trivial rfl (fun _ hsh => x_move hst rfl) ?_; intro a hst
                 refine q_t hst trivial rfl (fun _ hsh => x_move hst rfl) ?_; intro a hst
                 obtain ⟨x1729, hx1729, H⟩ := Option.bind_eq_some_iff.1 H
                 refine q_t hst trivial rfl (fun _ hsh => x_indexAddr hst Try.underlying23 el_39 rfl rfl hra0 hx1729) ?_; intro a hst
                 obtain ⟨_, hk1730, hc1731⟩ := RD.cells2 hra0 hx1729
                 obtain ⟨v1732, rfl, hr1733⟩ := hk1730
                 refine q_t hst trivial rfl (fun _ hsh => x_loadC hst sc_39 rfl (hc1731 _ (Same.sh0 hsa0 hsh) 0 _ rfl)) ?_; intro a hst
                 refine q_t hst trivial rfl (fun _ hsh => x_move hst rfl) ?_; intro a hst
                 obtain ⟨x1734, hx1734, H⟩ := Option.bind_eq_some_iff.1 H
                 refine q_t hst trivial rfl (fun _ hsh => x_indexAddr hst Try.underlying39 el_43 rfl rfl hr1733 hx1734) ?_; intro a hst
                 refine q_t hst trivial rfl (fun _ hsh => x_loadEsF (j := 0) (cs := [.int .i64 x1734.Number, .int .i64 x1734.Size, .string x1734.Least, .string x1734.Limit, .int .u64 x1734.Low, .int .u64 x1734.High]) (ps := [.int .i64 x1734.Number, .int .i64 x1734.Size, .string x1734.Least, .string x1734.Limit, .int .u64 x1734.Low, .int .u64 x1734.High]) hst ag_43 rfl hr1733 (Same.sh0 hsa0 hsh) hx1734 rfl (fun _ h => h) rfl) ?_; intro a hst
                 refine q_t hst trivial rfl (fun _ hsh => x_move hst rfl) ?_; intro a hst
                 refine q_t hst trivial rfl (fun _ hsh => x_move hst rfl) ?_; intro a hst
                 obtain ⟨x1735, hx1735, H⟩ := Option.bind_eq_some_iff.1 H
                 refine q_t hst trivial rfl (fun _ hsh => x_indexAddr hst Try.underlying23 el_39 rfl rfl hra1 hx1735) ?_; intro a hst
                 obtain ⟨_, hk1736, hc1737⟩ := RD.cells2 hra1 hx1735
                 obtain ⟨v1738, rfl, hr1739⟩ := hk1736
                 refine q_t hst trivial rfl (fun _ hsh => x_loadC hst sc_39 rfl (hc1737 _ (Same.sh0 hsa1 hsh) 0 _ rfl)) ?_; intro a hst
                 refine q_t hst trivial rfl (fun _ hsh => x_move hst rfl) ?_; intro a hst
                 obtain ⟨x1740, hx1740, H⟩ := Option.bind_eq_some_iff.1 H
                 refine q_t hst trivial rfl (fun _ hsh => x_indexAddr hst Try.underlying39 el_43 rfl rfl hr1739 hx1740) ?_; intro a hst
                 refine q_t hst trivial rfl (fun _ hsh => x_loadEsF (j := 0) (cs := [.int .i64 x1740.Number, .int .i64 x1740.Size, .string x1740.Least, .string x1740.Limit, .int .u64 x1740.Low, .int .u64 x1740.High]) (ps := [.int .i64 x1740.Number, .int .i64 x1740.Size, .string x1740.Least, .string x1740.Limit, .int .u64 x1740.Low, .int .u64 x1740.High]) hst ag_43 rfl hr1739 (Same.sh0 hsa1 hsh) hx1740 rfl (fun _ h => h) rfl) ?_; intro a hst
                 refine q_t hst trivial rfl (fun _ hsh => x_eqSn (b := File.eqb x1734 x1740) (x0 := x1734) (y0 := x1740) hst eqof_43 rfl rfl rfl) ?_; intro a hst
                 refine q_nil ?_
                 intro w1741 hsh
                 refine then_normal ?_
                 by_cases c1742 : (!File.eqb x1734 x1740) = true
                 · rw [if_pos c1742] at H
                   refine wq_condT hst rfl c1742 ?_
                   refine wq_seq ?_
                   refine wq_region_lit (.inl rfl) ?_
                   refine r_t hst trivial rfl (x_assign hst rfl) ?_; intro a hst
                   refine wpL_nil ?_
                   refine then_normal ?_
                   refine wq_ret ?_
                   refine block_ret ?_
                   refine then_ret ?_
                   refine then_ret ?_
                   refine block_ret ?_
                   refine block_ret ?_
                   refine then_ret ?_
                   refine then_ret ?_
                   refine block_ret ?_
                   refine then_ret ?_
                   obtain rfl := Option.some.inj H
                   exact ret1 hst rfl rfl ⟨rfl, hsh.pick []⟩
                 · rw [if_neg c1742] at H
                   replace c1742 := Bool.eq_false_iff.2 c1742
                   refine wq_condF hst rfl c1742 ?_
                   refine wq_skip ?_
                   refine block_normal ?_
                   refine then_normal ?_
                   refine wq_region_lit (.inl rfl) ?_
                   refine r_t hst trivial rfl (x_move hst rfl) ?_; intro a hst
                   refine r_t hst trivial rfl (x_arI (r := w64 (i_120 + 1)) hst rfl rfl rfl) ?_; intro a hst
                   refine r_t hst trivial rfl (x_assign hst rfl) ?_; intro a hst
                   refine wpL_nil ?_
                   refine then_normal ?_
                   exact ⟨k_124, Nat.lt_succ_self _, (w64 (i_120 + 1)), H, hst.keep _ ⟨rfl, rfl, rfl, rfl, rfl, trivial⟩, hsh.pick []⟩
               · rw [if_neg c1714] at H
                 replace c1714 := Bool.eq_false_iff.2 c1714
                 refine wq_condF hst rfl c1714 ?_
                 refine wq_exit ?_
                 refine then_exit ?_
                 refine then_exit ?_
                 refine block_hit ?_
                 refine block_normal ?_
                 refine then_normal ?_
                 exact ⟨H, hst.keep _ ⟨rfl, rfl, rfl, rfl, trivial⟩, hsh.pick []⟩
      · rw [if_neg c1454] at H
        replace c1454 := Bool.eq_false_iff.2 c1454
        refine wq_condF hst rfl c1454 ?_
        refine wq_exit ?_
        refine then_exit ?_
        refine then_exit ?_
        refine block_hit ?_
        refine then_normal ?_
        refine wq_seq ?_
        refine wq_region_lit (.inl rfl) ?_
        refine r_t hst trivial rfl (x_assign hst rfl) ?_; intro a hst
        refine wpL_nil ?_
        refine then_normal ?_
        refine wq_ret ?_
        obtain rfl := Option.some.inj H
        exact ret1 hst rfl rfl ⟨rfl, hsh.pick []⟩

set_option maxHeartbeats 4000000 in
set_option maxRecDepth 100000 in
theorem l16_VersionSpans.calls (k : Nat) (w : World) (va0 : Value) (Za0 : Nat → Prop) (wra0 : World) (hsa0 : Same Za0 wra0 w) (a0 : (List File)) (hra0 : RD k_File Za0 wra0 va0 a0) (va1 : Value) (Za1 : Nat → Prop) (wra1 : World) (hsa1 : Same Za1 wra1 w) (a1 : (List (List File))) (hra1 : RD (Kd.slice 43 k_File) Za1 wra1 va1 a1) (va2 : Value) (Za2 : Nat → Prop) (wra2 : World) (hsa2 : Same Za2 wra2 w) (a2 : (List (List File))) (hra2 : RD (Kd.slice 43 k_File) Za2 wra2 va2 a2) (r : Bool) (h : l16_VersionSpans k a0 a1 a2 = some r) :
    Calls Try.prog 8 ([va0, va1, va2] : List Value).toArray w fun e w' => e = .returned (.bool r) ∧ SH (fun _ => False) w w' [] := by
 have H := h
 clear h
 unfold l16_VersionSpans at H
 refine calls_enter Try.func8 rfl rfl ?_
 intro a hst
 have hsh := SH.zero (fun _ => False) w
 refine wq_seq ?_
 refine wq_region_lit (.inl rfl) ?_
 refine r_t hst trivial rfl (x_assign hst rfl) ?_; intro a hst
 refine wpL_nil ?_
 refine then_normal ?_
 refine wq_seq ?_
 refine wq_region_lit (.inl rfl) ?_
 refine r_buildSlice (vs := []) (cs := []) hst hsh trivial rfl Try.underlying39 el_43 rfl rfl (by simp [Value.cells]) rfl rfl ?_
 intro g1 a w2 hgg1 hsh hst
 replace hsh := hsh.pick [0]
 replace hsh : SH (fun _ => False) w w2 [Row k_File 43 (.slice (some ⟨g1, 0, none⟩) 0 0) ([])] := SH.boxRow ([] : List File) hsh rfl rfl rfl
 refine r_t hst trivial rfl (x_move hst rfl) ?_; intro a hst
 replace hsh := hsh.pick [0]
 obtain ⟨l4, hl4, H⟩ := Option.bind_eq_some_iff.1 H
 refine r_appendN (M := []) hst hsh trivial rfl Try.underlying39 el_43 (by decide) (by decide) (by decide) rfl rfl (flat_flat _ _ _ _) hra0 (Same.sh0 hsa0 hsh) hl4 ?_
 intro v5 a w6 hsh hst
 refine r_t hst trivial rfl (x_assign hst rfl) ?_; intro a hst
 refine wpL_nil ?_
 refine then_normal ?_
 refine wq_seq ?_
 refine wq_region_lit (.inl rfl) ?_
 refine r_t hst trivial rfl (x_move hst rfl) ?_; intro a hst
 obtain ⟨r7, hr7, H⟩ := Option.bind_eq_some_iff.1 H
 refine r_callD hst trivial rfl fn_34 rfl (version_Span.calls k _ _ _ _ (Same.refl _ _) _ (hsh.row 0 rfl) r7 hr7) ?_
 rintro e w8 ⟨rfl, hc⟩
 replace hsh := hsh.call0 hc
 clear hc
 refine ⟨_, rfl, fun a hst => ?_⟩
 refine r_t hst trivial rfl (x_move hst rfl) ?_; intro a hst
 refine r_t hst trivial rfl (x_extract hst rfl rfl) ?_; intro a hst
 refine r_t hst trivial rfl (x_extract hst rfl rfl) ?_; intro a hst
 refine r_t hst trivial rfl (x_extract hst rfl rfl) ?_; intro a hst
 refine r_t hst trivial rfl (x_assign hst rfl) ?_; intro a hst
 refine r_t hst trivial rfl (x_assign hst rfl) ?_; intro a hst
 refine r_t hst trivial rfl (x_assign hst rfl) ?_; intro a hst
 refine wpL_nil ?_
 refine then_normal ?_
 refine wq_seq ?_
 refine wq_region_lit (.inl rfl) ?_
 refine r_t hst trivial rfl (x_move hst rfl) ?_; intro a hst
 obtain ⟨r9, hr9, H⟩ := Option.bind_eq_some_iff.1 H
 refine r_callD hst trivial rfl fn_35 rfl (r16_Span.calls k _ _ _ _ (Same.sh0 hsa0 hsh) _ hra0 r9 hr9) ?_
 rintro e w10 ⟨rfl, hc⟩
 replace hsh := hsh.call0 hc
 clear hc
 refine ⟨_, rfl, fun a hst => ?_⟩
 refine r_t hst trivial rfl (x_move hst rfl) ?_; intro a hst
 refine r_t hst trivial rfl (x_extract hst rfl rfl) ?_; intro a hst
 refine r_t hst trivial rfl (x_extract hst rfl rfl) ?_; intro a hst
 refine r_t hst trivial rfl (x_extract hst rfl rfl) ?_; intro a hst
 refine r_t hst trivial rfl (x_assign hst rfl) ?_; intro a hst
 refine r_t hst trivial rfl (x_assign hst rfl) ?_; intro a hst
 refine r_t hst trivial rfl (x_assign hst rfl) ?_; intro a hst
 refine wpL_nil ?_
 refine then_normal ?_
 refine wq_seq ?_
 refine wq_region_lit (.inl rfl) ?_
 obtain ⟨r11, hr11, H⟩ := Option.bind_eq_some_iff.1 H
 refine r_callD hst trivial rfl fn_21 rfl (l16_one.calls k _ r11 hr11) ?_
 rintro e w12 ⟨rfl, hc⟩
 replace hsh := hsh.call0 hc
 clear hc
 refine ⟨_, rfl, fun a hst => ?_⟩
 refine r_t hst trivial rfl (x_move hst rfl) ?_; intro a hst
 refine wl_join0 (Δ := []) (N := Try.f8.ntmps) 6 [(0, va0), (1, va1), (2, va2), (6, .bool false), (7, v5), (9, .string r7.2.1), (10, .bool r7.2.2), (12, .string r9.2.1), (13, .bool r9.2.2), (34, .bool (r11 && (sEq r7.1 r9.1)))] ?_ ?_
 · intro a hst
   refine r_t hst trivial rfl (x_move hst rfl) ?_; intro a hst
   refine wl_join0 (Δ := []) (N := Try.f8.ntmps) 11 [(0, va0), (1, va1), (2, va2), (6, .bool false), (7, v5), (10, .bool r7.2.2), (13, .bool r9.2.2), (39, .bool ((r11 && (sEq r7.1 r9.1)) && (sEq r7.2.1 r9.2.1)))] ?_ ?_
   · intro a hst
     refine r_t hst trivial rfl (x_move hst rfl) ?_; intro a hst
     refine wl_join0 (Δ := []) (N := Try.f8.ntmps) 16 [(0, va0), (1, va1), (2, va2), (6, .bool false), (7, v5), (44, .bool (((r11 && (sEq r7.1 r9.1)) && (sEq r7.2.1 r9.2.1)) && (r7.2.2 == r9.2.2)))] ?_ ?_
     · intro a hst
       refine r_t hst trivial rfl (x_move hst rfl) ?_; intro a hst
       obtain ⟨J_2, hJ_2, H⟩ := Jn.elim H
       refine wl_join 21 (fun a w' => ∃ (b_1 : Bool), J_2 b_1 = some r ∧ ST [] Try.f8.ntmps a [(1, va1), (2, va2), (6, .bool false), (49, .bool b_1)] ∧ SH (fun _ => False) w w' []) ?_ ?_
       · rintro a W_3 ⟨b_1, H, hst, hsh⟩
         subst hJ_2
         dsimp only at H
         refine r_t hst trivial rfl (x_move hst rfl) ?_; intro a hst
         obtain ⟨J_5, hJ_5, H⟩ := Jn.elim H
         refine wl_join 31 (fun a w' => ∃ (b_4 : Bool), J_5 b_4 = some r ∧ ST [] Try.f8.ntmps a [(1, va1), (6, .bool false), (59, .bool b_4)] ∧ SH (fun _ => False) w w' []) ?_ ?_
         · rintro a W_6 ⟨b_4, H, hst, hsh⟩
           subst hJ_5
           dsimp only at H
           refine r_t hst trivial rfl (x_move hst rfl) ?_; intro a hst
           obtain ⟨J_8, hJ_8, H⟩ := Jn.elim H
           refine wl_join 37 (fun a w' => ∃ (b_7 : Bool), J_8 b_7 = some r ∧ ST [] Try.f8.ntmps a [(6, .bool false), (65, .bool b_7)] ∧ SH (fun _ => False) w w' []) ?_ ?_
           · rintro a W_9 ⟨b_7, H, hst, hsh⟩
             subst hJ_8
             dsimp only at H
             refine r_t hst trivial rfl (x_assign hst rfl) ?_; intro a hst
             refine wpL_nil ?_
             refine then_normal ?_
             refine wq_ret ?_
             obtain rfl := Option.some.inj H
             exact ret1 hst rfl rfl ⟨rfl, hsh.pick []⟩
           · intro hj
             by_cases c28 : b_4 = true
             · rw [if_pos c28] at H
               refine r_t hst (wt_of 60 rfl rfl c28) rfl (x_move hst rfl) ?_; intro a hst
               refine r_t hst (wt_of 60 rfl rfl c28) rfl (x_move hst rfl) ?_; intro a hst
               obtain ⟨r35, hr35, H⟩ := Option.bind_eq_some_iff.1 H
               refine r_callD hst (wt_of 60 rfl rfl c28) rfl fn_11 rfl (l16_copied.calls k _ _ _ _ (Same.sh0 hsa1 hsh) _ hra1 r35 hr35) ?_
               rintro e w36 ⟨v37, rfl, hc⟩
               replace hsh := hsh.call0 hc
               clear hc
               refine ⟨_, rfl, fun a hst => ?_⟩
               obtain ⟨r39, hr39, H⟩ := Option.bind_eq_some_iff.1 H
               refine r_callD hst (wt_of 60 rfl rfl c28) rfl fn_36 rfl (version_Same.calls k _ _ _ _ (Same.sh0 hsa1 hsh) _ hra1 _ _ _ (Same.refl _ _) _ (hsh.row 0 rfl) r39 hr39) ?_
               rintro e w40 ⟨rfl, hc⟩
               replace hsh := hsh.call0 hc
               clear hc
               refine ⟨_, rfl, fun a hst => ?_⟩
               refine r_t hst trivial rfl (x_pickT hst rfl c28 rfl) ?_; intro a hst
               exact hj _ _ ⟨r39, H, hst.keep _ ⟨rfl, rfl, trivial⟩, hsh.pick []⟩
             · rw [if_neg c28] at H
               replace c28 := Bool.eq_false_iff.2 c28
               refine r_not hst 60 rfl rfl c28 rfl ?_; intro a hst
               refine r_not hst 60 rfl rfl c28 rfl ?_; intro a hst
               refine r_not hst 60 rfl rfl c28 rfl ?_; intro a hst
               refine r_not hst 60 rfl rfl c28 rfl ?_; intro a hst
               refine r_t hst trivial rfl (x_pickF hst rfl c28 rfl) ?_; intro a hst
               exact hj _ _ ⟨false, H, hst.keep _ ⟨rfl, rfl, trivial⟩, hsh.pick []⟩
         · intro hj
           by_cases c19 : b_1 = true
           · rw [if_pos c19] at H
             refine r_t hst (wt_of 50 rfl rfl c19) rfl (x_move hst rfl) ?_; intro a hst
             obtain ⟨r41, hr41, H⟩ := Option.bind_eq_some_iff.1 H
             refine r_callD hst (wt_of 50 rfl rfl c19) rfl fn_11 rfl (l16_copied.calls k _ _ _ _ (Same.sh0 hsa1 hsh) _ hra1 r41 hr41) ?_
             rintro e w42 ⟨v43, rfl, hc⟩
             replace hsh := hsh.call0 hc
             clear hc
             refine ⟨_, rfl, fun a hst => ?_⟩
             refine r_t hst (wt_of 50 rfl rfl c19) rfl (x_move hst rfl) ?_; intro a hst
             obtain ⟨r45, hr45, H⟩ := Option.bind_eq_some_iff.1 H
             refine r_callD hst (wt_of 50 rfl rfl c19) rfl fn_36 rfl (version_Same.calls k _ _ _ _ (Same.refl _ _) _ (hsh.row 0 rfl) _ _ _ (Same.sh0 hsa2 hsh) _ hra2 r45 hr45) ?_
             rintro e w46 ⟨rfl, hc⟩
             replace hsh := hsh.call0 hc
             clear hc
             refine ⟨_, rfl, fun a hst => ?_⟩
             refine r_t hst (wt_of 50 rfl rfl c19) rfl (x_move hst rfl) ?_; intro a hst
             refine r_t hst (wt_of 50 rfl rfl c19) rfl (x_move hst rfl) ?_; intro a hst
             obtain ⟨r47, hr47, H⟩ := Option.bind_eq_some_iff.1 H
             refine r_callD hst (wt_of 50 rfl rfl c19) rfl fn_16 rfl (r16_Same.calls k _ _ _ _ (Same.sh0 hsa1 hsh) _ hra1 _ _ _ (Same.sh0 hsa2 hsh) _ hra2 r47 hr47) ?_
             rintro e w48 ⟨rfl, hc⟩
             replace hsh := hsh.call0 hc
             clear hc
             refine ⟨_, rfl, fun a hst => ?_⟩
             refine r_t hst (wt_of 50 rfl rfl c19) rfl (x_eqB (b := (r45 == r47)) hst Try.underlying4 rfl rfl rfl) ?_; intro a hst
             refine r_t hst trivial rfl (x_pickT hst rfl c19 rfl) ?_; intro a hst
             exact hj _ _ ⟨(r45 == r47), H, hst.keep _ ⟨rfl, rfl, rfl, trivial⟩, hsh.pick []⟩
           · rw [if_neg c19] at H
             replace c19 := Bool.eq_false_iff.2 c19
             refine r_not hst 50 rfl rfl c19 rfl ?_; intro a hst
             refine r_not hst 50 rfl rfl c19 rfl ?_; intro a hst
             refine r_not hst 50 rfl rfl c19 rfl ?_; intro a hst
             refine r_not hst 50 rfl rfl c19 rfl ?_; intro a hst
             refine r_not hst 50 rfl rfl c19 rfl ?_; intro a hst
             refine r_not hst 50 rfl rfl c19 rfl ?_; intro a hst
             refine r_not hst 50 rfl rfl c19 rfl ?_; intro a hst
             refine r_not hst 50 rfl rfl c19 rfl ?_; intro a hst
             refine r_t hst trivial rfl (x_pickF hst rfl c19 rfl) ?_; intro a hst
             exact hj _ _ ⟨false, H, hst.keep _ ⟨rfl, rfl, rfl, trivial⟩, hsh.pick []⟩
       · intro hj
         by_cases c16 : (((r11 && (sEq r7.1 r9.1)) && (sEq r7.2.1 r9.2.1)) && (r7.2.2 == r9.2.2)) = true
         · rw [if_pos c16] at H
           refine r_t hst (wt_of 45 rfl rfl c16) rfl (x_move hst rfl) ?_; intro a hst
           refine r_t hst (wt_of 45 rfl rfl c16) rfl (x_move hst rfl) ?_; intro a hst
           obtain ⟨r49, hr49, H⟩ := Option.bind_eq_some_iff.1 H
           refine r_callD hst (wt_of 45 rfl rfl c16) rfl fn_22 rfl (l16_files.calls k _ _ _ _ (Same.refl _ _) _ (hsh.row 0 rfl) _ _ _ (Same.sh0 hsa0 hsh) _ hra0 r49 hr49) ?_
           rintro e w50 ⟨rfl, hc⟩
           replace hsh := hsh.call0 hc
           clear hc
           refine ⟨_, rfl, fun a hst => ?_⟩
           refine r_t hst trivial rfl (x_pickT hst rfl c16 rfl) ?_; intro a hst
           exact hj _ _ ⟨r49, H, hst.keep _ ⟨rfl, rfl, rfl, rfl, trivial⟩, hsh.pick []⟩
         · rw [if_neg c16] at H
           replace c16 := Bool.eq_false_iff.2 c16
           refine r_not hst 45 rfl rfl c16 rfl ?_; intro a hst
           refine r_not hst 45 rfl rfl c16 rfl ?_; intro a hst
           refine r_not hst 45 rfl rfl c16 rfl ?_; intro a hst
           refine r_t hst trivial rfl (x_pickF hst rfl c16 rfl) ?_; intro a hst
           exact hj _ _ ⟨false, H, hst.keep _ ⟨rfl, rfl, rfl, rfl, trivial⟩, hsh.pick []⟩
     · intro hj
       by_cases c15 : ((r11 && (sEq r7.1 r9.1)) && (sEq r7.2.1 r9.2.1)) = true
       · refine r_t hst (wt_of 40 rfl rfl c15) rfl (x_move hst rfl) ?_; intro a hst
         refine r_t hst (wt_of 40 rfl rfl c15) rfl (x_move hst rfl) ?_; intro a hst
         refine r_t hst (wt_of 40 rfl rfl c15) rfl (x_eqB (b := (r7.2.2 == r9.2.2)) hst Try.underlying4 rfl rfl rfl) ?_; intro a hst
         refine r_t hst trivial rfl (x_andT hst rfl c15 rfl) ?_; intro a hst
         exact hj _ (hst.keep _ ⟨rfl, rfl, rfl, rfl, rfl, rfl, trivial⟩)
       · replace c15 := Bool.eq_false_iff.2 c15
         refine r_not hst 40 rfl rfl c15 rfl ?_; intro a hst
         refine r_not hst 40 rfl rfl c15 rfl ?_; intro a hst
         refine r_not hst 40 rfl rfl c15 rfl ?_; intro a hst
         refine r_t hst trivial rfl (x_andF (r7.2.2 == r9.2.2) hst rfl c15 rfl) ?_; intro a hst
         exact hj _ (hst.keep _ ⟨rfl, rfl, rfl, rfl, rfl, rfl, trivial⟩)
   · intro hj
     by_cases c14 : (r11 && (sEq r7.1 r9.1)) = true
     · refine r_t hst (wt_of 35 rfl rfl c14) rfl (x_move hst rfl) ?_; intro a hst
       refine r_t hst (wt_of 35 rfl rfl c14) rfl (x_move hst rfl) ?_; intro a hst
       refine r_t hst (wt_of 35 rfl rfl c14) rfl (x_cmpS (b := sEq r7.2.1 r9.2.1) hst rfl rfl rfl) ?_; intro a hst
       refine r_t hst trivial rfl (x_andT hst rfl c14 rfl) ?_; intro a hst
       exact hj _ (hst.keep _ ⟨rfl, rfl, rfl, rfl, rfl, rfl, rfl, rfl, trivial⟩)
     · replace c14 := Bool.eq_false_iff.2 c14
       refine r_not hst 35 rfl rfl c14 rfl ?_; intro a hst
       refine r_not hst 35 rfl rfl c14 rfl ?_; intro a hst
       refine r_not hst 35 rfl rfl c14 rfl ?_; intro a hst
       refine r_t hst trivial rfl (x_andF (sEq r7.2.1 r9.2.1) hst rfl c14 rfl) ?_; intro a hst
       exact hj _ (hst.keep _ ⟨rfl, rfl, rfl, rfl, rfl, rfl, rfl, rfl, trivial⟩)
 · intro hj
   by_cases c13 : r11 = true
   · refine r_t hst (wt_of 30 rfl rfl c13) rfl (x_move hst rfl) ?_; intro a hst
     refine r_t hst (wt_of 30 rfl rfl c13) rfl (x_move hst rfl) ?_; intro a hst
     refine r_t hst (wt_of 30 rfl rfl c13) rfl (x_cmpS (b := sEq r7.1 r9.1) hst rfl rfl rfl) ?_; intro a hst
     refine r_t hst trivial rfl (x_andT hst rfl c13 rfl) ?_; intro a hst
     exact hj _ (hst.keep _ ⟨rfl, rfl, rfl, rfl, rfl, rfl, rfl, rfl, rfl, rfl, trivial⟩)
   · replace c13 := Bool.eq_false_iff.2 c13
     refine r_not hst 30 rfl rfl c13 rfl ?_; intro a hst
     refine r_not hst 30 rfl rfl c13 rfl ?_; intro a hst
     refine r_not hst 30 rfl rfl c13 rfl ?_; intro a hst
     refine r_t hst trivial rfl (x_andF (sEq r7.1 r9.1) hst rfl c13 rfl) ?_; intro a hst
     exact hj _ (hst.keep _ ⟨rfl, rfl, rfl, rfl, rfl, rfl, rfl, rfl, rfl, rfl, trivial⟩)
end Go.Proofs.Ytbbepmmelpabbaa.Mo
