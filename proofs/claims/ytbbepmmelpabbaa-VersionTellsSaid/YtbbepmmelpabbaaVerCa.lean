/- Printed by gen.py: contracts. -/
import Derived.Test.YtbbepmmelpabbaaVerCa1
set_option linter.unusedVariables false
set_option linter.unusedSectionVars false
set_option linter.unusedSimpArgs false
set_option maxRecDepth 100000
namespace Go.Proofs.Ytbbepmmelpabbaa.Mo
open Go Go.Proofs.Ytbbepmmelpabbaa.Sy
open Go.Proofs
set_option maxHeartbeats 4000000 in
set_option maxRecDepth 100000 in
theorem version_Below.calls (k : Nat) (w : World) (va0 : Value) (Za0 : Nat → Prop) (wra0 : World) (hsa0 : Same Za0 wra0 w) (a0 : (List (List File))) (hra0 : RD (Kd.slice 43 k_File) Za0 wra0 va0 a0) (a1 : Int) (r : (List File)) (h : version_Below k a0 a1 = some r) :
    Calls Try.prog 28 ([va0, .int .i64 a1] : List Value).toArray w fun e w' => ∃ v0_ : Value, e = .returned (v0_) ∧ SH (fun _ => False) w w' [Row k_File 43 v0_ r] := by
 have H := h
 clear h
 unfold version_Below at H
 refine calls_enter Try.func28 rfl rfl ?_
 intro a hst
 have hsh := SH.zero (fun _ => False) w
 refine wq_seq ?_
 refine wq_region_lit (.inl rfl) ?_
 refine r_t hst trivial rfl (x_assign hst rfl) ?_; intro a hst
 refine wpL_nil ?_
 refine then_normal ?_
 refine wq_seq ?_
 refine wq_seq ?_
 refine wq_region_lit (.inl rfl) ?_
 refine r_t hst trivial rfl (x_move hst rfl) ?_; intro a hst
 obtain ⟨r4, hr4, H⟩ := Option.bind_eq_some_iff.1 H
 refine r_callD hst trivial rfl fn_12 rfl (version_Valid.calls k _ _ _ _ (Same.sh0 hsa0 hsh) _ hra0 r4 hr4) ?_
 rintro e w5 ⟨rfl, hc⟩
 replace hsh := hsh.call0 hc
 clear hc
 refine ⟨_, rfl, fun a hst => ?_⟩
 refine r_t hst trivial rfl (x_notB hst rfl) ?_; intro a hst
 refine wpL_nil ?_
 refine then_normal ?_
 by_cases c6 : (!r4) = true
 · rw [if_pos c6] at H
   refine wq_condT hst rfl c6 ?_
   refine wq_seq ?_
   refine wq_region_lit (.inl rfl) ?_
   refine r_t hst trivial rfl (x_assign hst rfl) ?_; intro a hst
   refine wpL_nil ?_
   refine then_normal ?_
   refine wq_ret ?_
   refine then_ret ?_
   obtain rfl := Option.some.inj H
   have hsh := hsh.addNil k_File 43
   exact ret1 hst rfl rfl ⟨(.slice none 0 0), rfl, hsh.pick [0]⟩
 · rw [if_neg c6] at H
   replace c6 := Bool.eq_false_iff.2 c6
   refine wq_condF hst rfl c6 ?_
   refine wq_skip ?_
   refine then_normal ?_
   refine wq_seq ?_
   refine wq_region_lit (.inl rfl) ?_
   refine r_t hst trivial rfl (x_assign hst rfl) ?_; intro a hst
   refine wpL_nil ?_
   refine then_normal ?_
   refine wq_seq ?_
   refine wq_seq ?_
   refine wq_region_lit (.inl rfl) ?_
   refine r_t hst trivial rfl (x_move hst rfl) ?_; intro a hst
   refine r_t hst trivial rfl (x_lenSl hst Try.underlying23 rfl hra0.slen) ?_; intro a hst
   refine r_t hst trivial rfl (x_move hst rfl) ?_; intro a hst
   refine wpL_nil ?_
   refine then_normal ?_
   refine wq_block ?_
   have hsh := hsh.addNil k_File 43
   refine wq_loop_fuel (fun k_56 a w' => ∃ (v_43 : Value), ∃ (l_44 : (List File)), ∃ (i_45 : Int), version_Below.l0 a0 a1 k_56 l_44 i_45 = some r ∧ ST [] Try.f28.ntmps a [(1, .int .i64 a1), (4, (.slice none 0 0)), (5, v_43), (11, va0), (12, .int .i64 (a0.length : Int)), (13, .int .i64 i_45)] ∧ SH (fun _ => False) w w' [Row k_File 43 v_43 l_44]) k ?_ ?_
   · exact ⟨(.slice none 0 0), ([]), 0, H, hst.keep _ ⟨rfl, rfl, rfl, rfl, rfl, rfl, trivial⟩, hsh.pick [0]⟩
   · rintro k_56 a W_46 ⟨v_43, l_44, i_45, H, hst, hsh⟩
     cases k_56 with
     | zero => rw [version_Below.l0] at H; cases H
     | succ k_56 =>
      rw [version_Below.l0] at H
      refine wq_seq ?_
      refine wq_region_lit (.inl rfl) ?_
      refine r_t hst trivial rfl (x_cmpI (b := decide (i_45 < (a0.length : Int))) hst rfl rfl rfl) ?_; intro a hst
      refine wpL_nil ?_
      refine then_normal ?_
      refine wq_seq ?_
      by_cases c116 : (decide (i_45 < (a0.length : Int))) = true
      · rw [if_pos c116] at H
        refine wq_condT hst rfl c116 ?_
        refine wq_skip ?_
        refine then_normal ?_
        obtain ⟨J_60, hJ_60, H⟩ := Jn.elim H
        refine wq_cut (fun a w' => ∃ (v_57 : Value), ∃ (l_58 : (List File)), J_60 l_58 = some r ∧ ST [] Try.f28.ntmps a [(1, .int .i64 a1), (4, (.slice none 0 0)), (5, v_57), (11, va0), (12, .int .i64 (a0.length : Int)), (13, .int .i64 i_45)] ∧ SH (fun _ => False) w w' [Row k_File 43 v_57 l_58]) ?_ ?_
        · rintro a W_59 ⟨v_57, l_58, H, hst, hsh⟩
          subst hJ_60
          dsimp only at H
          refine wq_region_lit (.inl rfl) ?_
          refine r_t hst trivial rfl (x_arI (r := w64 (i_45 + 1)) hst rfl rfl rfl) ?_; intro a hst
          refine r_t hst trivial rfl (x_move hst rfl) ?_; intro a hst
          refine wpL_nil ?_
          refine then_normal ?_
          exact ⟨k_56, Nat.lt_succ_self _, v_57, l_58, (w64 (i_45 + 1)), H, hst.keep _ ⟨rfl, rfl, rfl, rfl, rfl, rfl, trivial⟩, hsh.pick [0]⟩
        · refine wq_block ?_
          refine wq_seq ?_
          refine wq_region_lit (.inl rfl) ?_
          refine r_t hst trivial rfl (x_move hst rfl) ?_; intro a hst
          obtain ⟨x126, hx126, H⟩ := Option.bind_eq_some_iff.1 H
          refine r_t hst trivial rfl (x_indexAddr hst Try.underlying23 el_39 rfl rfl hra0 hx126) ?_; intro a hst
          obtain ⟨_, hk127, hc128⟩ := RD.cells2 hra0 hx126
          obtain ⟨v129, rfl, hr130⟩ := hk127
          refine r_t hst trivial rfl (x_loadC hst sc_39 rfl (hc128 _ (Same.sh0 hsa0 hsh) 0 _ rfl)) ?_; intro a hst
          refine r_t hst trivial rfl (x_assign hst rfl) ?_; intro a hst
          refine r_t hst trivial rfl (x_assign hst rfl) ?_; intro a hst
          refine wpL_nil ?_
          refine then_normal ?_
          refine wq_seq ?_
          refine wq_region_lit (.inl rfl) ?_
          refine r_t hst trivial rfl (x_move hst rfl) ?_; intro a hst
          refine r_t hst trivial rfl (x_move hst rfl) ?_; intro a hst
          refine r_t hst trivial rfl (x_cmpI (b := decide (a1 < i_45)) hst rfl rfl rfl) ?_; intro a hst
          refine wpL_nil ?_
          refine then_normal ?_
          by_cases c131 : (decide (a1 < i_45)) = true
          · rw [if_pos c131] at H
            refine wq_condT hst rfl c131 ?_
            refine wq_region_lit (.inl rfl) ?_
            refine r_t hst trivial rfl (x_move hst rfl) ?_; intro a hst
            refine r_t hst trivial rfl (x_move hst rfl) ?_; intro a hst
            replace hsh := hsh.pick [0]
            obtain ⟨l132, hl132, H⟩ := Option.bind_eq_some_iff.1 H
            refine r_appendN (M := []) hst hsh trivial rfl Try.underlying39 el_43 (by decide) (by decide) (by decide) rfl rfl (flat_flat _ _ _ _) hr130 (Same.sh0 hsa0 hsh) hl132 ?_
            intro v133 a w134 hsh hst
            refine r_t hst trivial rfl (x_assign hst rfl) ?_; intro a hst
            refine wpL_nil ?_
            refine block_normal ?_
            refine then_normal ?_
            exact ⟨v133, l132, H, hst.keep _ ⟨rfl, rfl, rfl, rfl, rfl, rfl, trivial⟩, hsh.pick [0]⟩
          · rw [if_neg c131] at H
            replace c131 := Bool.eq_false_iff.2 c131
            refine wq_condF hst rfl c131 ?_
            refine wq_skip ?_
            refine block_normal ?_
            refine then_normal ?_
            exact ⟨v_43, l_44, H, hst.keep _ ⟨rfl, rfl, rfl, rfl, rfl, rfl, trivial⟩, hsh.pick [0]⟩
      · rw [if_neg c116] at H
        replace c116 := Bool.eq_false_iff.2 c116
        refine wq_condF hst rfl c116 ?_
        refine wq_exit ?_
        refine then_exit ?_
        refine then_exit ?_
        refine block_hit ?_
        refine then_normal ?_
        refine wq_seq ?_
        refine wq_region_lit (.inl rfl) ?_
        refine r_t hst trivial rfl (x_move hst rfl) ?_; intro a hst
        refine r_t hst trivial rfl (x_assign hst rfl) ?_; intro a hst
        refine wpL_nil ?_
        refine then_normal ?_
        refine wq_ret ?_
        obtain rfl := Option.some.inj H
        exact ret1 hst rfl rfl ⟨v_43, rfl, hsh.pick [0]⟩

set_option maxHeartbeats 4000000 in
set_option maxRecDepth 100000 in
theorem l16_names.calls (w : World)  (r : Bool) (h : l16_names = some r) :
    Calls Try.prog 10 ([] : List Value).toArray w fun e w' => e = .returned (.bool r) ∧ SH (fun _ => False) w w' [] := by
 have H := h
 clear h
 unfold l16_names at H
 refine calls_enter Try.func10 rfl rfl ?_
 intro a hst
 have hsh := SH.zero (fun _ => False) w
 refine wq_seq ?_
 refine wq_region_lit (.inl rfl) ?_
 refine r_t hst trivial rfl (x_assign hst rfl) ?_; intro a hst
 refine wpL_nil ?_
 refine then_normal ?_
 refine wq_seq ?_
 refine wq_region_lit (.inl rfl) ?_
 refine r_t hst trivial rfl (x_assign hst rfl) ?_; intro a hst
 refine wpL_nil ?_
 refine then_normal ?_
 refine wq_ret ?_
 obtain rfl := Option.some.inj H
 exact ret1 hst rfl rfl ⟨rfl, hsh.pick []⟩

set_option maxHeartbeats 4000000 in
set_option maxRecDepth 100000 in
theorem version_Files.calls (k : Nat) (w : World) (va0 : Value) (Za0 : Nat → Prop) (wra0 : World) (hsa0 : Same Za0 wra0 w) (a0 : (List (List File))) (hra0 : RD (Kd.slice 43 k_File) Za0 wra0 va0 a0) (r : Int) (h : version_Files k a0 = some r) :
    Calls Try.prog 31 ([va0] : List Value).toArray w fun e w' => e = .returned (.int .i64 r) ∧ SH (fun _ => False) w w' [] := by
 have H := h
 clear h
 unfold version_Files at H
 refine calls_enter Try.func31 rfl rfl ?_
 intro a hst
 have hsh := SH.zero (fun _ => False) w
 refine wq_seq ?_
 refine wq_region_lit (.inl rfl) ?_
 refine r_t hst trivial rfl (x_assign hst rfl) ?_; intro a hst
 refine wpL_nil ?_
 refine then_normal ?_
 refine wq_seq ?_
 refine wq_region_lit (.inl rfl) ?_
 refine r_t hst trivial rfl (x_move hst rfl) ?_; intro a hst
 obtain ⟨r1, hr1, H⟩ := Option.bind_eq_some_iff.1 H
 refine r_callD hst trivial rfl fn_27 rfl (version_Numbers.calls k _ _ _ _ (Same.sh0 hsa0 hsh) _ hra0 r1 hr1) ?_
 rintro e w2 ⟨v3, rfl, hc⟩
 replace hsh := hsh.call0 hc
 clear hc
 refine ⟨_, rfl, fun a hst => ?_⟩
 refine r_t hst trivial rfl (x_lenSl hst Try.underlying56 rfl (hsh.row 0 rfl).slen) ?_; intro a hst
 refine r_t hst trivial rfl (x_assign hst rfl) ?_; intro a hst
 refine wpL_nil ?_
 refine then_normal ?_
 refine wq_ret ?_
 obtain rfl := Option.some.inj H
 exact ret1 hst rfl rfl ⟨rfl, hsh.pick []⟩

set_option maxHeartbeats 4000000 in
set_option maxRecDepth 100000 in
theorem version_of.calls (k : Nat) (w : World) (va0 : Value) (Za0 : Nat → Prop) (wra0 : World) (hsa0 : Same Za0 wra0 w) (a0 : (List (List File))) (hra0 : RD (Kd.slice 43 k_File) Za0 wra0 va0 a0) (a1 : Int) (r : (List File)) (h : version_of k a0 a1 = some r) :
    Calls Try.prog 46 ([va0, .int .i64 a1] : List Value).toArray w fun e w' => ∃ v0_ : Value, e = .returned (v0_) ∧ SH (fun _ => False) w w' [] ∧ RD k_File Za0 wra0 v0_ r := by
 have H := h
 clear h
 unfold version_of at H
 refine calls_enter Try.func46 rfl rfl ?_
 intro a hst
 have hsh := SH.zero (fun _ => False) w
 refine wq_seq ?_
 refine wq_region_lit (.inl rfl) ?_
 refine r_t hst trivial rfl (x_assign hst rfl) ?_; intro a hst
 refine wpL_nil ?_
 refine then_normal ?_
 refine wq_seq ?_
 refine wq_seq ?_
 refine wq_region_lit (.inl rfl) ?_
 refine r_t hst trivial rfl (x_move hst rfl) ?_; intro a hst
 obtain ⟨r6, hr6, H⟩ := Option.bind_eq_some_iff.1 H
 refine r_callD hst trivial rfl fn_12 rfl (version_Valid.calls k _ _ _ _ (Same.sh0 hsa0 hsh) _ hra0 r6 hr6) ?_
 rintro e w7 ⟨rfl, hc⟩
 replace hsh := hsh.call0 hc
 clear hc
 refine ⟨_, rfl, fun a hst => ?_⟩
 refine r_t hst trivial rfl (x_notB hst rfl) ?_; intro a hst
 refine r_t hst trivial rfl (x_move hst rfl) ?_; intro a hst
 refine wl_join0 (Δ := []) (N := Try.f46.ntmps) 7 [(0, va0), (1, .int .i64 a1), (4, (.slice none 0 0)), (11, .bool ((!r6) || (decide (a1 < 0))))] ?_ ?_
 · intro a hst
   refine r_t hst trivial rfl (x_move hst rfl) ?_; intro a hst
   refine wl_join0 (Δ := []) (N := Try.f46.ntmps) 13 [(0, va0), (1, .int .i64 a1), (4, (.slice none 0 0)), (17, .bool (((!r6) || (decide (a1 < 0))) || (decide ((a0.length : Int) ≤ a1))))] ?_ ?_
   · intro a hst
     refine wpL_nil ?_
     refine then_normal ?_
     by_cases c10 : (((!r6) || (decide (a1 < 0))) || (decide ((a0.length : Int) ≤ a1))) = true
     · rw [if_pos c10] at H
       refine wq_condT hst rfl c10 ?_
       refine wq_seq ?_
       refine wq_region_lit (.inl rfl) ?_
       refine r_t hst trivial rfl (x_assign hst rfl) ?_; intro a hst
       refine wpL_nil ?_
       refine then_normal ?_
       refine wq_ret ?_
       refine then_ret ?_
       obtain rfl := Option.some.inj H
       exact ret1 hst rfl rfl ⟨(.slice none 0 0), rfl, hsh.pick [], (RD.nil _ _ _)⟩
     · rw [if_neg c10] at H
       replace c10 := Bool.eq_false_iff.2 c10
       refine wq_condF hst rfl c10 ?_
       refine wq_skip ?_
       refine then_normal ?_
       refine wq_seq ?_
       refine wq_region_lit (.inl rfl) ?_
       refine r_t hst trivial rfl (x_move hst rfl) ?_; intro a hst
       refine r_t hst trivial rfl (x_move hst rfl) ?_; intro a hst
       obtain ⟨x11, hx11, H⟩ := Option.bind_eq_some_iff.1 H
       refine r_t hst trivial rfl (x_indexAddr hst Try.underlying23 el_39 rfl rfl hra0 hx11) ?_; intro a hst
       obtain ⟨_, hk12, hc13⟩ := RD.cells2 hra0 hx11
       obtain ⟨v14, rfl, hr15⟩ := hk12
       refine r_t hst trivial rfl (x_loadC hst sc_39 rfl (hc13 _ (Same.sh0 hsa0 hsh) 0 _ rfl)) ?_; intro a hst
       refine r_t hst trivial rfl (x_assign hst rfl) ?_; intro a hst
       refine wpL_nil ?_
       refine then_normal ?_
       refine wq_ret ?_
       obtain rfl := Option.some.inj H
       exact ret1 hst rfl rfl ⟨v14, rfl, hsh.pick [], hr15⟩
   · intro hj
     by_cases c9 : ((!r6) || (decide (a1 < 0))) = true
     · refine r_not hst 12 rfl rfl c9 rfl ?_; intro a hst
       refine r_not hst 12 rfl rfl c9 rfl ?_; intro a hst
       refine r_not hst 12 rfl rfl c9 rfl ?_; intro a hst
       refine r_not hst 12 rfl rfl c9 rfl ?_; intro a hst
       refine r_t hst trivial rfl (x_orT (decide ((a0.length : Int) ≤ a1)) hst rfl c9 rfl) ?_; intro a hst
       exact hj _ (hst.keep _ ⟨rfl, rfl, rfl, rfl, trivial⟩)
     · replace c9 := Bool.eq_false_iff.2 c9
       refine r_t hst (wt_of 12 rfl rfl c9) rfl (x_move hst rfl) ?_; intro a hst
       refine r_t hst (wt_of 12 rfl rfl c9) rfl (x_move hst rfl) ?_; intro a hst
       refine r_t hst (wt_of 12 rfl rfl c9) rfl (x_lenSl hst Try.underlying23 rfl hra0.slen) ?_; intro a hst
       refine r_t hst (wt_of 12 rfl rfl c9) rfl (x_cmpI (b := decide ((a0.length : Int) ≤ a1)) hst rfl rfl rfl) ?_; intro a hst
       refine r_t hst trivial rfl (x_orF hst rfl c9 rfl) ?_; intro a hst
       exact hj _ (hst.keep _ ⟨rfl, rfl, rfl, rfl, trivial⟩)
 · intro hj
   by_cases c8 : (!r6) = true
   · refine r_not hst 8 rfl rfl c8 rfl ?_; intro a hst
     refine r_not hst 8 rfl rfl c8 rfl ?_; intro a hst
     refine r_t hst trivial rfl (x_orT (decide (a1 < 0)) hst rfl c8 rfl) ?_; intro a hst
     exact hj _ (hst.keep _ ⟨rfl, rfl, rfl, rfl, trivial⟩)
   · replace c8 := Bool.eq_false_iff.2 c8
     refine r_t hst (wt_of 8 rfl rfl c8) rfl (x_move hst rfl) ?_; intro a hst
     refine r_t hst (wt_of 8 rfl rfl c8) rfl (x_cmpI (b := decide (a1 < 0)) hst rfl rfl rfl) ?_; intro a hst
     refine r_t hst trivial rfl (x_orF hst rfl c8 rfl) ?_; intro a hst
     exact hj _ (hst.keep _ ⟨rfl, rfl, rfl, rfl, trivial⟩)

set_option maxHeartbeats 4000000 in
set_option maxRecDepth 100000 in
theorem version_overlaps.calls (w : World) (a0 : File) (a1 : ByteArray) (a2 : ByteArray) (r : Bool) (h : version_overlaps a0 a1 a2 = some r) :
    Calls Try.prog 47 ([.agg #[.int .i64 a0.Number, .int .i64 a0.Size, .string a0.Least, .string a0.Limit, .int .u64 a0.Low, .int .u64 a0.High], .string a1, .string a2] : List Value).toArray w fun e w' => e = .returned (.bool r) ∧ SH (fun _ => False) w w' [] := by
 have H := h
 clear h
 unfold version_overlaps at H
 refine calls_enter Try.func47 rfl rfl ?_
 intro a hst
 have hsh := SH.zero (fun _ => False) w
 refine wq_seq ?_
 refine wq_region_lit (.inl rfl) ?_
 refine r_box hst hsh trivial rfl rfl rfl ?_
 intro g1 a w2 hgg1 hsh hst
 refine r_t hst trivial rfl (x_assign hst rfl) ?_; intro a hst
 refine wpL_nil ?_
 refine then_normal ?_
 refine wq_seq ?_
 refine wq_region_lit (.inl rfl) ?_
 refine r_t hst trivial rfl (x_fieldAddr (j' := 3) hst fa_43_3 rfl rfl) ?_; intro a hst
 refine r_t hst trivial rfl (x_loadB (i := 0) hst hsh sc_9 rfl rfl rfl) ?_; intro a hst
 refine r_t hst trivial rfl (x_move hst rfl) ?_; intro a hst
 refine r_t hst trivial rfl (x_cmpS (b := (!(sLt a0.Limit a1 || sEq a0.Limit a1))) hst rfl rfl rfl) ?_; intro a hst
 refine r_t hst trivial rfl (x_move hst rfl) ?_; intro a hst
 refine wl_join0 (Δ := []) (N := Try.f47.ntmps) 19 [(6, .bool false), (25, .bool ((!(sLt a0.Limit a1 || sEq a0.Limit a1)) && ((sEq a2 (ByteArray.mk #[])) || ((sLt a0.Least a2) && (!(sLt a2 a1 || sEq a2 a1))))))] ?_ ?_
 · intro a hst
   refine r_t hst trivial rfl (x_assign hst rfl) ?_; intro a hst
   refine wpL_nil ?_
   refine then_normal ?_
   refine wq_ret ?_
   obtain rfl := Option.some.inj H
   exact ret1 hst rfl rfl ⟨rfl, hsh.pick []⟩
 · intro hj
   by_cases c3 : (!(sLt a0.Limit a1 || sEq a0.Limit a1)) = true
   · refine r_t hst (wt_of 11 rfl rfl c3) rfl (x_move hst rfl) ?_; intro a hst
     refine r_t hst (wt_of 11 rfl rfl c3) rfl (x_cmpS (b := sEq a2 (ByteArray.mk #[])) hst rfl rfl rfl) ?_; intro a hst
     refine r_t hst (wt_of 11 rfl rfl c3) rfl (x_move hst rfl) ?_; intro a hst
     refine wl_join0 (Δ := []) (N := Try.f47.ntmps) 18 [(6, .bool false), (11, .bool (!(sLt a0.Limit a1 || sEq a0.Limit a1))), (24, .bool ((sEq a2 (ByteArray.mk #[])) || ((sLt a0.Least a2) && (!(sLt a2 a1 || sEq a2 a1)))))] ?_ ?_
     · intro a hst
       refine r_t hst trivial rfl (x_andT hst rfl c3 rfl) ?_; intro a hst
       exact hj _ (hst.keep _ ⟨rfl, rfl, trivial⟩)
     · intro hj
       by_cases c4 : (sEq a2 (ByteArray.mk #[])) = true
       · refine r_not hst 14 rfl rfl c4 rfl ?_; intro a hst
         refine r_not hst 14 rfl rfl c4 rfl ?_; intro a hst
         refine r_not hst 14 rfl rfl c4 rfl ?_; intro a hst
         refine r_not hst 14 rfl rfl c4 rfl ?_; intro a hst
         refine r_not hst 14 rfl rfl c4 rfl ?_; intro a hst
         refine r_notU hst 19 rfl rfl rfl ?_; intro a hst
         refine r_notU hst 19 rfl rfl rfl ?_; intro a hst
         refine r_notU hst 19 rfl rfl rfl ?_; intro a hst
         refine r_not hst 14 rfl rfl c4 rfl ?_; intro a hst
         refine r_t hst (wt_of 11 rfl rfl c3) rfl (x_orT ((sLt a0.Least a2) && (!(sLt a2 a1 || sEq a2 a1))) hst rfl c4 rfl) ?_; intro a hst
         exact hj _ (hst.keep _ ⟨rfl, rfl, rfl, trivial⟩)
       · replace c4 := Bool.eq_false_iff.2 c4
         refine r_t hst (wt_of 14 rfl rfl c4) rfl (x_fieldAddr (j' := 2) hst fa_43_2 rfl rfl) ?_; intro a hst
         refine r_t hst (wt_of 14 rfl rfl c4) rfl (x_loadB (i := 0) hst hsh sc_9 rfl rfl rfl) ?_; intro a hst
         refine r_t hst (wt_of 14 rfl rfl c4) rfl (x_move hst rfl) ?_; intro a hst
         refine r_t hst (wt_of 14 rfl rfl c4) rfl (x_cmpS (b := sLt a0.Least a2) hst rfl rfl rfl) ?_; intro a hst
         refine r_t hst (wt_of 14 rfl rfl c4) rfl (x_move hst rfl) ?_; intro a hst
         refine wl_join0 (Δ := []) (N := Try.f47.ntmps) 17 [(6, .bool false), (11, .bool (!(sLt a0.Limit a1 || sEq a0.Limit a1))), (14, .bool (sEq a2 (ByteArray.mk #[]))), (23, .bool ((sLt a0.Least a2) && (!(sLt a2 a1 || sEq a2 a1))))] ?_ ?_
         · intro a hst
           refine r_t hst (wt_of 11 rfl rfl c3) rfl (x_orF hst rfl c4 rfl) ?_; intro a hst
           exact hj _ (hst.keep _ ⟨rfl, rfl, rfl, trivial⟩)
         · intro hj
           by_cases c5 : (sLt a0.Least a2) = true
           · refine r_t hst (wt_of 19 rfl rfl c5) rfl (x_move hst rfl) ?_; intro a hst
             refine r_t hst (wt_of 19 rfl rfl c5) rfl (x_move hst rfl) ?_; intro a hst
             refine r_t hst (wt_of 19 rfl rfl c5) rfl (x_cmpS (b := (!(sLt a2 a1 || sEq a2 a1))) hst rfl rfl rfl) ?_; intro a hst
             refine r_t hst (wt_of 14 rfl rfl c4) rfl (x_andT hst rfl c5 rfl) ?_; intro a hst
             exact hj _ (hst.keep _ ⟨rfl, rfl, rfl, rfl, trivial⟩)
           · replace c5 := Bool.eq_false_iff.2 c5
             refine r_not hst 19 rfl rfl c5 rfl ?_; intro a hst
             refine r_not hst 19 rfl rfl c5 rfl ?_; intro a hst
             refine r_not hst 19 rfl rfl c5 rfl ?_; intro a hst
             refine r_t hst (wt_of 14 rfl rfl c4) rfl (x_andF (!(sLt a2 a1 || sEq a2 a1)) hst rfl c5 rfl) ?_; intro a hst
             exact hj _ (hst.keep _ ⟨rfl, rfl, rfl, rfl, trivial⟩)
   · replace c3 := Bool.eq_false_iff.2 c3
     refine r_not hst 11 rfl rfl c3 rfl ?_; intro a hst
     refine r_not hst 11 rfl rfl c3 rfl ?_; intro a hst
     refine r_not hst 11 rfl rfl c3 rfl ?_; intro a hst
     refine r_notU hst 14 rfl rfl rfl ?_; intro a hst
     refine r_notU hst 14 rfl rfl rfl ?_; intro a hst
     refine r_notU hst 14 rfl rfl rfl ?_; intro a hst
     refine r_notU hst 14 rfl rfl rfl ?_; intro a hst
     refine r_notU hst 14 rfl rfl rfl ?_; intro a hst
     refine r_notU hst 19 rfl rfl rfl ?_; intro a hst
     refine r_notU hst 19 rfl rfl rfl ?_; intro a hst
     refine r_notU hst 19 rfl rfl rfl ?_; intro a hst
     refine r_notU hst 14 rfl rfl rfl ?_; intro a hst
     refine r_not hst 11 rfl rfl c3 rfl ?_; intro a hst
     refine r_t hst trivial rfl (x_andF ((sEq a2 (ByteArray.mk #[])) || ((sLt a0.Least a2) && (!(sLt a2 a1 || sEq a2 a1)))) hst rfl c3 rfl) ?_; intro a hst
     exact hj _ (hst.keep _ ⟨rfl, rfl, trivial⟩)

set_option maxHeartbeats 4000000 in
set_option maxRecDepth 100000 in
theorem version_Over.calls (k : Nat) (w : World) (va0 : Value) (Za0 : Nat → Prop) (wra0 : World) (hsa0 : Same Za0 wra0 w) (a0 : (List (List File))) (hra0 : RD (Kd.slice 43 k_File) Za0 wra0 va0 a0) (a1 : Int) (a2 : ByteArray) (a3 : ByteArray) (r : (List File)) (h : version_Over k a0 a1 a2 a3 = some r) :
    Calls Try.prog 18 ([va0, .int .i64 a1, .string a2, .string a3] : List Value).toArray w fun e w' => ∃ v0_ : Value, e = .returned (v0_) ∧ SH (fun _ => False) w w' [Row k_File 43 v0_ r] := by
 have H := h
 clear h
 unfold version_Over at H
 refine calls_enter Try.func18 rfl rfl ?_
 intro a hst
 have hsh := SH.zero (fun _ => False) w
 refine wq_seq ?_
 refine wq_region_lit (.inl rfl) ?_
 refine r_t hst trivial rfl (x_assign hst rfl) ?_; intro a hst
 refine wpL_nil ?_
 refine then_normal ?_
 refine wq_seq ?_
 refine wq_region_lit (.inl rfl) ?_
 refine r_t hst trivial rfl (x_assign hst rfl) ?_; intro a hst
 refine wpL_nil ?_
 refine then_normal ?_
 refine wq_seq ?_
 refine wq_seq ?_
 refine wq_region_lit (.inl rfl) ?_
 refine r_t hst trivial rfl (x_move hst rfl) ?_; intro a hst
 refine r_t hst trivial rfl (x_move hst rfl) ?_; intro a hst
 obtain ⟨r87, hr87, H⟩ := Option.bind_eq_some_iff.1 H
 refine r_callD hst trivial rfl fn_46 rfl (version_of.calls k _ _ _ _ (Same.sh0 hsa0 hsh) _ hra0 a1 r87 hr87) ?_
 rintro e w88 ⟨v89, rfl, hc, hv90⟩
 replace hsh := hsh.call0 hc
 clear hc
 refine ⟨_, rfl, fun a hst => ?_⟩
 refine r_t hst trivial rfl (x_lenSl hst Try.underlying39 rfl hv90.slen) ?_; intro a hst
 refine r_t hst trivial rfl (x_move hst rfl) ?_; intro a hst
 refine wpL_nil ?_
 refine then_normal ?_
 refine wq_block ?_
 have hsh := hsh.addNil k_File 43
 refine wq_loop_fuel (fun k_56 a w' => ∃ (v_43 : Value), ∃ (l_44 : (List File)), ∃ (i_45 : Int), version_Over.l0 a2 a3 r87 k_56 l_44 i_45 = some r ∧ ST [] Try.f18.ntmps a [(2, .string a2), (3, .string a3), (8, (.slice none 0 0)), (9, v_43), (14, v89), (15, .int .i64 (r87.length : Int)), (16, .int .i64 i_45)] ∧ SH (fun _ => False) w w' [Row k_File 43 v_43 l_44]) k ?_ ?_
 · exact ⟨(.slice none 0 0), ([]), 0, H, hst.keep _ ⟨rfl, rfl, rfl, rfl, rfl, rfl, rfl, trivial⟩, hsh.pick [0]⟩
 · rintro k_56 a W_46 ⟨v_43, l_44, i_45, H, hst, hsh⟩
   cases k_56 with
   | zero => rw [version_Over.l0] at H; cases H
   | succ k_56 =>
    rw [version_Over.l0] at H
    refine wq_seq ?_
    refine wq_region_lit (.inl rfl) ?_
    refine r_t hst trivial rfl (x_cmpI (b := decide (i_45 < (r87.length : Int))) hst rfl rfl rfl) ?_; intro a hst
    refine wpL_nil ?_
    refine then_normal ?_
    refine wq_seq ?_
    by_cases c147 : (decide (i_45 < (r87.length : Int))) = true
    · rw [if_pos c147] at H
      refine wq_condT hst rfl c147 ?_
      refine wq_skip ?_
      refine then_normal ?_
      obtain ⟨J_60, hJ_60, H⟩ := Jn.elim H
      refine wq_cut (fun a w' => ∃ (v_57 : Value), ∃ (l_58 : (List File)), J_60 l_58 = some r ∧ ST [] Try.f18.ntmps a [(2, .string a2), (3, .string a3), (8, (.slice none 0 0)), (9, v_57), (14, v89), (15, .int .i64 (r87.length : Int)), (16, .int .i64 i_45)] ∧ SH (fun _ => False) w w' [Row k_File 43 v_57 l_58]) ?_ ?_
      · rintro a W_59 ⟨v_57, l_58, H, hst, hsh⟩
        subst hJ_60
        dsimp only at H
        refine wq_region_lit (.inl rfl) ?_
        refine r_t hst trivial rfl (x_arI (r := w64 (i_45 + 1)) hst rfl rfl rfl) ?_; intro a hst
        refine r_t hst trivial rfl (x_move hst rfl) ?_; intro a hst
        refine wpL_nil ?_
        refine then_normal ?_
        exact ⟨k_56, Nat.lt_succ_self _, v_57, l_58, (w64 (i_45 + 1)), H, hst.keep _ ⟨rfl, rfl, rfl, rfl, rfl, rfl, rfl, trivial⟩, hsh.pick [0]⟩
      · refine wq_block ?_
        refine wq_seq ?_
        refine wq_region_lit (.inl rfl) ?_
        obtain ⟨x160, hx160, H⟩ := Option.bind_eq_some_iff.1 H
        refine r_t hst trivial rfl (x_indexAddr hst Try.underlying39 el_43 rfl rfl hv90 hx160) ?_; intro a hst
        refine r_t hst trivial rfl (x_loadEsF (j := 0) (cs := [.int .i64 x160.Number, .int .i64 x160.Size, .string x160.Least, .string x160.Limit, .int .u64 x160.Low, .int .u64 x160.High]) (ps := [.int .i64 x160.Number, .int .i64 x160.Size, .string x160.Least, .string x160.Limit, .int .u64 x160.Low, .int .u64 x160.High]) hst ag_43 rfl hv90 (Same.sh0 hsa0 hsh) hx160 rfl (fun _ h => h) rfl) ?_; intro a hst
        refine r_alloc hst hsh trivial rfl zr_43 ?_
        intro g161 a w162 hgg161 hsh hst
        refine r_storeBs (i := 0) (cs' := [.int .i64 x160.Number, .int .i64 x160.Size, .string x160.Least, .string x160.Limit, .int .u64 x160.Low, .int .u64 x160.High]) (vs := [.int .i64 x160.Number, .int .i64 x160.Size, .string x160.Least, .string x160.Limit, .int .u64 x160.Low, .int .u64 x160.High]) hst hsh trivial ag_43 rfl rfl rfl rfl rfl rfl ?_; intro a w163 hsh hst
        refine wpL_nil ?_
        refine then_normal ?_
        refine wq_seq ?_
        refine wq_region_lit (.inl rfl) ?_
        refine r_t hst trivial rfl (x_loadBs (i := 0) (ps := [.int .i64 x160.Number, .int .i64 x160.Size, .string x160.Least, .string x160.Limit, .int .u64 x160.Low, .int .u64 x160.High]) hst hsh ag_43 rfl rfl rfl) ?_; intro a hst
        refine r_t hst trivial rfl (x_move hst rfl) ?_; intro a hst
        refine r_t hst trivial rfl (x_move hst rfl) ?_; intro a hst
        obtain ⟨r164, hr164, H⟩ := Option.bind_eq_some_iff.1 H
        refine r_callD hst trivial rfl fn_47 rfl (version_overlaps.calls _ x160 a2 a3 r164 hr164) ?_
        rintro e w165 ⟨rfl, hc⟩
        replace hsh := hsh.call0 hc
        clear hc
        refine ⟨_, rfl, fun a hst => ?_⟩
        refine wpL_nil ?_
        refine then_normal ?_
        by_cases c166 : r164 = true
        · rw [if_pos c166] at H
          refine wq_condT hst rfl c166 ?_
          refine wq_region_lit (.inl rfl) ?_
          refine r_t hst trivial rfl (x_move hst rfl) ?_; intro a hst
          refine r_t hst trivial rfl (x_loadBs (i := 0) (ps := [.int .i64 x160.Number, .int .i64 x160.Size, .string x160.Least, .string x160.Limit, .int .u64 x160.Low, .int .u64 x160.High]) hst hsh ag_43 rfl rfl rfl) ?_; intro a hst
          refine r_buildSlice (vs := [.agg #[.int .i64 x160.Number, .int .i64 x160.Size, .string x160.Least, .string x160.Limit, .int .u64 x160.Low, .int .u64 x160.High]]) (cs := [.int .i64 x160.Number, .int .i64 x160.Size, .string x160.Least, .string x160.Limit, .int .u64 x160.Low, .int .u64 x160.High]) hst hsh trivial rfl Try.underlying39 el_43 rfl rfl (by simp [Value.cells]) rfl rfl ?_
          intro g167 a w168 hgg167 hsh hst
          replace hsh := hsh.pick [2, 0, 0]
          obtain ⟨l169, hl169, H⟩ := Option.bind_eq_some_iff.1 H
          refine r_append1 (xx := x160) (C := []) (M := [Box g161 [.int .i64 x160.Number, .int .i64 x160.Size, .string x160.Least, .string x160.Limit, .int .u64 x160.Low, .int .u64 x160.High] 43]) hst hsh trivial rfl Try.underlying39 el_43 (by decide) (by decide) (by decide) rfl rfl (fun _ _ _ => rfl) hl169 ?_
          intro v170 a w171 hsh hst
          refine r_t hst trivial rfl (x_assign hst rfl) ?_; intro a hst
          refine wpL_nil ?_
          refine block_normal ?_
          refine then_normal ?_
          exact ⟨v170, l169, H, hst.keep _ ⟨rfl, rfl, rfl, rfl, rfl, rfl, rfl, trivial⟩, hsh.pick [0]⟩
        · rw [if_neg c166] at H
          replace c166 := Bool.eq_false_iff.2 c166
          refine wq_condF hst rfl c166 ?_
          refine wq_skip ?_
          refine block_normal ?_
          refine then_normal ?_
          exact ⟨v_43, l_44, H, hst.keep _ ⟨rfl, rfl, rfl, rfl, rfl, rfl, rfl, trivial⟩, hsh.pick [1]⟩
    · rw [if_neg c147] at H
      replace c147 := Bool.eq_false_iff.2 c147
      refine wq_condF hst rfl c147 ?_
      refine wq_exit ?_
      refine then_exit ?_
      refine then_exit ?_
      refine block_hit ?_
      refine then_normal ?_
      refine wq_seq ?_
      refine wq_region_lit (.inl rfl) ?_
      refine r_t hst trivial rfl (x_move hst rfl) ?_; intro a hst
      refine r_t hst trivial rfl (x_assign hst rfl) ?_; intro a hst
      refine wpL_nil ?_
      refine then_normal ?_
      refine wq_ret ?_
      obtain rfl := Option.some.inj H
      exact ret1 hst rfl rfl ⟨v_43, rfl, hsh.pick [0]⟩

set_option maxHeartbeats 4000000 in
set_option maxRecDepth 100000 in
theorem slices_Backward_File_1.calls (k : Nat) (w : World) (va0 : Value) (Za0 : Nat → Prop) (wra0 : World) (hsa0 : Same Za0 wra0 w) (a0 : (Int → File → Option Bool)) (hra0 : ∀ (w : World) (x0 : Int) (x1 : File) (r : Bool), Same Za0 wra0 w → a0 x0 x1 = some r → CallsV Try.prog va0 [.int .i64 x0, .agg #[.int .i64 x1.Number, .int .i64 x1.Size, .string x1.Least, .string x1.Limit, .int .u64 x1.Low, .int .u64 x1.High]] w (fun e w'' => e = .returned (.bool r) ∧ SH (fun _ => False) w w'' [])) (c0 : (List File)) (vc0_0 : Value) (Zc0_0 : Nat → Prop) (wrc0_0 : World) (hsc0_0 : Same Zc0_0 wrc0_0 w) (hrc0_0 : RD k_File Zc0_0 wrc0_0 vc0_0 c0) (ggc0 : Nat) (Zc0 : Nat → Prop) (wrc0 : World) (hsc0 : Same Zc0 wrc0 w) (hzc0 : Zc0 ggc0) (hbc0 : wrc0.heap[ggc0]? = some (.cells ([vc0_0] : List Value).toArray 39 (0, 0))) (r : Unit) (h : slices_Backward_File_1 k a0 c0 = some r) :
    Calls Try.prog 64 ([va0, .pointer (some ⟨ggc0, 0, none⟩)] : List Value).toArray w fun e w' => e = .returned (.tuple #[]) ∧ SH (fun _ => False) w w' [] := by
 have H := h
 clear h
 unfold slices_Backward_File_1 at H
 refine calls_enter Try.func64 rfl rfl ?_
 intro a hst
 have hsh := SH.zero (fun _ => False) w
 refine wq_seq ?_
 refine wq_region_lit (.inl rfl) ?_
 refine r_t hst trivial rfl (x_loadCap (cs := [vc0_0]) hst hbc0 (Same.sh0 hsc0 hsh) hzc0 sc_39 rfl rfl) ?_; intro a hst
 refine r_t hst trivial rfl (x_lenSl hst Try.underlying39 rfl hrc0_0.slen) ?_; intro a hst
 refine r_t hst trivial rfl (x_arI (r := w64 ((c0.length : Int) - 1)) hst rfl rfl rfl) ?_; intro a hst
 refine r_t hst trivial rfl (x_assign hst rfl) ?_; intro a hst
 refine wpL_nil ?_
 refine then_normal ?_
 refine wq_block ?_
 refine wq_loop_fuel (fun k_5 a w' => ∃ (i_1 : Int), slices_Backward_File_1.l0 a0 c0 k_5 i_1 = some r ∧ ST [] Try.f64.ntmps a [(0, va0), (1, .pointer (some ⟨ggc0, 0, none⟩)), (3, .int .i64 i_1)] ∧ SH (fun _ => False) w w' []) k ?_ ?_
 · exact ⟨(w64 ((c0.length : Int) - 1)), H, hst.keep _ ⟨rfl, rfl, rfl, trivial⟩, hsh.pick []⟩
 · rintro k_5 a W_2 ⟨i_1, H, hst, hsh⟩
   cases k_5 with
   | zero => rw [slices_Backward_File_1.l0] at H; cases H
   | succ k_5 =>
    rw [slices_Backward_File_1.l0] at H
    refine wq_seq ?_
    refine wq_seq ?_
    refine wq_region_lit (.inl rfl) ?_
    refine r_t hst trivial rfl (x_move hst rfl) ?_; intro a hst
    refine r_t hst trivial rfl (x_cmpI (b := decide (0 ≤ i_1)) hst rfl rfl rfl) ?_; intro a hst
    refine wpL_nil ?_
    refine then_normal ?_
    by_cases c12 : (decide (0 ≤ i_1)) = true
    · rw [if_pos c12] at H
      refine wq_condT hst rfl c12 ?_
      refine wq_skip ?_
      refine then_normal ?_
      refine wq_seq ?_
      refine wq_block ?_
      refine wq_seq ?_
      refine wq_region_lit (.inl rfl) ?_
      refine r_t hst trivial rfl (x_move hst rfl) ?_; intro a hst
      refine r_t hst trivial rfl (x_move hst rfl) ?_; intro a hst
      refine r_t hst trivial rfl (x_loadCap (cs := [vc0_0]) hst hbc0 (Same.sh0 hsc0 hsh) hzc0 sc_39 rfl rfl) ?_; intro a hst
      refine r_t hst trivial rfl (x_move hst rfl) ?_; intro a hst
      obtain ⟨x17, hx17, H⟩ := Option.bind_eq_some_iff.1 H
      refine r_t hst trivial rfl (x_indexAddr hst Try.underlying39 el_43 rfl rfl hrc0_0 hx17) ?_; intro a hst
      refine r_t hst trivial rfl (x_loadEsF (j := 0) (cs := [.int .i64 x17.Number, .int .i64 x17.Size, .string x17.Least, .string x17.Limit, .int .u64 x17.Low, .int .u64 x17.High]) (ps := [.int .i64 x17.Number, .int .i64 x17.Size, .string x17.Least, .string x17.Limit, .int .u64 x17.Low, .int .u64 x17.High]) hst ag_43 rfl hrc0_0 (Same.sh0 hsc0_0 hsh) hx17 rfl (fun _ h => h) rfl) ?_; intro a hst
      obtain ⟨r18, hr18, H⟩ := Option.bind_eq_some_iff.1 H
      refine r_callV hst trivial rfl rfl rfl (hra0 _ i_1 x17 r18 (Same.sh0 hsa0 hsh) hr18) ?_
      rintro e w19 ⟨rfl, hc⟩
      replace hsh := hsh.call0 hc
      clear hc
      refine ⟨_, rfl, fun a hst => ?_⟩
      refine r_t hst trivial rfl (x_notB hst rfl) ?_; intro a hst
      refine wpL_nil ?_
      refine then_normal ?_
      by_cases c20 : (!r18) = true
      · rw [if_pos c20] at H
        refine wq_condT hst rfl c20 ?_
        refine wq_ret ?_
        refine block_ret ?_
        refine then_ret ?_
        refine then_ret ?_
        refine block_ret ?_
        obtain rfl := Option.some.inj H
        exact ret0 hst rfl ⟨rfl, hsh.pick []⟩
      · rw [if_neg c20] at H
        replace c20 := Bool.eq_false_iff.2 c20
        refine wq_condF hst rfl c20 ?_
        refine wq_skip ?_
        refine block_normal ?_
        refine then_normal ?_
        refine wq_region_lit (.inl rfl) ?_
        refine r_t hst trivial rfl (x_move hst rfl) ?_; intro a hst
        refine r_t hst trivial rfl (x_arI (r := w64 (i_1 - 1)) hst rfl rfl rfl) ?_; intro a hst
        refine r_t hst trivial rfl (x_assign hst rfl) ?_; intro a hst
        refine wpL_nil ?_
        refine then_normal ?_
        exact ⟨k_5, Nat.lt_succ_self _, (w64 (i_1 - 1)), H, hst.keep _ ⟨rfl, rfl, rfl, trivial⟩, hsh.pick []⟩
    · rw [if_neg c12] at H
      replace c12 := Bool.eq_false_iff.2 c12
      refine wq_condF hst rfl c12 ?_
      refine wq_exit ?_
      refine then_exit ?_
      refine then_exit ?_
      refine block_hit ?_
      exact end0 hst rfl ⟨rfl, hsh.pick []⟩

set_option maxHeartbeats 4000000 in
set_option maxRecDepth 100000 in
theorem version_Asks_1.calls (w : World) (a0 : Int) (c0 : (List File)) (vc0_0 : Value) (Zc0_0 : Nat → Prop) (wrc0_0 : World) (hsc0_0 : Same Zc0_0 wrc0_0 w) (hrc0_0 : RD k_File Zc0_0 wrc0_0 vc0_0 c0) (ggc0 : Nat) (Zc0 : Nat → Prop) (wrc0 : World) (hsc0 : Same Zc0 wrc0 w) (hzc0 : Zc0 ggc0) (hbc0 : wrc0.heap[ggc0]? = some (.cells ([vc0_0] : List Value).toArray 39 (0, 0))) (c1 : ByteArray) (ggc1 : Nat) (Zc1 : Nat → Prop) (wrc1 : World) (hsc1 : Same Zc1 wrc1 w) (hzc1 : Zc1 ggc1) (hbc1 : wrc1.heap[ggc1]? = some (.cells ([.string c1] : List Value).toArray 9 (0, 0))) (r : Bool) (h : version_Asks_1 a0 c0 c1 = some r) :
    Calls Try.prog 50 ([.int .i64 a0, .pointer (some ⟨ggc0, 0, none⟩), .pointer (some ⟨ggc1, 0, none⟩)] : List Value).toArray w fun e w' => e = .returned (.bool r) ∧ SH (fun _ => False) w w' [] := by
 have H := h
 clear h
 unfold version_Asks_1 at H
 refine calls_enter Try.func50 rfl rfl ?_
 intro a hst
 have hsh := SH.zero (fun _ => False) w
 refine wq_seq ?_
 refine wq_region_lit (.inl rfl) ?_
 refine r_t hst trivial rfl (x_assign hst rfl) ?_; intro a hst
 refine wpL_nil ?_
 refine then_normal ?_
 refine wq_seq ?_
 refine wq_region_q (.inl rfl) (fun w' => SH (fun _ => False) w w' []) (shut_sh _ _ _) hsh.drew fo (by kernel_rfl) ?_
 refine q_t hst trivial rfl (fun _ hsh => x_loadCap (cs := [vc0_0]) hst hbc0 (Same.sh0 hsc0 hsh) hzc0 sc_39 rfl rfl) ?_; intro a hst
 refine q_t hst trivial rfl (fun _ hsh => x_move hst rfl) ?_; intro a hst
 obtain ⟨x1, hx1, H⟩ := Option.bind_eq_some_iff.1 H
 refine q_t hst trivial rfl (fun _ hsh => x_indexAddr hst Try.underlying39 el_43 rfl rfl hrc0_0 hx1) ?_; intro a hst
 refine q_t hst trivial rfl (fun _ hsh => x_fieldAddrE (n' := Int.toNat a0 * k_File.sz + 3) hst fa_43_3 rfl rfl) ?_; intro a hst
 refine q_t hst trivial rfl (fun _ hsh => x_loadEF (j := 3) (cs := [.int .i64 x1.Number, .int .i64 x1.Size, .string x1.Least, .string x1.Limit, .int .u64 x1.Low, .int .u64 x1.High]) hst sc_9 rfl hrc0_0 (Same.sh0 hsc0_0 hsh) hx1 rfl (fun _ h => h) rfl) ?_; intro a hst
 refine q_t hst trivial rfl (fun _ hsh => x_loadCap (cs := [.string c1]) hst hbc1 (Same.sh0 hsc1 hsh) hzc1 sc_9 rfl rfl) ?_; intro a hst
 refine q_t hst trivial rfl (fun _ hsh => x_cmpS (b := (!(sLt x1.Limit c1 || sEq x1.Limit c1))) hst rfl rfl rfl) ?_; intro a hst
 refine q_t hst trivial rfl (fun _ hsh => x_assign hst rfl) ?_; intro a hst
 refine q_nil ?_
 intro w2 hsh
 refine then_normal ?_
 refine wq_ret ?_
 obtain rfl := Option.some.inj H
 exact ret1 hst rfl rfl ⟨rfl, hsh.pick []⟩

set_option maxHeartbeats 4000000 in
set_option maxRecDepth 100000 in
theorem sort_Search.calls (k : Nat) (w : World) (a0 : Int) (va1 : Value) (Za1 : Nat → Prop) (wra1 : World) (hsa1 : Same Za1 wra1 w) (a1 : (Int → Option Bool)) (hra1 : ∀ (w : World) (x0 : Int) (r : Bool), Same Za1 wra1 w → a1 x0 = some r → CallsV Try.prog va1 [.int .i64 x0] w (fun e w'' => e = .returned (.bool r) ∧ SH (fun _ => False) w w'' [])) (r : Int) (h : sort_Search k a0 a1 = some r) :
    Calls Try.prog 49 ([.int .i64 a0, va1] : List Value).toArray w fun e w' => e = .returned (.int .i64 r) ∧ SH (fun _ => False) w w' [] := by
 have H := h
 clear h
 unfold sort_Search at H
 refine calls_enter Try.func49 rfl rfl ?_
 intro a hst
 have hsh := SH.zero (fun _ => False) w
 refine wq_seq ?_
 refine wq_region_lit (.inl rfl) ?_
 refine r_t hst trivial rfl (x_assign hst rfl) ?_; intro a hst
 refine wpL_nil ?_
 refine then_normal ?_
 refine wq_seq ?_
 refine wq_region_lit (.inl rfl) ?_
 refine r_t hst trivial rfl (x_move hst rfl) ?_; intro a hst
 refine r_t hst trivial rfl (x_assign hst rfl) ?_; intro a hst
 refine r_t hst trivial rfl (x_assign hst rfl) ?_; intro a hst
 refine wpL_nil ?_
 refine then_normal ?_
 refine wq_seq ?_
 refine wq_block ?_
 refine wq_loop_fuel (fun k_22 a w' => ∃ (i_16 : Int), ∃ (i_17 : Int), sort_Search.l0 a1 k_22 i_16 i_17 = some r ∧ ST [] Try.f49.ntmps a [(1, va1), (4, .int .i64 0), (5, .int .i64 i_16), (6, .int .i64 i_17)] ∧ SH (fun _ => False) w w' []) k ?_ ?_
 · exact ⟨0, a0, H, hst.keep _ ⟨rfl, rfl, rfl, rfl, trivial⟩, hsh.pick []⟩
 · rintro k_22 a W_18 ⟨i_16, i_17, H, hst, hsh⟩
   cases k_22 with
   | zero => rw [sort_Search.l0] at H; cases H
   | succ k_22 =>
    rw [sort_Search.l0] at H
    refine wq_seq ?_
    refine wq_seq ?_
    refine wq_region_lit (.inl rfl) ?_
    refine r_t hst trivial rfl (x_move hst rfl) ?_; intro a hst
    refine r_t hst trivial rfl (x_move hst rfl) ?_; intro a hst
    refine r_t hst trivial rfl (x_cmpI (b := decide (i_16 < i_17)) hst rfl rfl rfl) ?_; intro a hst
    refine wpL_nil ?_
    refine then_normal ?_
    by_cases c27 : (decide (i_16 < i_17)) = true
    · rw [if_pos c27] at H
      refine wq_condT hst rfl c27 ?_
      refine wq_skip ?_
      refine then_normal ?_
      refine wq_block ?_
      refine wq_seq ?_
      refine wq_region_lit (.inl rfl) ?_
      refine r_t hst trivial rfl (x_move hst rfl) ?_; intro a hst
      refine r_t hst trivial rfl (x_move hst rfl) ?_; intro a hst
      refine r_t hst trivial rfl (x_arI (r := w64 (i_16 + i_17)) hst rfl rfl rfl) ?_; intro a hst
      refine r_t hst trivial rfl (x_convI hst Try.underlying3 Try.underlying88 rfl) ?_; intro a hst
      refine r_t hst trivial rfl (x_shr hst rfl rfl (by decide) (by decide)) ?_; intro a hst
      refine r_t hst trivial rfl (x_convI hst Try.underlying88 Try.underlying3 rfl) ?_; intro a hst
      refine r_t hst trivial rfl (x_assign hst rfl) ?_; intro a hst
      refine wpL_nil ?_
      refine then_normal ?_
      refine wq_seq ?_
      refine wq_region_lit (.inl rfl) ?_
      refine r_t hst trivial rfl (x_move hst rfl) ?_; intro a hst
      refine r_t hst trivial rfl (x_move hst rfl) ?_; intro a hst
      obtain ⟨r28, hr28, H⟩ := Option.bind_eq_some_iff.1 H
      refine r_callV hst trivial rfl rfl rfl (hra1 _ (w64 ((wu64 (w64 (i_16 + i_17))) / 2 ^ (Int.toNat 1))) r28 (Same.sh0 hsa1 hsh) hr28) ?_
      rintro e w29 ⟨rfl, hc⟩
      replace hsh := hsh.call0 hc
      clear hc
      refine ⟨_, rfl, fun a hst => ?_⟩
      refine r_t hst trivial rfl (x_notB hst rfl) ?_; intro a hst
      refine wpL_nil ?_
      refine then_normal ?_
      by_cases c30 : (!r28) = true
      · rw [if_pos c30] at H
        refine wq_condT hst rfl c30 ?_
        refine wq_region_lit (.inl rfl) ?_
        refine r_t hst trivial rfl (x_move hst rfl) ?_; intro a hst
        refine r_t hst trivial rfl (x_arI (r := w64 ((w64 ((wu64 (w64 (i_16 + i_17))) / 2 ^ (Int.toNat 1))) + 1)) hst rfl rfl rfl) ?_; intro a hst
        refine r_t hst trivial rfl (x_assign hst rfl) ?_; intro a hst
        refine wpL_nil ?_
        refine block_normal ?_
        refine then_normal ?_
        exact ⟨k_22, Nat.lt_succ_self _, (w64 ((w64 ((wu64 (w64 (i_16 + i_17))) / 2 ^ (Int.toNat 1))) + 1)), i_17, H, hst.keep _ ⟨rfl, rfl, rfl, rfl, trivial⟩, hsh.pick []⟩
      · rw [if_neg c30] at H
        replace c30 := Bool.eq_false_iff.2 c30
        refine wq_condF hst rfl c30 ?_
        refine wq_region_lit (.inl rfl) ?_
        refine r_t hst trivial rfl (x_move hst rfl) ?_; intro a hst
        refine r_t hst trivial rfl (x_assign hst rfl) ?_; intro a hst
        refine wpL_nil ?_
        refine block_normal ?_
        refine then_normal ?_
        exact ⟨k_22, Nat.lt_succ_self _, i_16, (w64 ((wu64 (w64 (i_16 + i_17))) / 2 ^ (Int.toNat 1))), H, hst.keep _ ⟨rfl, rfl, rfl, rfl, trivial⟩, hsh.pick []⟩
    · rw [if_neg c27] at H
      replace c27 := Bool.eq_false_iff.2 c27
      refine wq_condF hst rfl c27 ?_
      refine wq_exit ?_
      refine then_exit ?_
      refine then_exit ?_
      refine block_hit ?_
      refine then_normal ?_
      refine wq_seq ?_
      refine wq_region_lit (.inl rfl) ?_
      refine r_t hst trivial rfl (x_move hst rfl) ?_; intro a hst
      refine r_t hst trivial rfl (x_assign hst rfl) ?_; intro a hst
      refine wpL_nil ?_
      refine then_normal ?_
      refine wq_ret ?_
      obtain rfl := Option.some.inj H
      exact ret1 hst rfl rfl ⟨rfl, hsh.pick []⟩

set_option maxHeartbeats 4000000 in
set_option maxRecDepth 100000 in
theorem version_Asks.calls (k : Nat) (w : World) (va0 : Value) (Za0 : Nat → Prop) (wra0 : World) (hsa0 : Same Za0 wra0 w) (a0 : (List (List File))) (hra0 : RD (Kd.slice 43 k_File) Za0 wra0 va0 a0) (a1 : ByteArray) (r : (List Place)) (h : version_Asks k a0 a1 = some r) :
    Calls Try.prog 19 ([va0, .string a1] : List Value).toArray w fun e w' => ∃ v0_ : Value, e = .returned (v0_) ∧ SH (fun _ => False) w w' [Row k_Place 41 v0_ r] := by
 have H := h
 clear h
 unfold version_Asks at H
 refine calls_enterM Try.func19 rfl rfl ?_
 intro a hst
 have hsh := SH.zero (fun _ => False) w
 replace hsh := hsh.addMks
 refine wq_seq ?_
 refine wq_region_lit (.inl rfl) ?_
 refine r_box hst hsh trivial rfl rfl rfl ?_
 intro g1 a w2 hgg1 hsh hst
 refine r_t hst trivial rfl (x_assign hst rfl) ?_; intro a hst
 refine wpL_nil ?_
 refine then_normal ?_
 refine wq_seq ?_
 refine wq_region_lit (.inl rfl) ?_
 refine r_alloc hst hsh trivial rfl zr_25 ?_
 intro g3 a w4 hgg3 hsh hst
 refine wpL_nil ?_
 refine then_normal ?_
 obtain ⟨J_63, hJ_63, H⟩ := Jn.elim H
 refine wq_cut (fun a w' => ∃ (v_59 : Value), ∃ (l_60 : (List Place)), ∃ (bs_61 : (List Nat)), J_63 l_60 = some r ∧ ST (List.map Go.Proofs.Ytbbepmmelpabbaa.Sy.mark bs_61) Try.f19.ntmps a [(0, va0), (3, .pointer (some ⟨g1, 0, none⟩)), (4, (.slice none 0 0)), (5, .pointer (some ⟨g3, 0, none⟩))] ∧ SH (fun _ => False) w w' [Box g1 [.string a1] 9, Box g3 [v_59] 25, Row k_Place 41 v_59 l_60, Mks bs_61]) ?_ ?_
 · rintro a W_62 ⟨v_59, l_60, bs_61, H, hst, hsh⟩
   subst hJ_63
   dsimp only at H
   refine wq_seq ?_
   refine wq_seq ?_
   refine wq_region_lit (.inl rfl) ?_
   refine r_t hst trivial rfl (x_assign hst rfl) ?_; intro a hst
   refine wpL_nil ?_
   refine then_normal ?_
   refine wq_block ?_
   refine wq_loop_fuel (fun k_1031 a w' => ∃ (v_835 : Value), ∃ (l_836 : (List Place)), ∃ (i_837 : Int), version_Asks.l0 a0 a1 k_1031 l_836 i_837 = some r ∧ ST (List.map Go.Proofs.Ytbbepmmelpabbaa.Sy.mark bs_61) Try.f19.ntmps a [(0, va0), (3, .pointer (some ⟨g1, 0, none⟩)), (4, (.slice none 0 0)), (5, .pointer (some ⟨g3, 0, none⟩)), (8, .int .i64 i_837)] ∧ SH (fun _ => False) w w' [Box g1 [.string a1] 9, Box g3 [v_835] 25, Row k_Place 41 v_835 l_836, Mks bs_61]) k ?_ ?_
   · exact ⟨v_59, l_60, 1, H, hst.keep _ ⟨rfl, rfl, rfl, rfl, rfl, trivial⟩, hsh.pick [0, 0, 0, 0]⟩
   · rintro k_1031 a W_838 ⟨v_835, l_836, i_837, H, hst, hsh⟩
     cases k_1031 with
     | zero => rw [version_Asks.l0] at H; cases H
     | succ k_1031 =>
      rw [version_Asks.l0] at H
      refine wq_seq ?_
      refine wq_seq ?_
      refine wq_region_lit (.inl rfl) ?_
      refine r_t hst trivial rfl (x_move hst rfl) ?_; intro a hst
      refine r_t hst trivial rfl (x_move hst rfl) ?_; intro a hst
      refine r_t hst trivial rfl (x_lenSl hst Try.underlying23 rfl hra0.slen) ?_; intro a hst
      refine r_t hst trivial rfl (x_cmpI (b := decide (i_837 < (a0.length : Int))) hst rfl rfl rfl) ?_; intro a hst
      refine wpL_nil ?_
      refine then_normal ?_
      by_cases c1303 : (decide (i_837 < (a0.length : Int))) = true
      · rw [if_pos c1303] at H
        refine wq_condT hst rfl c1303 ?_
        refine wq_skip ?_
        refine then_normal ?_
        obtain ⟨J_1127, hJ_1127, H⟩ := Jn.elim H
        refine wq_cut (fun a w' => ∃ (v_1124 : Value), ∃ (l_1125 : (List Place)), J_1127 l_1125 = some r ∧ ST (List.map Go.Proofs.Ytbbepmmelpabbaa.Sy.mark bs_61) Try.f19.ntmps a [(0, va0), (3, .pointer (some ⟨g1, 0, none⟩)), (4, (.slice none 0 0)), (5, .pointer (some ⟨g3, 0, none⟩)), (8, .int .i64 i_837)] ∧ SH (fun _ => False) w w' [Box g1 [.string a1] 9, Box g3 [v_1124] 25, Row k_Place 41 v_1124 l_1125, Mks bs_61]) ?_ ?_
        · rintro a W_1126 ⟨v_1124, l_1125, H, hst, hsh⟩
          subst hJ_1127
          dsimp only at H
          refine wq_region_lit (.inl rfl) ?_
          refine r_t hst trivial rfl (x_move hst rfl) ?_; intro a hst
          refine r_t hst trivial rfl (x_arI (r := w64 (i_837 + 1)) hst rfl rfl rfl) ?_; intro a hst
          refine r_t hst trivial rfl (x_assign hst rfl) ?_; intro a hst
          refine wpL_nil ?_
          refine then_normal ?_
          exact ⟨k_1031, Nat.lt_succ_self _, v_1124, l_1125, (w64 (i_837 + 1)), H, hst.keep _ ⟨rfl, rfl, rfl, rfl, rfl, trivial⟩, hsh.pick [0, 0, 0, 0]⟩
        · refine wq_block ?_
          refine wq_seq ?_
          refine wq_region_lit (.inl rfl) ?_
          refine r_t hst trivial rfl (x_move hst rfl) ?_; intro a hst
          refine r_t hst trivial rfl (x_move hst rfl) ?_; intro a hst
          obtain ⟨r1411, hr1411, H⟩ := Option.bind_eq_some_iff.1 H
          refine r_callD hst trivial rfl fn_46 rfl (version_of.calls k_1031 _ _ _ _ (Same.sh0 hsa0 hsh) _ hra0 i_837 r1411 hr1411) ?_
          rintro e w1412 ⟨v1413, rfl, hc, hv1414⟩
          replace hsh := hsh.call0 hc
          clear hc
          refine ⟨_, rfl, fun a hst => ?_⟩
          refine r_alloc hst hsh trivial rfl zr_39 ?_
          intro g1415 a w1416 hgg1415 hsh hst
          refine r_storeB (i := 0) (cs' := [v1413]) hst hsh trivial sc_39 rfl rfl rfl rfl (one_slice hv1414.slen) rfl ?_; intro a w1417 hsh hst
          refine wpL_nil ?_
          refine then_normal ?_
          obtain ⟨J_1173, hJ_1173, H⟩ := Jn.elim H
          refine wq_cut (fun a w' => ∃ (i_1171 : Int), J_1173 i_1171 = some r ∧ ST (List.map Go.Proofs.Ytbbepmmelpabbaa.Sy.mark bs_61) Try.f19.ntmps a [(0, va0), (3, .pointer (some ⟨g1, 0, none⟩)), (4, (.slice none 0 0)), (5, .pointer (some ⟨g3, 0, none⟩)), (8, .int .i64 i_837), (9, .pointer (some ⟨g1415, 0, none⟩)), (10, .int .i64 i_1171)] ∧ SH (fun _ => False) w w' [Box g1 [.string a1] 9, Box g3 [v_835] 25, Row k_Place 41 v_835 l_836, Box g1415 [v1413] 39, Mks bs_61]) ?_ ?_
          · rintro a W_1172 ⟨i_1171, H, hst, hsh⟩
            subst hJ_1173
            dsimp only at H
            refine wq_seq ?_
            refine wq_region_q (.inl rfl) (fun w' => SH (fun _ => False) w w' [Box g1 [.string a1] 9, Box g3 [v_835] 25, Row k_Place 41 v_835 l_836, Box g1415 [v1413] 39, Mks bs_61]) (shut_sh _ _ _) hsh.drew fo (by kernel_rfl) ?_
            refine q_t hst trivial rfl (fun _ hsh => x_move hst rfl) ?_; intro a hst
            refine q_t hst trivial rfl (fun _ hsh => x_loadB (i := 3) hst hsh sc_39 rfl rfl rfl) ?_; intro a hst
            refine q_t hst trivial rfl (fun _ hsh => x_lenSl hst Try.underlying39 rfl hv1414.slen) ?_; intro a hst
            refine q_t hst trivial rfl (fun _ hsh => x_cmpI (b := decide (i_1171 < (r1411.length : Int))) hst rfl rfl rfl) ?_; intro a hst
            refine q_t hst trivial rfl (fun _ hsh => x_move hst rfl) ?_; intro a hst
            obtain ⟨J_1175, hJ_1175, H⟩ := Jn.elim H
            refine q_join 13 (fun a => ∃ (b_1174 : Bool), J_1175 b_1174 = some r ∧ ST (List.map Go.Proofs.Ytbbepmmelpabbaa.Sy.mark bs_61) Try.f19.ntmps a [(0, va0), (3, .pointer (some ⟨g1, 0, none⟩)), (4, (.slice none 0 0)), (5, .pointer (some ⟨g3, 0, none⟩)), (8, .int .i64 i_837), (9, .pointer (some ⟨g1415, 0, none⟩)), (10, .int .i64 i_1171), (57, .bool b_1174)]) ?_ ?_
            · rintro a ⟨b_1174, H, hst⟩
              subst hJ_1175
              dsimp only at H
              refine q_nil ?_
              intro w1462 hsh
              refine then_normal ?_
              by_cases c1463 : b_1174 = true
              · rw [if_pos c1463] at H
                refine wq_condT hst rfl c1463 ?_
                have hw1463_2 := hsh.row 2 rfl
                refine wq_region_t (.inl rfl) (.fin [(0, 0), (3, 1), (0, 2), (3, 3), (3, 4), (3, 5), (0, 6), (3, 7), (1, 8), (1, 9), (2, 10)]) (fun w' => SH (fun _ => False) w w' [Box g1 [.string a1] 9, Box g1415 [v1413] 39, Mks bs_61]) (fun w' => SH (fun _ => False) w w' [Box g1 [.string a1] 9, Box g3 [v_835] 25, Box g1415 [v1413] 39, Mks bs_61]) (fun w' => SH (fun _ => False) w w' [Box g1 [.string a1] 9, Box g3 [v_835] 25, Row k_Place 41 v_835 l_836, Box g1415 [v1413] 39, Mks bs_61]) (shut_sh _ _ _) (shut_sh _ _ _) (shut_sh _ _ _) (sub_sh [0, 1, 1] rfl) (sub_sh [0, 0, 1, 1] rfl) hsh.drew fo (by kernel_rfl) ?_
                refine t_fin ?_
                refine m_t hst trivial rfl (fun _ hsh => x_loadB (i := 1) hst hsh sc_25 rfl rfl rfl) ?_; intro a hst
                refine m_p hst trivial rfl (fun _ => x_move hst rfl) ?_; intro a hst
                refine m_t hst trivial rfl (fun _ hsh => x_loadB (i := 2) hst hsh sc_39 rfl rfl rfl) ?_; intro a hst
                refine m_p hst trivial rfl (fun _ => x_move hst rfl) ?_; intro a hst
                obtain ⟨x1464, hx1464, H⟩ := Option.bind_eq_some_iff.1 H
                refine m_p hst trivial rfl (fun _ => x_indexAddr hst Try.underlying39 el_43 rfl rfl hv1414 hx1464) ?_; intro a hst
                refine m_p hst trivial rfl (fun _ => x_fieldAddrE (n' := Int.toNat i_1171 * k_File.sz) hst fa_43_0 rfl rfl) ?_; intro a hst
                refine m_t hst trivial rfl (fun _ hsh => x_loadEF (j := 0) (cs := [.int .i64 x1464.Number, .int .i64 x1464.Size, .string x1464.Least, .string x1464.Limit, .int .u64 x1464.Low, .int .u64 x1464.High]) hst sc_3 rfl hv1414 (Same.sh0 hsa0 hsh) hx1464 rfl (fun _ h => h) rfl) ?_; intro a hst
                refine m_p hst trivial rfl (fun _ => x_build (cs := [.int .i64 i_837, .int .i64 x1464.Number]) hst rfl (by kernel_rfl)) ?_; intro a hst
                refine m_loud (.inl rfl) ?_
                intro w1465 hsh
                refine r_buildSlice (vs := [.agg #[.int .i64 i_837, .int .i64 x1464.Number]]) (cs := [.int .i64 i_837, .int .i64 x1464.Number]) hst hsh trivial rfl Try.underlying25 el_41 rfl rfl (by simp [Value.cells]) rfl rfl ?_
                intro g1466 a w1467 hgg1466 hsh hst
                refine m_on (MB := [Box g1 [.string a1] 9, Box g3 [v_835] 25, Box g1415 [v1413] 39, Mks bs_61]) [1, 1, 2, 2] [0, 0, 0, 0] rfl rfl hsh rfl (sub_sh [0, 1, 1] rfl) ?_
                refine m_loud (.inl rfl) ?_
                intro w1468 hsh
                replace hsh := hsh.pick [3, 0, 0, 0, 0, 0]
                obtain ⟨l1469, hl1469, H⟩ := Option.bind_eq_some_iff.1 H
                refine r_append1 (xx := (⟨i_837, x1464.Number⟩ : Place)) (C := []) (M := [Box g1 [.string a1] 9, Box g3 [v_835] 25, Box g1415 [v1413] 39, Mks bs_61]) hst hsh trivial rfl Try.underlying25 el_41 (by decide) (by decide) (by decide) rfl rfl (fun _ _ _ => rfl) hl1469 ?_
                intro v1470 a w1471 hsh hst
                refine m_on (MB := [Row k_Place 41 v1470 l1469, Box g1 [.string a1] 9, Box g3 [v_835] 25, Box g1415 [v1413] 39, Mks bs_61]) [0, 0, 0, 0, 0] [1, 1, 1, 1] rfl rfl hsh rfl (sub_sh [0, 1, 1] rfl) ?_
                refine m_loud (.inr rfl) ?_
                intro w1472 hsh
                refine r_storeB (i := 2) (cs' := [v1470]) hst hsh trivial sc_25 rfl rfl rfl rfl (one_slice (hsh.row 0 rfl).slen) rfl ?_; intro a w1473 hsh hst
                refine m_turn hsh (sub_sh [2, 2, 2] rfl) ?_
                refine m_nil ?_
                intro w1474 hsh
                refine qn_normal ?_
                refine block_normal ?_
                refine then_normal ?_
                exact ⟨v1470, l1469, H, hst.keep _ ⟨rfl, rfl, rfl, rfl, rfl, trivial⟩, hsh.pick [2, 0, 0, 1]⟩
              · rw [if_neg c1463] at H
                replace c1463 := Bool.eq_false_iff.2 c1463
                refine wq_condF hst rfl c1463 ?_
                refine wq_skip ?_
                refine block_normal ?_
                refine then_normal ?_
                exact ⟨v_835, l_836, H, hst.keep _ ⟨rfl, rfl, rfl, rfl, rfl, trivial⟩, hsh.pick [0, 0, 0, 1]⟩
            · intro hj
              by_cases c1460 : (decide (i_1171 < (r1411.length : Int))) = true
              · rw [if_pos c1460] at H
                refine q_t hst (wt_of 49 rfl rfl c1460) rfl (fun _ hsh => x_loadB (i := 3) hst hsh sc_39 rfl rfl rfl) ?_; intro a hst
                refine q_t hst (wt_of 49 rfl rfl c1460) rfl (fun _ hsh => x_move hst rfl) ?_; intro a hst
                obtain ⟨x1475, hx1475, H⟩ := Option.bind_eq_some_iff.1 H
                refine q_t hst (wt_of 49 rfl rfl c1460) rfl (fun _ hsh => x_indexAddr hst Try.underlying39 el_43 rfl rfl hv1414 hx1475) ?_; intro a hst
                refine q_t hst (wt_of 49 rfl rfl c1460) rfl (fun _ hsh => x_fieldAddrE (n' := Int.toNat i_1171 * k_File.sz + 2) hst fa_43_2 rfl rfl) ?_; intro a hst
                refine q_t hst (wt_of 49 rfl rfl c1460) rfl (fun _ hsh => x_loadEF (j := 2) (cs := [.int .i64 x1475.Number, .int .i64 x1475.Size, .string x1475.Least, .string x1475.Limit, .int .u64 x1475.Low, .int .u64 x1475.High]) hst sc_9 rfl hv1414 (Same.sh0 hsa0 hsh) hx1475 rfl (fun _ h => h) rfl) ?_; intro a hst
                refine q_t hst (wt_of 49 rfl rfl c1460) rfl (fun _ hsh => x_loadB (i := 0) hst hsh sc_9 rfl rfl rfl) ?_; intro a hst
                refine q_t hst (wt_of 49 rfl rfl c1460) rfl (fun _ hsh => x_cmpS (b := (sLt x1475.Least a1 || sEq x1475.Least a1)) hst rfl rfl rfl) ?_; intro a hst
                refine q_t hst trivial rfl (fun _ hsh => x_pickT hst rfl c1460 rfl) ?_; intro a hst
                exact hj _ ⟨(sLt x1475.Least a1 || sEq x1475.Least a1), H, hst.keep _ ⟨rfl, rfl, rfl, rfl, rfl, rfl, rfl, rfl, trivial⟩⟩
              · rw [if_neg c1460] at H
                replace c1460 := Bool.eq_false_iff.2 c1460
                refine q_not hst 49 rfl rfl c1460 rfl ?_; intro a hst
                refine q_not hst 49 rfl rfl c1460 rfl ?_; intro a hst
                refine q_not hst 49 rfl rfl c1460 rfl ?_; intro a hst
                refine q_not hst 49 rfl rfl c1460 rfl ?_; intro a hst
                refine q_not hst 49 rfl rfl c1460 rfl ?_; intro a hst
                refine q_not hst 49 rfl rfl c1460 rfl ?_; intro a hst
                refine q_not hst 49 rfl rfl c1460 rfl ?_; intro a hst
                refine q_t hst trivial rfl (fun _ hsh => x_pickF hst rfl c1460 rfl) ?_; intro a hst
                exact hj _ ⟨false, H, hst.keep _ ⟨rfl, rfl, rfl, rfl, rfl, rfl, rfl, rfl, trivial⟩⟩
          · refine wq_region_lit (.inl rfl) ?_
            refine r_t hst trivial rfl (x_loadB (i := 0) hst hsh sc_39 rfl rfl rfl) ?_; intro a hst
            refine r_t hst trivial rfl (x_lenSl hst Try.underlying39 rfl hv1414.slen) ?_; intro a hst
            refine r_t hst trivial rfl (x_makeFunc hst rfl) ?_; intro a hst
            refine r_inl hst trivial rfl fn_49 rfl ?_
            refine calls_enter Try.func49 rfl rfl ?_
            intro a hst
            refine wq_seq ?_
            refine wq_region_lit (.inl rfl) ?_
            refine r_t hst trivial rfl (x_assign hst rfl) ?_; intro a hst
            refine wpL_nil ?_
            refine then_normal ?_
            refine wq_seq ?_
            refine wq_region_lit (.inl rfl) ?_
            refine r_t hst trivial rfl (x_move hst rfl) ?_; intro a hst
            refine r_t hst trivial rfl (x_assign hst rfl) ?_; intro a hst
            refine r_t hst trivial rfl (x_assign hst rfl) ?_; intro a hst
            refine wpL_nil ?_
            refine then_normal ?_
            obtain ⟨J_1199, hJ_1199, H⟩ := Jn.elim H
            refine wq_cut (fun a w' => ∃ (i_1197 : Int), J_1199 i_1197 = some r ∧ ST [] Try.f49.ntmps a [(4, .int .i64 0), (5, .int .i64 i_1197)] ∧ SH (fun _ => False) w w' [Box g1 [.string a1] 9, Box g3 [v_835] 25, Row k_Place 41 v_835 l_836, Box g1415 [v1413] 39, Mks bs_61]) ?_ ?_
            · rintro a W_1198 ⟨i_1197, H, hst, hsh⟩
              subst hJ_1199
              dsimp only at H
              refine wq_seq ?_
              refine wq_region_lit (.inl rfl) ?_
              refine r_t hst trivial rfl (x_move hst rfl) ?_; intro a hst
              refine r_t hst trivial rfl (x_assign hst rfl) ?_; intro a hst
              refine wpL_nil ?_
              refine then_normal ?_
              refine wq_ret ?_
              refine ret1 hst rfl rfl ?_
              refine ⟨_, rfl, fun a hst => ?_⟩
              refine r_t hst trivial rfl (x_assign hst rfl) ?_; intro a hst
              refine wpL_nil ?_
              refine then_normal ?_
              exact ⟨i_1197, H, hst.keep _ ⟨rfl, rfl, rfl, rfl, rfl, rfl, rfl, trivial⟩, hsh.pick [0, 0, 0, 0, 0]⟩
            · refine wq_block ?_
              refine wq_loop_fuel (fun k_1216 a w' => ∃ (i_1207 : Int), ∃ (i_1208 : Int), version_Asks.l1 a1 r1411 J_1199 k_1216 i_1207 i_1208 = some r ∧ ST [] Try.f49.ntmps a [(1, .func (.func 50) #[] #[.pointer (some ⟨g1415, 0, none⟩), .pointer (some ⟨g1, 0, none⟩)]), (4, .int .i64 0), (5, .int .i64 i_1207), (6, .int .i64 i_1208)] ∧ SH (fun _ => False) w w' [Box g1415 [v1413] 39, Box g1 [.string a1] 9, Box g3 [v_835] 25, Row k_Place 41 v_835 l_836, Mks bs_61]) k_1031 ?_ ?_
              · exact ⟨0, (r1411.length : Int), H, hst.keep _ ⟨rfl, rfl, rfl, rfl, trivial⟩, hsh.pick [0, 0, 0, 0, 0]⟩
              · rintro k_1216 a W_1209 ⟨i_1207, i_1208, H, hst, hsh⟩
                cases k_1216 with
                | zero => rw [version_Asks.l1] at H; cases H
                | succ k_1216 =>
                 rw [version_Asks.l1] at H
                 refine wq_seq ?_
                 refine wq_seq ?_
                 refine wq_region_lit (.inl rfl) ?_
                 refine r_t hst trivial rfl (x_move hst rfl) ?_; intro a hst
                 refine r_t hst trivial rfl (x_move hst rfl) ?_; intro a hst
                 refine r_t hst trivial rfl (x_cmpI (b := decide (i_1207 < i_1208)) hst rfl rfl rfl) ?_; intro a hst
                 refine wpL_nil ?_
                 refine then_normal ?_
                 by_cases c1512 : (decide (i_1207 < i_1208)) = true
                 · rw [if_pos c1512] at H
                   refine wq_condT hst rfl c1512 ?_
                   refine wq_skip ?_
                   refine then_normal ?_
                   refine wq_block ?_
                   refine wq_seq ?_
                   refine wq_region_lit (.inl rfl) ?_
                   refine r_t hst trivial rfl (x_move hst rfl) ?_; intro a hst
                   refine r_t hst trivial rfl (x_move hst rfl) ?_; intro a hst
                   refine r_t hst trivial rfl (x_arI (r := w64 (i_1207 + i_1208)) hst rfl rfl rfl) ?_; intro a hst
                   refine r_t hst trivial rfl (x_convI hst Try.underlying3 Try.underlying88 rfl) ?_; intro a hst
                   refine r_t hst trivial rfl (x_shr hst rfl rfl (by decide) (by decide)) ?_; intro a hst
                   refine r_t hst trivial rfl (x_convI hst Try.underlying88 Try.underlying3 rfl) ?_; intro a hst
                   refine r_t hst trivial rfl (x_assign hst rfl) ?_; intro a hst
                   refine wpL_nil ?_
                   refine then_normal ?_
                   obtain ⟨J_1219, hJ_1219, H⟩ := Jn.elim H
                   refine wq_cut (fun a w' => ∃ (b_1217 : Bool), J_1219 b_1217 = some r ∧ ST [] Try.f49.ntmps a [(1, .func (.func 50) #[] #[.pointer (some ⟨g1415, 0, none⟩), .pointer (some ⟨g1, 0, none⟩)]), (4, .int .i64 0), (5, .int .i64 i_1207), (6, .int .i64 i_1208), (7, .int .i64 (w64 ((wu64 (w64 (i_1207 + i_1208))) / 2 ^ (Int.toNat 1)))), (21, .bool b_1217)] ∧ SH (fun _ => False) w w' [Box g1415 [v1413] 39, Box g1 [.string a1] 9, Box g3 [v_835] 25, Row k_Place 41 v_835 l_836, Mks bs_61]) ?_ ?_
                   · rintro a W_1218 ⟨b_1217, H, hst, hsh⟩
                     subst hJ_1219
                     dsimp only at H
                     by_cases c1515 : b_1217 = true
                     · rw [if_pos c1515] at H
                       refine wq_condT hst rfl c1515 ?_
                       refine wq_region_lit (.inl rfl) ?_
                       refine r_t hst trivial rfl (x_move hst rfl) ?_; intro a hst
                       refine r_t hst trivial rfl (x_arI (r := w64 ((w64 ((wu64 (w64 (i_1207 + i_1208))) / 2 ^ (Int.toNat 1))) + 1)) hst rfl rfl rfl) ?_; intro a hst
                       refine r_t hst trivial rfl (x_assign hst rfl) ?_; intro a hst
                       refine wpL_nil ?_
                       refine block_normal ?_
                       refine then_normal ?_
                       exact ⟨k_1216, Nat.lt_succ_self _, (w64 ((w64 ((wu64 (w64 (i_1207 + i_1208))) / 2 ^ (Int.toNat 1))) + 1)), i_1208, H, hst.keep _ ⟨rfl, rfl, rfl, rfl, trivial⟩, hsh.pick [0, 0, 0, 0, 0]⟩
                     · rw [if_neg c1515] at H
                       replace c1515 := Bool.eq_false_iff.2 c1515
                       refine wq_condF hst rfl c1515 ?_
                       refine wq_region_lit (.inl rfl) ?_
                       refine r_t hst trivial rfl (x_move hst rfl) ?_; intro a hst
                       refine r_t hst trivial rfl (x_assign hst rfl) ?_; intro a hst
                       refine wpL_nil ?_
                       refine block_normal ?_
                       refine then_normal ?_
                       exact ⟨k_1216, Nat.lt_succ_self _, i_1207, (w64 ((wu64 (w64 (i_1207 + i_1208))) / 2 ^ (Int.toNat 1))), H, hst.keep _ ⟨rfl, rfl, rfl, rfl, trivial⟩, hsh.pick [0, 0, 0, 0, 0]⟩
                   · refine wq_region_lit (.inl rfl) ?_
                     refine r_t hst trivial rfl (x_move hst rfl) ?_; intro a hst
                     refine r_t hst trivial rfl (x_move hst rfl) ?_; intro a hst
                     refine r_inlV hst trivial rfl rfl fn_50 rfl ?_
                     refine calls_enter Try.func50 rfl rfl ?_
                     intro a hst
                     refine wq_seq ?_
                     refine wq_region_lit (.inl rfl) ?_
                     refine r_t hst trivial rfl (x_assign hst rfl) ?_; intro a hst
                     refine wpL_nil ?_
                     refine then_normal ?_
                     refine wq_seq ?_
                     refine wq_region_q (.inl rfl) (fun w' => SH (fun _ => False) w w' [Box g1415 [v1413] 39, Box g1 [.string a1] 9, Box g3 [v_835] 25, Row k_Place 41 v_835 l_836, Mks bs_61]) (shut_sh _ _ _) hsh.drew fo (by kernel_rfl) ?_
                     refine q_t hst trivial rfl (fun _ hsh => x_loadB (i := 0) hst hsh sc_39 rfl rfl rfl) ?_; intro a hst
                     refine q_t hst trivial rfl (fun _ hsh => x_move hst rfl) ?_; intro a hst
                     obtain ⟨x1516, hx1516, H⟩ := Option.bind_eq_some_iff.1 H
                     refine q_t hst trivial rfl (fun _ hsh => x_indexAddr hst Try.underlying39 el_43 rfl rfl hv1414 hx1516) ?_; intro a hst
                     refine q_t hst trivial rfl (fun _ hsh => x_fieldAddrE (n' := Int.toNat (w64 ((wu64 (w64 (i_1207 + i_1208))) / 2 ^ (Int.toNat 1))) * k_File.sz + 3) hst fa_43_3 rfl rfl) ?_; intro a hst
                     refine q_t hst trivial rfl (fun _ hsh => x_loadEF (j := 3) (cs := [.int .i64 x1516.Number, .int .i64 x1516.Size, .string x1516.Least, .string x1516.Limit, .int .u64 x1516.Low, .int .u64 x1516.High]) hst sc_9 rfl hv1414 (Same.sh0 hsa0 hsh) hx1516 rfl (fun _ h => h) rfl) ?_; intro a hst
                     refine q_t hst trivial rfl (fun _ hsh => x_loadB (i := 1) hst hsh sc_9 rfl rfl rfl) ?_; intro a hst
                     refine q_t hst trivial rfl (fun _ hsh => x_cmpS (b := (!(sLt x1516.Limit a1 || sEq x1516.Limit a1))) hst rfl rfl rfl) ?_; intro a hst
                     refine q_t hst trivial rfl (fun _ hsh => x_assign hst rfl) ?_; intro a hst
                     refine q_nil ?_
                     intro w1517 hsh
                     refine then_normal ?_
                     refine wq_ret ?_
                     refine ret1 hst rfl rfl ?_
                     refine ⟨_, rfl, fun a hst => ?_⟩
                     refine r_t hst trivial rfl (x_notB hst rfl) ?_; intro a hst
                     refine wpL_nil ?_
                     refine then_normal ?_
                     exact ⟨(!(!(sLt x1516.Limit a1 || sEq x1516.Limit a1))), H, hst.keep _ ⟨rfl, rfl, rfl, rfl, rfl, rfl, trivial⟩, hsh.pick [0, 0, 0, 0, 0]⟩
                 · rw [if_neg c1512] at H
                   replace c1512 := Bool.eq_false_iff.2 c1512
                   refine wq_condF hst rfl c1512 ?_
                   refine wq_exit ?_
                   refine then_exit ?_
                   refine then_exit ?_
                   refine block_hit ?_
                   refine then_normal ?_
                   exact ⟨i_1207, H, hst.keep _ ⟨rfl, rfl, trivial⟩, hsh.pick [1, 1, 1, 0, 0]⟩
      · rw [if_neg c1303] at H
        replace c1303 := Bool.eq_false_iff.2 c1303
        refine wq_condF hst rfl c1303 ?_
        refine wq_exit ?_
        refine then_exit ?_
        refine then_exit ?_
        refine block_hit ?_
        refine then_normal ?_
        refine wq_seq ?_
        refine wq_region_lit (.inl rfl) ?_
        refine r_t hst trivial rfl (x_loadB (i := 1) hst hsh sc_25 rfl rfl rfl) ?_; intro a hst
        refine r_t hst trivial rfl (x_assign hst rfl) ?_; intro a hst
        refine wpL_nil ?_
        refine then_normal ?_
        refine wq_ret ?_
        refine retM (.inl rfl) hst hsh 3 rfl ?_; intro a w hst hsh
        obtain rfl := Option.some.inj H
        exact ret1 hst rfl rfl ⟨v_835, rfl, hsh.pick [2]⟩
 · refine wq_seq ?_
   refine wq_region_lit (.inl rfl) ?_
   refine r_t hst trivial rfl (x_move hst rfl) ?_; intro a hst
   obtain ⟨r1524, hr1524, H⟩ := Option.bind_eq_some_iff.1 H
   refine r_callD hst trivial rfl fn_46 rfl (version_of.calls k _ _ _ _ (Same.sh0 hsa0 hsh) _ hra0 0 r1524 hr1524) ?_
   rintro e w1525 ⟨v1526, rfl, hc, hv1527⟩
   replace hsh := hsh.call0 hc
   clear hc
   refine ⟨_, rfl, fun a hst => ?_⟩
   refine r_inl hst trivial rfl fn_48 rfl ?_
   refine calls_enter Try.func48 rfl rfl ?_
   intro a hst
   refine wq_seq ?_
   refine wq_region_lit (.inl rfl) ?_
   refine r_box hst hsh trivial rfl rfl (cells_slen hv1527.slen) ?_
   intro g1528 a w1529 hgg1528 hsh hst
   refine r_t hst trivial rfl (x_assign hst rfl) ?_; intro a hst
   refine wpL_nil ?_
   refine then_normal ?_
   refine wq_seq ?_
   refine wq_region_lit (.inl rfl) ?_
   refine r_t hst trivial rfl (x_makeFunc hst rfl) ?_; intro a hst
   refine r_t hst trivial rfl (x_assign hst rfl) ?_; intro a hst
   refine wpL_nil ?_
   refine then_normal ?_
   refine wq_ret ?_
   refine ret1 hst rfl rfl ?_
   refine ⟨_, rfl, fun a hst => ?_⟩
   refine wpL_nil ?_
   refine then_normal ?_
   refine wq_block ?_
   replace hsh := hsh.pick [3, 0, 0, 0]
   refine wq_rangeFunc hst hsh rfl fn_64 ?_
   intro l1530 g1531 r1532 w1533 hpr1532 har1532 hbr1532 htr1532 hsh
   refine calls_enter Try.func64 rfl rfl ?_
   intro a hst
   refine wq_seq ?_
   refine wq_region_lit (.inl rfl) ?_
   refine r_t hst trivial rfl (x_loadB (i := 2) hst hsh sc_39 rfl rfl rfl) ?_; intro a hst
   refine r_t hst trivial rfl (x_lenSl hst Try.underlying39 rfl hv1527.slen) ?_; intro a hst
   refine r_t hst trivial rfl (x_arI (r := w64 ((r1524.length : Int) - 1)) hst rfl rfl rfl) ?_; intro a hst
   refine r_t hst trivial rfl (x_assign hst rfl) ?_; intro a hst
   refine wpL_nil ?_
   refine then_normal ?_
   refine wq_block ?_
   have hsh := hsh.addNil k_Place 41
   refine wq_loop_fuel (fun k_1263 a w' => ∃ (i_1241 : Int), ∃ (v_1243 : Value), ∃ (l_1244 : (List Place)), version_Asks.l2 a1 J_63 r1524 k_1263 i_1241 l_1244 = some r ∧ ST [] Try.f64.ntmps a [(0, .func (.yield l1530) #[] #[]), (1, .pointer (some ⟨g1528, 0, none⟩)), (3, .int .i64 i_1241)] ∧ SH (fun _ => False) w w' [Box g1528 [v1526] 39, Box g1 [.string a1] 9, Box g3 [v_1243] 25, Row k_Place 41 v_1243 l_1244, Blk l1530 (.loop (lrec r1532 .ready none)), Mks (g1531 :: [])]) k ?_ ?_
   · exact ⟨(w64 ((r1524.length : Int) - 1)), (.slice none 0 0), ([]), H, hst.keep _ ⟨rfl, rfl, rfl, trivial⟩, hsh.pick [3, 4, 3, 0, 0, 0]⟩
   · rintro k_1263 a W_1245 ⟨i_1241, v_1243, l_1244, H, hst, hsh⟩
     cases k_1263 with
     | zero => rw [version_Asks.l2] at H; cases H
     | succ k_1263 =>
      rw [version_Asks.l2] at H
      refine wq_seq ?_
      refine wq_seq ?_
      refine wq_region_lit (.inl rfl) ?_
      refine r_t hst trivial rfl (x_move hst rfl) ?_; intro a hst
      refine r_t hst trivial rfl (x_cmpI (b := decide (0 ≤ i_1241)) hst rfl rfl rfl) ?_; intro a hst
      refine wpL_nil ?_
      refine then_normal ?_
      by_cases c1669 : (decide (0 ≤ i_1241)) = true
      · rw [if_pos c1669] at H
        refine wq_condT hst rfl c1669 ?_
        refine wq_skip ?_
        refine then_normal ?_
        obtain ⟨J_1271, hJ_1271, H⟩ := Jn.elim H
        refine wq_cut (fun a w' => ∃ (v_1268 : Value), ∃ (l_1269 : (List Place)), J_1271 l_1269 = some r ∧ ST [] Try.f64.ntmps a [(0, .func (.yield l1530) #[] #[]), (1, .pointer (some ⟨g1528, 0, none⟩)), (3, .int .i64 i_1241)] ∧ SH (fun _ => False) w w' [Box g1528 [v1526] 39, Box g1 [.string a1] 9, Box g3 [v_1268] 25, Row k_Place 41 v_1268 l_1269, Blk l1530 (.loop (lrec r1532 .ready none)), Mks (g1531 :: [])]) ?_ ?_
        · rintro a W_1270 ⟨v_1268, l_1269, H, hst, hsh⟩
          subst hJ_1271
          dsimp only at H
          refine wq_region_lit (.inl rfl) ?_
          refine r_t hst trivial rfl (x_move hst rfl) ?_; intro a hst
          refine r_t hst trivial rfl (x_arI (r := w64 (i_1241 - 1)) hst rfl rfl rfl) ?_; intro a hst
          refine r_t hst trivial rfl (x_assign hst rfl) ?_; intro a hst
          refine wpL_nil ?_
          refine then_normal ?_
          exact ⟨k_1263, Nat.lt_succ_self _, (w64 (i_1241 - 1)), v_1268, l_1269, H, hst.keep _ ⟨rfl, rfl, rfl, trivial⟩, hsh.pick [0, 0, 0, 0, 0, 0]⟩
        · refine wq_block ?_
          obtain ⟨J_1275, hJ_1275, H⟩ := Jn.elim H
          refine wq_cut (fun a w' => ∃ (v_1272 : Value), ∃ (l_1273 : (List Place)), J_1275 l_1273 = some r ∧ ST [] Try.f64.ntmps a [(0, .func (.yield l1530) #[] #[]), (1, .pointer (some ⟨g1528, 0, none⟩)), (3, .int .i64 i_1241), (18, .bool (!true))] ∧ SH (fun _ => False) w w' [Box g1528 [v1526] 39, Box g1 [.string a1] 9, Box g3 [v_1272] 25, Row k_Place 41 v_1272 l_1273, Blk l1530 (.loop (lrec r1532 .ready none)), Mks (g1531 :: [])]) ?_ ?_
          · rintro a W_1274 ⟨v_1272, l_1273, H, hst, hsh⟩
            subst hJ_1275
            dsimp only at H
            by_cases c1716 : (!true) = true
            · rw [if_pos c1716] at H
              refine wq_condT hst rfl c1716 ?_
              refine wq_ret ?_
              refine block_ret ?_
              refine then_ret ?_
              refine then_ret ?_
              refine block_ret ?_
              refine ret0 hst rfl ?_
              refine ⟨_, rfl, loop_end hsh 4 rfl (by decide) ?_⟩
              intro w1717 hsh a hst
              dsimp only
              refine block_normal ?_
              refine then_normal ?_
              exact ⟨v_1272, l_1273, (g1531 :: []), H, hst.keep _ ⟨rfl, rfl, rfl, rfl, trivial⟩, hsh.pick [1, 1, 1, 1]⟩
            · rw [if_neg c1716] at H
              replace c1716 := Bool.eq_false_iff.2 c1716
              refine wq_condF hst rfl c1716 ?_
              refine wq_skip ?_
              refine block_normal ?_
              refine then_normal ?_
              exact ⟨v_1272, l_1273, H, hst.keep _ ⟨rfl, rfl, rfl, trivial⟩, hsh.pick [0, 0, 0, 0, 0, 0]⟩
          · refine wq_region_lit (.inl rfl) ?_
            refine r_t hst trivial rfl (x_move hst rfl) ?_; intro a hst
            refine r_t hst trivial rfl (x_move hst rfl) ?_; intro a hst
            refine r_t hst trivial rfl (x_loadB (i := 0) hst hsh sc_39 rfl rfl rfl) ?_; intro a hst
            refine r_t hst trivial rfl (x_move hst rfl) ?_; intro a hst
            obtain ⟨x1718, hx1718, H⟩ := Option.bind_eq_some_iff.1 H
            refine r_t hst trivial rfl (x_indexAddr hst Try.underlying39 el_43 rfl rfl hv1527 hx1718) ?_; intro a hst
            refine r_t hst trivial rfl (x_loadEsF (j := 0) (cs := [.int .i64 x1718.Number, .int .i64 x1718.Size, .string x1718.Least, .string x1718.Limit, .int .u64 x1718.Low, .int .u64 x1718.High]) (ps := [.int .i64 x1718.Number, .int .i64 x1718.Size, .string x1718.Least, .string x1718.Limit, .int .u64 x1718.Low, .int .u64 x1718.High]) hst ag_43 rfl hv1527 (Same.sh0 hsa0 hsh) hx1718 rfl (fun _ h => h) rfl) ?_; intro a hst
            refine r_yield hst trivial rfl hsh hpr1532 har1532 hbr1532 htr1532 rfl rfl 4 rfl rfl ?_
            intro a hst
            refine wq_region_lit (.inr (by kernel_rfl)) ?_
            refine r_alloc hst hsh trivial rfl zr_43 ?_
            intro g1719 a w1720 hgg1719 hsh hst
            refine r_storeBs (i := 0) (cs' := [.int .i64 x1718.Number, .int .i64 x1718.Size, .string x1718.Least, .string x1718.Limit, .int .u64 x1718.Low, .int .u64 x1718.High]) (vs := [.int .i64 x1718.Number, .int .i64 x1718.Size, .string x1718.Least, .string x1718.Limit, .int .u64 x1718.Low, .int .u64 x1718.High]) hst hsh trivial ag_43 rfl rfl rfl rfl rfl rfl ?_; intro a w1721 hsh hst
            refine wpL_nil ?_
            refine then_normal ?_
            refine round_begin hsh 5 rfl ?_
            intro w1722 hsh
            refine wq_block ?_
            refine wq_seq ?_
            refine wq_region_lit (.inr (by kernel_rfl)) ?_
            refine r_t hst trivial rfl (x_fieldAddr (j' := 2) hst fa_43_2 rfl rfl) ?_; intro a hst
            refine r_t hst trivial rfl (x_loadB (i := 1) hst hsh sc_9 rfl rfl rfl) ?_; intro a hst
            refine r_t hst trivial rfl (x_loadB (i := 3) hst hsh sc_9 rfl rfl rfl) ?_; intro a hst
            refine r_t hst trivial rfl (x_cmpS (b := (sLt x1718.Least a1 || sEq x1718.Least a1)) hst rfl rfl rfl) ?_; intro a hst
            refine r_t hst trivial rfl (x_move hst rfl) ?_; intro a hst
            refine wl_join0 (Δ := []) (N := Try.f19.ntmps) 10 [(5, .pointer (some ⟨g3, 0, none⟩)), (7, .pointer (some ⟨g1719, 0, none⟩)), (25, .bool ((sLt x1718.Least a1 || sEq x1718.Least a1) && (sLt a1 x1718.Limit)))] ?_ ?_
            · intro a hst
              refine wpL_nil ?_
              refine then_normal ?_
              by_cases c1724 : ((sLt x1718.Least a1 || sEq x1718.Least a1) && (sLt a1 x1718.Limit)) = true
              · rw [if_pos c1724] at H
                refine wq_condT hst rfl c1724 ?_
                refine wq_region_lit (.inr (by kernel_rfl)) ?_
                refine r_t hst trivial rfl (x_loadB (i := 4) hst hsh sc_25 rfl rfl rfl) ?_; intro a hst
                refine r_t hst trivial rfl (x_fieldAddr (j' := 0) hst fa_43_0 rfl rfl) ?_; intro a hst
                refine r_t hst trivial rfl (x_loadB (i := 1) hst hsh sc_3 rfl rfl rfl) ?_; intro a hst
                refine r_t hst trivial rfl (x_build (cs := [.int .i64 0, .int .i64 x1718.Number]) hst rfl (by kernel_rfl)) ?_; intro a hst
                refine r_buildSlice (vs := [.agg #[.int .i64 0, .int .i64 x1718.Number]]) (cs := [.int .i64 0, .int .i64 x1718.Number]) hst hsh trivial rfl Try.underlying25 el_41 rfl rfl (by simp [Value.cells]) rfl rfl ?_
                intro g1725 a w1726 hgg1725 hsh hst
                replace hsh := hsh.pick [6, 0, 0, 0, 0, 0, 0, 0]
                obtain ⟨l1727, hl1727, H⟩ := Option.bind_eq_some_iff.1 H
                refine r_append1 (xx := (⟨0, x1718.Number⟩ : Place)) (C := []) (M := [Blk l1530 (.loop (lrec r1532 .busy none)), Box g1719 [.int .i64 x1718.Number, .int .i64 x1718.Size, .string x1718.Least, .string x1718.Limit, .int .u64 x1718.Low, .int .u64 x1718.High] 43, Box g1528 [v1526] 39, Box g1 [.string a1] 9, Box g3 [v_1243] 25, Mks (g1531 :: [])]) hst hsh trivial rfl Try.underlying25 el_41 (by decide) (by decide) (by decide) rfl rfl (fun _ _ _ => rfl) hl1727 ?_
                intro v1728 a w1729 hsh hst
                refine r_storeB (i := 5) (cs' := [v1728]) hst hsh trivial sc_25 rfl rfl rfl rfl (one_slice (hsh.row 0 rfl).slen) rfl ?_; intro a w1730 hsh hst
                refine wpL_nil ?_
                refine block_normal ?_
                refine round_end hsh 2 rfl ?_
                intro w1731 hsh
                refine ⟨_, rfl, fun a hst => ?_⟩
                refine r_t hst trivial rfl (x_notB hst rfl) ?_; intro a hst
                refine wpL_nil ?_
                refine then_normal ?_
                exact ⟨v1728, l1727, H, hst.keep _ ⟨rfl, rfl, rfl, rfl, trivial⟩, hsh.pick [4, 4, 1, 1, 0, 1]⟩
              · rw [if_neg c1724] at H
                replace c1724 := Bool.eq_false_iff.2 c1724
                refine wq_condF hst rfl c1724 ?_
                refine wq_skip ?_
                refine block_normal ?_
                refine round_end hsh 0 rfl ?_
                intro w1732 hsh
                refine ⟨_, rfl, fun a hst => ?_⟩
                refine r_t hst trivial rfl (x_notB hst rfl) ?_; intro a hst
                refine wpL_nil ?_
                refine then_normal ?_
                exact ⟨v_1243, l_1244, H, hst.keep _ ⟨rfl, rfl, rfl, rfl, trivial⟩, hsh.pick [2, 2, 2, 2, 0, 1]⟩
            · intro hj
              by_cases c1723 : (sLt x1718.Least a1 || sEq x1718.Least a1) = true
              · refine r_t hst (wt_of 20 rfl rfl c1723) rfl (x_loadB (i := 3) hst hsh sc_9 rfl rfl rfl) ?_; intro a hst
                refine r_t hst (wt_of 20 rfl rfl c1723) rfl (x_fieldAddr (j' := 3) hst fa_43_3 rfl rfl) ?_; intro a hst
                refine r_t hst (wt_of 20 rfl rfl c1723) rfl (x_loadB (i := 1) hst hsh sc_9 rfl rfl rfl) ?_; intro a hst
                refine r_t hst (wt_of 20 rfl rfl c1723) rfl (x_cmpS (b := sLt a1 x1718.Limit) hst rfl rfl rfl) ?_; intro a hst
                refine r_t hst trivial rfl (x_andT hst rfl c1723 rfl) ?_; intro a hst
                exact hj _ (hst.keep _ ⟨rfl, rfl, rfl, trivial⟩)
              · replace c1723 := Bool.eq_false_iff.2 c1723
                refine r_not hst 20 rfl rfl c1723 rfl ?_; intro a hst
                refine r_not hst 20 rfl rfl c1723 rfl ?_; intro a hst
                refine r_not hst 20 rfl rfl c1723 rfl ?_; intro a hst
                refine r_not hst 20 rfl rfl c1723 rfl ?_; intro a hst
                refine r_t hst trivial rfl (x_andF (sLt a1 x1718.Limit) hst rfl c1723 rfl) ?_; intro a hst
                exact hj _ (hst.keep _ ⟨rfl, rfl, rfl, trivial⟩)
      · rw [if_neg c1669] at H
        replace c1669 := Bool.eq_false_iff.2 c1669
        refine wq_condF hst rfl c1669 ?_
        refine wq_exit ?_
        refine then_exit ?_
        refine then_exit ?_
        refine block_hit ?_
        refine end0 hst rfl ?_
        refine ⟨_, rfl, loop_end hsh 4 rfl (by decide) ?_⟩
        intro w1733 hsh a hst
        dsimp only
        refine block_normal ?_
        refine then_normal ?_
        exact ⟨v_1243, l_1244, (g1531 :: []), H, hst.keep _ ⟨rfl, rfl, rfl, rfl, trivial⟩, hsh.pick [1, 1, 1, 1]⟩

set_option maxHeartbeats 4000000 in
set_option maxRecDepth 100000 in
theorem l16_one.calls (k : Nat) (w : World)  (r : Bool) (h : l16_one k = some r) :
    Calls Try.prog 21 ([] : List Value).toArray w fun e w' => e = .returned (.bool r) ∧ SH (fun _ => False) w w' [] := by
 have H := h
 clear h
 unfold l16_one at H
 refine calls_enter Try.func21 rfl rfl ?_
 intro a hst
 have hsh := SH.zero (fun _ => False) w
 refine wq_seq ?_
 refine wq_region_lit (.inl rfl) ?_
 refine r_t hst trivial rfl (x_assign hst rfl) ?_; intro a hst
 refine wpL_nil ?_
 refine then_normal ?_
 refine wq_seq ?_
 refine wq_region_lit (.inl rfl) ?_
 refine r_t hst trivial rfl (x_build (cs := [.int .i64 3, .int .i64 9, .string (ByteArray.mk #[97]), .string (ByteArray.mk #[99]), .int .u64 1, .int .u64 1]) hst rfl (by kernel_rfl)) ?_; intro a hst
 refine r_buildSlice (vs := [.agg #[.int .i64 3, .int .i64 9, .string (ByteArray.mk #[97]), .string (ByteArray.mk #[99]), .int .u64 1, .int .u64 1]]) (cs := [.int .i64 3, .int .i64 9, .string (ByteArray.mk #[97]), .string (ByteArray.mk #[99]), .int .u64 1, .int .u64 1]) hst hsh trivial rfl Try.underlying39 el_43 rfl rfl (by simp [Value.cells]) rfl rfl ?_
 intro g1 a w2 hgg1 hsh hst
 replace hsh := hsh.pick [0]
 replace hsh : SH (fun _ => False) w w2 [Row k_File 43 (.slice (some ⟨g1, 0, none⟩) 1 1) ([(⟨3, 9, (ByteArray.mk #[97]), (ByteArray.mk #[99]), 1, 1⟩ : File)])] := SH.boxRow ([(⟨3, 9, (ByteArray.mk #[97]), (ByteArray.mk #[99]), 1, 1⟩ : File)] : List File) hsh rfl rfl rfl
 refine r_buildSlice (vs := [(.slice (some ⟨g1, 0, none⟩) 1 1)]) (cs := [(.slice (some ⟨g1, 0, none⟩) 1 1)]) hst hsh trivial rfl Try.underlying23 el_39 rfl rfl (by simp [cells_sl, cells_slen (hsh.row 0 rfl).slen]) rfl (by simp [cells_sl, cells_slen (hsh.row 0 rfl).slen]) ?_
 intro g4 a w5 hgg4 hsh hst
 replace hsh := hsh.pick [0, 0]
 replace hsh : SH (fun _ => False) w w5 [Row (Kd.slice 43 k_File) 39 (.slice (some ⟨g4, 0, none⟩) 1 1) ([[(⟨3, 9, (ByteArray.mk #[97]), (ByteArray.mk #[99]), 1, 1⟩ : File)]])] := SH.boxRowM (C := [Row k_File 43 (.slice (some ⟨g1, 0, none⟩) 1 1) ([(⟨3, 9, (ByteArray.mk #[97]), (ByteArray.mk #[99]), 1, 1⟩ : File)])]) ([[(⟨3, 9, (ByteArray.mk #[97]), (ByteArray.mk #[99]), 1, 1⟩ : File)]] : List (List File)) hsh (ef_cons mf_slice ef_nil) rfl rfl (by decide)
 refine r_t hst trivial rfl (x_assign hst rfl) ?_; intro a hst
 refine wpL_nil ?_
 refine then_normal ?_
 refine wq_seq ?_
 refine wq_region_lit (.inl rfl) ?_
 refine r_t hst trivial rfl (x_move hst rfl) ?_; intro a hst
 obtain ⟨r7, hr7, H⟩ := Option.bind_eq_some_iff.1 H
 refine r_callD hst trivial rfl fn_12 rfl (version_Valid.calls k _ _ _ _ (Same.refl _ _) _ (hsh.row 0 rfl) r7 hr7) ?_
 rintro e w8 ⟨rfl, hc⟩
 replace hsh := hsh.call0 hc
 clear hc
 refine ⟨_, rfl, fun a hst => ?_⟩
 refine r_t hst trivial rfl (x_move hst rfl) ?_; intro a hst
 obtain ⟨J_2, hJ_2, H⟩ := Jn.elim H
 refine wl_join 7 (fun a w' => ∃ (b_1 : Bool), J_2 b_1 = some r ∧ ST [] Try.f21.ntmps a [(0, .bool false), (1, (.slice (some ⟨g4, 0, none⟩) 1 1)), (11, .bool b_1)] ∧ SH (fun _ => False) w w' [Row (Kd.slice 43 k_File) 39 (.slice (some ⟨g4, 0, none⟩) 1 1) ([[(⟨3, 9, (ByteArray.mk #[97]), (ByteArray.mk #[99]), 1, 1⟩ : File)]])]) ?_ ?_
 · rintro a W_3 ⟨b_1, H, hst, hsh⟩
   subst hJ_2
   dsimp only at H
   refine r_t hst trivial rfl (x_move hst rfl) ?_; intro a hst
   obtain ⟨J_5, hJ_5, H⟩ := Jn.elim H
   refine wl_join 13 (fun a w' => ∃ (b_4 : Bool), J_5 b_4 = some r ∧ ST [] Try.f21.ntmps a [(0, .bool false), (1, (.slice (some ⟨g4, 0, none⟩) 1 1)), (17, .bool b_4)] ∧ SH (fun _ => False) w w' [Row (Kd.slice 43 k_File) 39 (.slice (some ⟨g4, 0, none⟩) 1 1) ([[(⟨3, 9, (ByteArray.mk #[97]), (ByteArray.mk #[99]), 1, 1⟩ : File)]])]) ?_ ?_
   · rintro a W_6 ⟨b_4, H, hst, hsh⟩
     subst hJ_5
     dsimp only at H
     refine r_t hst trivial rfl (x_move hst rfl) ?_; intro a hst
     obtain ⟨J_8, hJ_8, H⟩ := Jn.elim H
     refine wl_join 19 (fun a w' => ∃ (b_7 : Bool), J_8 b_7 = some r ∧ ST [] Try.f21.ntmps a [(0, .bool false), (23, .bool b_7)] ∧ SH (fun _ => False) w w' []) ?_ ?_
     · rintro a W_9 ⟨b_7, H, hst, hsh⟩
       subst hJ_8
       dsimp only at H
       refine r_t hst trivial rfl (x_assign hst rfl) ?_; intro a hst
       refine wpL_nil ?_
       refine then_normal ?_
       refine wq_ret ?_
       obtain rfl := Option.some.inj H
       exact ret1 hst rfl rfl ⟨rfl, hsh.pick []⟩
     · intro hj
       by_cases c17 : b_4 = true
       · rw [if_pos c17] at H
         refine r_t hst (wt_of 18 rfl rfl c17) rfl (x_move hst rfl) ?_; intro a hst
         obtain ⟨r22, hr22, H⟩ := Option.bind_eq_some_iff.1 H
         refine r_callD hst (wt_of 18 rfl rfl c17) rfl fn_19 rfl (version_Asks.calls k _ _ _ _ (Same.refl _ _) _ (hsh.row 0 rfl) (ByteArray.mk #[98]) r22 hr22) ?_
         rintro e w23 ⟨v24, rfl, hc⟩
         replace hsh := hsh.call0 hc
         clear hc
         refine ⟨_, rfl, fun a hst => ?_⟩
         refine r_t hst (wt_of 18 rfl rfl c17) rfl (x_lenSl hst Try.underlying25 rfl (hsh.row 0 rfl).slen) ?_; intro a hst
         refine r_t hst (wt_of 18 rfl rfl c17) rfl (x_cmpI (b := ((r22.length : Int) == 1)) hst rfl rfl rfl) ?_; intro a hst
         refine r_t hst trivial rfl (x_pickT hst rfl c17 rfl) ?_; intro a hst
         exact hj _ _ ⟨((r22.length : Int) == 1), H, hst.keep _ ⟨rfl, rfl, trivial⟩, hsh.pick []⟩
       · rw [if_neg c17] at H
         replace c17 := Bool.eq_false_iff.2 c17
         refine r_not hst 18 rfl rfl c17 rfl ?_; intro a hst
         refine r_not hst 18 rfl rfl c17 rfl ?_; intro a hst
         refine r_not hst 18 rfl rfl c17 rfl ?_; intro a hst
         refine r_not hst 18 rfl rfl c17 rfl ?_; intro a hst
         refine r_t hst trivial rfl (x_pickF hst rfl c17 rfl) ?_; intro a hst
         exact hj _ _ ⟨false, H, hst.keep _ ⟨rfl, rfl, trivial⟩, hsh.pick []⟩
   · intro hj
     by_cases c12 : b_1 = true
     · rw [if_pos c12] at H
       refine r_t hst (wt_of 12 rfl rfl c12) rfl (x_move hst rfl) ?_; intro a hst
       obtain ⟨r26, hr26, H⟩ := Option.bind_eq_some_iff.1 H
       refine r_callD hst (wt_of 12 rfl rfl c12) rfl fn_18 rfl (version_Over.calls k _ _ _ _ (Same.refl _ _) _ (hsh.row 0 rfl) 0 (ByteArray.mk #[98]) (ByteArray.mk #[]) r26 hr26) ?_
       rintro e w27 ⟨v28, rfl, hc⟩
       replace hsh := hsh.call0 hc
       clear hc
       refine ⟨_, rfl, fun a hst => ?_⟩
       refine r_t hst (wt_of 12 rfl rfl c12) rfl (x_lenSl hst Try.underlying39 rfl (hsh.row 0 rfl).slen) ?_; intro a hst
       refine r_t hst (wt_of 12 rfl rfl c12) rfl (x_cmpI (b := ((r26.length : Int) == 1)) hst rfl rfl rfl) ?_; intro a hst
       refine r_t hst trivial rfl (x_pickT hst rfl c12 rfl) ?_; intro a hst
       exact hj _ _ ⟨((r26.length : Int) == 1), H, hst.keep _ ⟨rfl, rfl, rfl, trivial⟩, hsh.pick [1]⟩
     · rw [if_neg c12] at H
       replace c12 := Bool.eq_false_iff.2 c12
       refine r_not hst 12 rfl rfl c12 rfl ?_; intro a hst
       refine r_not hst 12 rfl rfl c12 rfl ?_; intro a hst
       refine r_not hst 12 rfl rfl c12 rfl ?_; intro a hst
       refine r_not hst 12 rfl rfl c12 rfl ?_; intro a hst
       refine r_t hst trivial rfl (x_pickF hst rfl c12 rfl) ?_; intro a hst
       exact hj _ _ ⟨false, H, hst.keep _ ⟨rfl, rfl, rfl, trivial⟩, hsh.pick [0]⟩
 · intro hj
   by_cases c9 : r7 = true
   · rw [if_pos c9] at H
     refine r_t hst (wt_of 7 rfl rfl c9) rfl (x_move hst rfl) ?_; intro a hst
     obtain ⟨r30, hr30, H⟩ := Option.bind_eq_some_iff.1 H
     refine r_callD hst (wt_of 7 rfl rfl c9) rfl fn_31 rfl (version_Files.calls k _ _ _ _ (Same.refl _ _) _ (hsh.row 0 rfl) r30 hr30) ?_
     rintro e w31 ⟨rfl, hc⟩
     replace hsh := hsh.call0 hc
     clear hc
     refine ⟨_, rfl, fun a hst => ?_⟩
     refine r_t hst (wt_of 7 rfl rfl c9) rfl (x_cmpI (b := (r30 == 1)) hst rfl rfl rfl) ?_; intro a hst
     refine r_t hst trivial rfl (x_pickT hst rfl c9 rfl) ?_; intro a hst
     exact hj _ _ ⟨(r30 == 1), H, hst.keep _ ⟨rfl, rfl, rfl, trivial⟩, hsh.pick [0]⟩
   · rw [if_neg c9] at H
     replace c9 := Bool.eq_false_iff.2 c9
     refine r_not hst 7 rfl rfl c9 rfl ?_; intro a hst
     refine r_not hst 7 rfl rfl c9 rfl ?_; intro a hst
     refine r_not hst 7 rfl rfl c9 rfl ?_; intro a hst
     refine r_t hst trivial rfl (x_pickF hst rfl c9 rfl) ?_; intro a hst
     exact hj _ _ ⟨false, H, hst.keep _ ⟨rfl, rfl, rfl, trivial⟩, hsh.pick [0]⟩

set_option maxHeartbeats 4000000 in
set_option maxRecDepth 100000 in
theorem version_Size.calls (k : Nat) (w : World) (va0 : Value) (Za0 : Nat → Prop) (wra0 : World) (hsa0 : Same Za0 wra0 w) (a0 : (List (List File))) (hra0 : RD (Kd.slice 43 k_File) Za0 wra0 va0 a0) (a1 : Int) (r : Int) (h : version_Size k a0 a1 = some r) :
    Calls Try.prog 29 ([va0, .int .i64 a1] : List Value).toArray w fun e w' => e = .returned (.int .i64 r) ∧ SH (fun _ => False) w w' [] := by
 have H := h
 clear h
 unfold version_Size at H
 refine calls_enter Try.func29 rfl rfl ?_
 intro a hst
 have hsh := SH.zero (fun _ => False) w
 refine wq_seq ?_
 refine wq_region_lit (.inl rfl) ?_
 refine r_t hst trivial rfl (x_assign hst rfl) ?_; intro a hst
 refine wpL_nil ?_
 refine then_normal ?_
 refine wq_seq ?_
 refine wq_region_lit (.inl rfl) ?_
 refine r_t hst trivial rfl (x_assign hst rfl) ?_; intro a hst
 refine wpL_nil ?_
 refine then_normal ?_
 refine wq_seq ?_
 refine wq_seq ?_
 refine wq_region_lit (.inl rfl) ?_
 refine r_t hst trivial rfl (x_move hst rfl) ?_; intro a hst
 refine r_t hst trivial rfl (x_move hst rfl) ?_; intro a hst
 obtain ⟨r35, hr35, H⟩ := Option.bind_eq_some_iff.1 H
 refine r_callD hst trivial rfl fn_46 rfl (version_of.calls k _ _ _ _ (Same.sh0 hsa0 hsh) _ hra0 a1 r35 hr35) ?_
 rintro e w36 ⟨v37, rfl, hc, hv38⟩
 replace hsh := hsh.call0 hc
 clear hc
 refine ⟨_, rfl, fun a hst => ?_⟩
 refine r_t hst trivial rfl (x_lenSl hst Try.underlying39 rfl hv38.slen) ?_; intro a hst
 refine r_t hst trivial rfl (x_move hst rfl) ?_; intro a hst
 refine wpL_nil ?_
 refine then_normal ?_
 refine wq_block ?_
 refine wq_loop_fuel (fun k_22 a w' => ∃ (i_16 : Int), ∃ (i_17 : Int), version_Size.l0 r35 k_22 i_16 i_17 = some r ∧ ST [] Try.f29.ntmps a [(4, .int .i64 0), (5, .int .i64 i_16), (10, v37), (11, .int .i64 (r35.length : Int)), (12, .int .i64 i_17)] ∧ SH (fun _ => False) w w' []) k ?_ ?_
 · exact ⟨0, 0, H, hst.keep _ ⟨rfl, rfl, rfl, rfl, rfl, trivial⟩, hsh.pick []⟩
 · rintro k_22 a W_18 ⟨i_16, i_17, H, hst, hsh⟩
   cases k_22 with
   | zero => rw [version_Size.l0] at H; cases H
   | succ k_22 =>
    rw [version_Size.l0] at H
    refine wq_seq ?_
    refine wq_region_lit (.inl rfl) ?_
    refine r_t hst trivial rfl (x_cmpI (b := decide (i_17 < (r35.length : Int))) hst rfl rfl rfl) ?_; intro a hst
    refine wpL_nil ?_
    refine then_normal ?_
    refine wq_seq ?_
    by_cases c60 : (decide (i_17 < (r35.length : Int))) = true
    · rw [if_pos c60] at H
      refine wq_condT hst rfl c60 ?_
      refine wq_skip ?_
      refine then_normal ?_
      refine wq_seq ?_
      refine wq_block ?_
      refine wq_seq ?_
      refine wq_region_lit (.inl rfl) ?_
      obtain ⟨x65, hx65, H⟩ := Option.bind_eq_some_iff.1 H
      refine r_t hst trivial rfl (x_indexAddr hst Try.underlying39 el_43 rfl rfl hv38 hx65) ?_; intro a hst
      refine r_t hst trivial rfl (x_loadEsF (j := 0) (cs := [.int .i64 x65.Number, .int .i64 x65.Size, .string x65.Least, .string x65.Limit, .int .u64 x65.Low, .int .u64 x65.High]) (ps := [.int .i64 x65.Number, .int .i64 x65.Size, .string x65.Least, .string x65.Limit, .int .u64 x65.Low, .int .u64 x65.High]) hst ag_43 rfl hv38 (Same.sh0 hsa0 hsh) hx65 rfl (fun _ h => h) rfl) ?_; intro a hst
      refine r_alloc hst hsh trivial rfl zr_43 ?_
      intro g66 a w67 hgg66 hsh hst
      refine r_storeBs (i := 0) (cs' := [.int .i64 x65.Number, .int .i64 x65.Size, .string x65.Least, .string x65.Limit, .int .u64 x65.Low, .int .u64 x65.High]) (vs := [.int .i64 x65.Number, .int .i64 x65.Size, .string x65.Least, .string x65.Limit, .int .u64 x65.Low, .int .u64 x65.High]) hst hsh trivial ag_43 rfl rfl rfl rfl rfl rfl ?_; intro a w68 hsh hst
      refine wpL_nil ?_
      refine then_normal ?_
      refine wq_region_lit (.inl rfl) ?_
      refine r_t hst trivial rfl (x_move hst rfl) ?_; intro a hst
      refine r_t hst trivial rfl (x_fieldAddr (j' := 1) hst fa_43_1 rfl rfl) ?_; intro a hst
      refine r_t hst trivial rfl (x_loadB (i := 0) hst hsh sc_3 rfl rfl rfl) ?_; intro a hst
      refine r_t hst trivial rfl (x_arI (r := w64 (i_16 + x65.Size)) hst rfl rfl rfl) ?_; intro a hst
      refine r_t hst trivial rfl (x_assign hst rfl) ?_; intro a hst
      refine wpL_nil ?_
      refine block_normal ?_
      refine then_normal ?_
      refine wq_region_lit (.inl rfl) ?_
      refine r_t hst trivial rfl (x_arI (r := w64 (i_17 + 1)) hst rfl rfl rfl) ?_; intro a hst
      refine r_t hst trivial rfl (x_move hst rfl) ?_; intro a hst
      refine wpL_nil ?_
      refine then_normal ?_
      exact ⟨k_22, Nat.lt_succ_self _, (w64 (i_16 + x65.Size)), (w64 (i_17 + 1)), H, hst.keep _ ⟨rfl, rfl, rfl, rfl, rfl, trivial⟩, hsh.pick []⟩
    · rw [if_neg c60] at H
      replace c60 := Bool.eq_false_iff.2 c60
      refine wq_condF hst rfl c60 ?_
      refine wq_exit ?_
      refine then_exit ?_
      refine then_exit ?_
      refine block_hit ?_
      refine then_normal ?_
      refine wq_seq ?_
      refine wq_region_lit (.inl rfl) ?_
      refine r_t hst trivial rfl (x_move hst rfl) ?_; intro a hst
      refine r_t hst trivial rfl (x_assign hst rfl) ?_; intro a hst
      refine wpL_nil ?_
      refine then_normal ?_
      refine wq_ret ?_
      obtain rfl := Option.some.inj H
      exact ret1 hst rfl rfl ⟨rfl, hsh.pick []⟩

set_option maxHeartbeats 4000000 in
set_option maxRecDepth 100000 in
theorem r16_Size.calls (k : Nat) (w : World) (va0 : Value) (Za0 : Nat → Prop) (wra0 : World) (hsa0 : Same Za0 wra0 w) (a0 : (List (List File))) (hra0 : RD (Kd.slice 43 k_File) Za0 wra0 va0 a0) (a1 : Int) (r : Int) (h : r16_Size k a0 a1 = some r) :
    Calls Try.prog 30 ([va0, .int .i64 a1] : List Value).toArray w fun e w' => e = .returned (.int .i64 r) ∧ SH (fun _ => False) w w' [] := by
 have H := h
 clear h
 unfold r16_Size at H
 refine calls_enter Try.func30 rfl rfl ?_
 intro a hst
 have hsh := SH.zero (fun _ => False) w
 refine wq_seq ?_
 refine wq_region_lit (.inl rfl) ?_
 refine r_t hst trivial rfl (x_assign hst rfl) ?_; intro a hst
 refine wpL_nil ?_
 refine then_normal ?_
 refine wq_seq ?_
 refine wq_region_lit (.inl rfl) ?_
 refine r_t hst trivial rfl (x_assign hst rfl) ?_; intro a hst
 refine wpL_nil ?_
 refine then_normal ?_
 refine wq_seq ?_
 refine wq_region_lit (.inl rfl) ?_
 refine r_t hst trivial rfl (x_move hst rfl) ?_; intro a hst
 refine r_t hst trivial rfl (x_move hst rfl) ?_; intro a hst
 obtain ⟨r1, hr1, H⟩ := Option.bind_eq_some_iff.1 H
 refine r_callD hst trivial rfl fn_51 rfl (r16_level.calls k _ _ _ _ (Same.sh0 hsa0 hsh) _ hra0 a1 r1 hr1) ?_
 rintro e w2 ⟨v3, rfl, hc, hv4⟩
 replace hsh := hsh.call0 hc
 clear hc
 refine ⟨_, rfl, fun a hst => ?_⟩
 refine r_t hst trivial rfl (x_assign hst rfl) ?_; intro a hst
 refine wpL_nil ?_
 refine then_normal ?_
 refine wq_seq ?_
 refine wq_seq ?_
 refine wq_region_lit (.inl rfl) ?_
 refine r_t hst trivial rfl (x_assign hst rfl) ?_; intro a hst
 refine wpL_nil ?_
 refine then_normal ?_
 refine wq_block ?_
 refine wq_loop_fuel (fun k_22 a w' => ∃ (i_16 : Int), ∃ (i_17 : Int), r16_Size.l0 r1 k_22 i_16 i_17 = some r ∧ ST [] Try.f30.ntmps a [(4, .int .i64 0), (5, .int .i64 i_16), (6, v3), (7, .int .i64 i_17)] ∧ SH (fun _ => False) w w' []) k ?_ ?_
 · exact ⟨0, 0, H, hst.keep _ ⟨rfl, rfl, rfl, rfl, trivial⟩, hsh.pick []⟩
 · rintro k_22 a W_18 ⟨i_16, i_17, H, hst, hsh⟩
   cases k_22 with
   | zero => rw [r16_Size.l0] at H; cases H
   | succ k_22 =>
    rw [r16_Size.l0] at H
    refine wq_seq ?_
    refine wq_seq ?_
    refine wq_region_lit (.inl rfl) ?_
    refine r_t hst trivial rfl (x_move hst rfl) ?_; intro a hst
    refine r_t hst trivial rfl (x_move hst rfl) ?_; intro a hst
    refine r_t hst trivial rfl (x_lenSl hst Try.underlying39 rfl hv4.slen) ?_; intro a hst
    refine r_t hst trivial rfl (x_cmpI (b := decide (i_17 < (r1.length : Int))) hst rfl rfl rfl) ?_; intro a hst
    refine wpL_nil ?_
    refine then_normal ?_
    by_cases c26 : (decide (i_17 < (r1.length : Int))) = true
    · rw [if_pos c26] at H
      refine wq_condT hst rfl c26 ?_
      refine wq_skip ?_
      refine then_normal ?_
      refine wq_seq ?_
      refine wq_block ?_
      refine wq_region_lit (.inl rfl) ?_
      refine r_t hst trivial rfl (x_move hst rfl) ?_; intro a hst
      refine r_t hst trivial rfl (x_move hst rfl) ?_; intro a hst
      refine r_t hst trivial rfl (x_move hst rfl) ?_; intro a hst
      obtain ⟨x28, hx28, H⟩ := Option.bind_eq_some_iff.1 H
      refine r_t hst trivial rfl (x_indexAddr hst Try.underlying39 el_43 rfl rfl hv4 hx28) ?_; intro a hst
      refine r_t hst trivial rfl (x_fieldAddrE (n' := Int.toNat i_17 * k_File.sz + 1) hst fa_43_1 rfl rfl) ?_; intro a hst
      refine r_t hst trivial rfl (x_loadEF (j := 1) (cs := [.int .i64 x28.Number, .int .i64 x28.Size, .string x28.Least, .string x28.Limit, .int .u64 x28.Low, .int .u64 x28.High]) hst sc_3 rfl hv4 (Same.sh0 hsa0 hsh) hx28 rfl (fun _ h => h) rfl) ?_; intro a hst
      refine r_t hst trivial rfl (x_arI (r := w64 (i_16 + x28.Size)) hst rfl rfl rfl) ?_; intro a hst
      refine r_t hst trivial rfl (x_assign hst rfl) ?_; intro a hst
      refine wpL_nil ?_
      refine block_normal ?_
      refine then_normal ?_
      refine wq_region_lit (.inl rfl) ?_
      refine r_t hst trivial rfl (x_move hst rfl) ?_; intro a hst
      refine r_t hst trivial rfl (x_arI (r := w64 (i_17 + 1)) hst rfl rfl rfl) ?_; intro a hst
      refine r_t hst trivial rfl (x_assign hst rfl) ?_; intro a hst
      refine wpL_nil ?_
      refine then_normal ?_
      exact ⟨k_22, Nat.lt_succ_self _, (w64 (i_16 + x28.Size)), (w64 (i_17 + 1)), H, hst.keep _ ⟨rfl, rfl, rfl, rfl, trivial⟩, hsh.pick []⟩
    · rw [if_neg c26] at H
      replace c26 := Bool.eq_false_iff.2 c26
      refine wq_condF hst rfl c26 ?_
      refine wq_exit ?_
      refine then_exit ?_
      refine then_exit ?_
      refine block_hit ?_
      refine then_normal ?_
      refine wq_seq ?_
      refine wq_region_lit (.inl rfl) ?_
      refine r_t hst trivial rfl (x_move hst rfl) ?_; intro a hst
      refine r_t hst trivial rfl (x_assign hst rfl) ?_; intro a hst
      refine wpL_nil ?_
      refine then_normal ?_
      refine wq_ret ?_
      obtain rfl := Option.some.inj H
      exact ret1 hst rfl rfl ⟨rfl, hsh.pick []⟩

set_option maxHeartbeats 4000000 in
set_option maxRecDepth 100000 in
theorem l16_ints.calls (k : Nat) (w : World) (va0 : Value) (Za0 : Nat → Prop) (wra0 : World) (hsa0 : Same Za0 wra0 w) (a0 : (List Int)) (hra0 : RD (Kd.int .i64) Za0 wra0 va0 a0) (va1 : Value) (Za1 : Nat → Prop) (wra1 : World) (hsa1 : Same Za1 wra1 w) (a1 : (List Int)) (hra1 : RD (Kd.int .i64) Za1 wra1 va1 a1) (r : Bool) (h : l16_ints k a0 a1 = some r) :
    Calls Try.prog 32 ([va0, va1] : List Value).toArray w fun e w' => e = .returned (.bool r) ∧ SH (fun _ => False) w w' [] := by
 have H := h
 clear h
 unfold l16_ints at H
 refine calls_enter Try.func32 rfl rfl ?_
 intro a hst
 have hsh := SH.zero (fun _ => False) w
 refine wq_seq ?_
 refine wq_region_lit (.inl rfl) ?_
 refine r_t hst trivial rfl (x_assign hst rfl) ?_; intro a hst
 refine wpL_nil ?_
 refine then_normal ?_
 refine wq_seq ?_
 refine wq_seq ?_
 refine wq_region_lit (.inl rfl) ?_
 refine r_t hst trivial rfl (x_move hst rfl) ?_; intro a hst
 refine r_t hst trivial rfl (x_lenSl hst Try.underlying56 rfl hra0.slen) ?_; intro a hst
 refine r_t hst trivial rfl (x_move hst rfl) ?_; intro a hst
 refine r_t hst trivial rfl (x_lenSl hst Try.underlying56 rfl hra1.slen) ?_; intro a hst
 refine r_t hst trivial rfl (x_cmpI (b := ((a0.length : Int) != (a1.length : Int))) hst rfl rfl rfl) ?_; intro a hst
 refine wpL_nil ?_
 refine then_normal ?_
 by_cases c2 : ((a0.length : Int) != (a1.length : Int)) = true
 · rw [if_pos c2] at H
   refine wq_condT hst rfl c2 ?_
   refine wq_seq ?_
   refine wq_region_lit (.inl rfl) ?_
   refine r_t hst trivial rfl (x_assign hst rfl) ?_; intro a hst
   refine wpL_nil ?_
   refine then_normal ?_
   refine wq_ret ?_
   refine then_ret ?_
   obtain rfl := Option.some.inj H
   exact ret1 hst rfl rfl ⟨rfl, hsh.pick []⟩
 · rw [if_neg c2] at H
   replace c2 := Bool.eq_false_iff.2 c2
   refine wq_condF hst rfl c2 ?_
   refine wq_skip ?_
   refine then_normal ?_
   refine wq_seq ?_
   refine wq_seq ?_
   refine wq_region_lit (.inl rfl) ?_
   refine r_t hst trivial rfl (x_assign hst rfl) ?_; intro a hst
   refine wpL_nil ?_
   refine then_normal ?_
   refine wq_block ?_
   refine wq_loop_fuel (fun k_16 a w' => ∃ (i_12 : Int), l16_ints.l0 a0 a1 k_16 i_12 = some r ∧ ST [] Try.f32.ntmps a [(0, va0), (1, va1), (4, .bool false), (5, .int .i64 i_12)] ∧ SH (fun _ => False) w w' []) k ?_ ?_
   · exact ⟨0, H, hst.keep _ ⟨rfl, rfl, rfl, rfl, trivial⟩, hsh.pick []⟩
   · rintro k_16 a W_13 ⟨i_12, H, hst, hsh⟩
     cases k_16 with
     | zero => rw [l16_ints.l0] at H; cases H
     | succ k_16 =>
      rw [l16_ints.l0] at H
      refine wq_seq ?_
      refine wq_seq ?_
      refine wq_region_lit (.inl rfl) ?_
      refine r_t hst trivial rfl (x_move hst rfl) ?_; intro a hst
      refine r_t hst trivial rfl (x_move hst rfl) ?_; intro a hst
      refine r_t hst trivial rfl (x_lenSl hst Try.underlying56 rfl hra0.slen) ?_; intro a hst
      refine r_t hst trivial rfl (x_cmpI (b := decide (i_12 < (a0.length : Int))) hst rfl rfl rfl) ?_; intro a hst
      refine wpL_nil ?_
      refine then_normal ?_
      by_cases c54 : (decide (i_12 < (a0.length : Int))) = true
      · rw [if_pos c54] at H
        refine wq_condT hst rfl c54 ?_
        refine wq_skip ?_
        refine then_normal ?_
        refine wq_seq ?_
        refine wq_block ?_
        refine wq_seq ?_
        refine wq_region_q (.inl rfl) (fun w' => SH (fun _ => False) w w' []) (shut_sh _ _ _) hsh.drew fo (by kernel_rfl) ?_
        refine q_t hst trivial rfl (fun _ hsh => x_move hst rfl) ?_; intro a hst
        refine q_t hst trivial rfl (fun _ hsh => x_move hst rfl) ?_; intro a hst
        obtain ⟨x59, hx59, H⟩ := Option.bind_eq_some_iff.1 H
        refine q_t hst trivial rfl (fun _ hsh => x_indexAddr hst Try.underlying56 el_3 rfl rfl hra0 hx59) ?_; intro a hst
        refine q_t hst trivial rfl (fun _ hsh => x_loadEF (j := 0) (cs := [.int .i64 x59]) hst sc_3 rfl hra0 (Same.sh0 hsa0 hsh) hx59 rfl (fun _ h => h) rfl) ?_; intro a hst
        refine q_t hst trivial rfl (fun _ hsh => x_move hst rfl) ?_; intro a hst
        refine q_t hst trivial rfl (fun _ hsh => x_move hst rfl) ?_; intro a hst
        obtain ⟨x60, hx60, H⟩ := Option.bind_eq_some_iff.1 H
        refine q_t hst trivial rfl (fun _ hsh => x_indexAddr hst Try.underlying56 el_3 rfl rfl hra1 hx60) ?_; intro a hst
        refine q_t hst trivial rfl (fun _ hsh => x_loadEF (j := 0) (cs := [.int .i64 x60]) hst sc_3 rfl hra1 (Same.sh0 hsa1 hsh) hx60 rfl (fun _ h => h) rfl) ?_; intro a hst
        refine q_t hst trivial rfl (fun _ hsh => x_cmpI (b := (x59 != x60)) hst rfl rfl rfl) ?_; intro a hst
        refine q_nil ?_
        intro w61 hsh
        refine then_normal ?_
        by_cases c62 : (x59 != x60) = true
        · rw [if_pos c62] at H
          refine wq_condT hst rfl c62 ?_
          refine wq_seq ?_
          refine wq_region_lit (.inl rfl) ?_
          refine r_t hst trivial rfl (x_assign hst rfl) ?_; intro a hst
          refine wpL_nil ?_
          refine then_normal ?_
          refine wq_ret ?_
          refine block_ret ?_
          refine then_ret ?_
          refine then_ret ?_
          refine block_ret ?_
          refine then_ret ?_
          obtain rfl := Option.some.inj H
          exact ret1 hst rfl rfl ⟨rfl, hsh.pick []⟩
        · rw [if_neg c62] at H
          replace c62 := Bool.eq_false_iff.2 c62
          refine wq_condF hst rfl c62 ?_
          refine wq_skip ?_
          refine block_normal ?_
          refine then_normal ?_
          refine wq_region_lit (.inl rfl) ?_
          refine r_t hst trivial rfl (x_move hst rfl) ?_; intro a hst
          refine r_t hst trivial rfl (x_arI (r := w64 (i_12 + 1)) hst rfl rfl rfl) ?_; intro a hst
          refine r_t hst trivial rfl (x_assign hst rfl) ?_; intro a hst
          refine wpL_nil ?_
          refine then_normal ?_
          exact ⟨k_16, Nat.lt_succ_self _, (w64 (i_12 + 1)), H, hst.keep _ ⟨rfl, rfl, rfl, rfl, trivial⟩, hsh.pick []⟩
      · rw [if_neg c54] at H
        replace c54 := Bool.eq_false_iff.2 c54
        refine wq_condF hst rfl c54 ?_
        refine wq_exit ?_
        refine then_exit ?_
        refine then_exit ?_
        refine block_hit ?_
        refine then_normal ?_
        refine wq_seq ?_
        refine wq_region_lit (.inl rfl) ?_
        refine r_t hst trivial rfl (x_assign hst rfl) ?_; intro a hst
        refine wpL_nil ?_
        refine then_normal ?_
        refine wq_ret ?_
        obtain rfl := Option.some.inj H
        exact ret1 hst rfl rfl ⟨rfl, hsh.pick []⟩

set_option maxHeartbeats 4000000 in
set_option maxRecDepth 100000 in
theorem r16_Below.calls (k : Nat) (w : World) (va0 : Value) (Za0 : Nat → Prop) (wra0 : World) (hsa0 : Same Za0 wra0 w) (a0 : (List (List File))) (hra0 : RD (Kd.slice 43 k_File) Za0 wra0 va0 a0) (a1 : Int) (r : (List File)) (h : r16_Below k a0 a1 = some r) :
    Calls Try.prog 33 ([va0, .int .i64 a1] : List Value).toArray w fun e w' => ∃ v0_ : Value, e = .returned (v0_) ∧ SH (fun _ => False) w w' [Row k_File 43 v0_ r] := by
 have H := h
 clear h
 unfold r16_Below at H
 refine calls_enter Try.func33 rfl rfl ?_
 intro a hst
 have hsh := SH.zero (fun _ => False) w
 refine wq_seq ?_
 refine wq_region_lit (.inl rfl) ?_
 refine r_t hst trivial rfl (x_assign hst rfl) ?_; intro a hst
 refine wpL_nil ?_
 refine then_normal ?_
 refine wq_seq ?_
 refine wq_region_lit (.inl rfl) ?_
 refine r_t hst trivial rfl (x_assign hst rfl) ?_; intro a hst
 refine wpL_nil ?_
 refine then_normal ?_
 refine wq_seq ?_
 refine wq_seq ?_
 refine wq_region_lit (.inl rfl) ?_
 refine r_t hst trivial rfl (x_assign hst rfl) ?_; intro a hst
 refine wpL_nil ?_
 refine then_normal ?_
 refine wq_block ?_
 have hsh := hsh.addNil k_File 43
 refine wq_loop_fuel (fun k_56 a w' => ∃ (v_43 : Value), ∃ (l_44 : (List File)), ∃ (i_45 : Int), r16_Below.l0 a0 a1 k_56 l_44 i_45 = some r ∧ ST [] Try.f33.ntmps a [(0, va0), (1, .int .i64 a1), (4, (.slice none 0 0)), (5, v_43), (6, .int .i64 i_45)] ∧ SH (fun _ => False) w w' [Row k_File 43 v_43 l_44]) k ?_ ?_
 · exact ⟨(.slice none 0 0), ([]), 0, H, hst.keep _ ⟨rfl, rfl, rfl, rfl, rfl, trivial⟩, hsh.pick [0]⟩
 · rintro k_56 a W_46 ⟨v_43, l_44, i_45, H, hst, hsh⟩
   cases k_56 with
   | zero => rw [r16_Below.l0] at H; cases H
   | succ k_56 =>
    rw [r16_Below.l0] at H
    refine wq_seq ?_
    refine wq_seq ?_
    refine wq_region_lit (.inl rfl) ?_
    refine r_t hst trivial rfl (x_move hst rfl) ?_; intro a hst
    refine r_t hst trivial rfl (x_move hst rfl) ?_; intro a hst
    refine r_t hst trivial rfl (x_lenSl hst Try.underlying23 rfl hra0.slen) ?_; intro a hst
    refine r_t hst trivial rfl (x_cmpI (b := decide (i_45 < (a0.length : Int))) hst rfl rfl rfl) ?_; intro a hst
    refine wpL_nil ?_
    refine then_normal ?_
    by_cases c99 : (decide (i_45 < (a0.length : Int))) = true
    · rw [if_pos c99] at H
      refine wq_condT hst rfl c99 ?_
      refine wq_skip ?_
      refine then_normal ?_
      obtain ⟨J_60, hJ_60, H⟩ := Jn.elim H
      refine wq_cut (fun a w' => ∃ (v_57 : Value), ∃ (l_58 : (List File)), J_60 l_58 = some r ∧ ST [] Try.f33.ntmps a [(0, va0), (1, .int .i64 a1), (4, (.slice none 0 0)), (5, v_57), (6, .int .i64 i_45)] ∧ SH (fun _ => False) w w' [Row k_File 43 v_57 l_58]) ?_ ?_
      · rintro a W_59 ⟨v_57, l_58, H, hst, hsh⟩
        subst hJ_60
        dsimp only at H
        refine wq_region_lit (.inl rfl) ?_
        refine r_t hst trivial rfl (x_move hst rfl) ?_; intro a hst
        refine r_t hst trivial rfl (x_arI (r := w64 (i_45 + 1)) hst rfl rfl rfl) ?_; intro a hst
        refine r_t hst trivial rfl (x_assign hst rfl) ?_; intro a hst
        refine wpL_nil ?_
        refine then_normal ?_
        exact ⟨k_56, Nat.lt_succ_self _, v_57, l_58, (w64 (i_45 + 1)), H, hst.keep _ ⟨rfl, rfl, rfl, rfl, rfl, trivial⟩, hsh.pick [0]⟩
      · refine wq_block ?_
        refine wq_seq ?_
        refine wq_region_lit (.inl rfl) ?_
        refine r_t hst trivial rfl (x_move hst rfl) ?_; intro a hst
        refine r_t hst trivial rfl (x_move hst rfl) ?_; intro a hst
        refine r_t hst trivial rfl (x_cmpI (b := decide (a1 < i_45)) hst rfl rfl rfl) ?_; intro a hst
        refine wpL_nil ?_
        refine then_normal ?_
        by_cases c108 : (decide (a1 < i_45)) = true
        · rw [if_pos c108] at H
          refine wq_condT hst rfl c108 ?_
          refine wq_region_lit (.inl rfl) ?_
          refine r_t hst trivial rfl (x_move hst rfl) ?_; intro a hst
          refine r_t hst trivial rfl (x_move hst rfl) ?_; intro a hst
          refine r_t hst trivial rfl (x_move hst rfl) ?_; intro a hst
          obtain ⟨r109, hr109, H⟩ := Option.bind_eq_some_iff.1 H
          refine r_callD hst trivial rfl fn_51 rfl (r16_level.calls k_56 _ _ _ _ (Same.sh0 hsa0 hsh) _ hra0 i_45 r109 hr109) ?_
          rintro e w110 ⟨v111, rfl, hc, hv112⟩
          replace hsh := hsh.call0 hc
          clear hc
          refine ⟨_, rfl, fun a hst => ?_⟩
          replace hsh := hsh.pick [0]
          obtain ⟨l113, hl113, H⟩ := Option.bind_eq_some_iff.1 H
          refine r_appendN (M := []) hst hsh trivial rfl Try.underlying39 el_43 (by decide) (by decide) (by decide) rfl rfl (flat_flat _ _ _ _) hv112 (Same.sh0 hsa0 hsh) hl113 ?_
          intro v114 a w115 hsh hst
          refine r_t hst trivial rfl (x_assign hst rfl) ?_; intro a hst
          refine wpL_nil ?_
          refine block_normal ?_
          refine then_normal ?_
          exact ⟨v114, l113, H, hst.keep _ ⟨rfl, rfl, rfl, rfl, rfl, trivial⟩, hsh.pick [0]⟩
        · rw [if_neg c108] at H
          replace c108 := Bool.eq_false_iff.2 c108
          refine wq_condF hst rfl c108 ?_
          refine wq_skip ?_
          refine block_normal ?_
          refine then_normal ?_
          exact ⟨v_43, l_44, H, hst.keep _ ⟨rfl, rfl, rfl, rfl, rfl, trivial⟩, hsh.pick [0]⟩
    · rw [if_neg c99] at H
      replace c99 := Bool.eq_false_iff.2 c99
      refine wq_condF hst rfl c99 ?_
      refine wq_exit ?_
      refine then_exit ?_
      refine then_exit ?_
      refine block_hit ?_
      refine then_normal ?_
      refine wq_seq ?_
      refine wq_region_lit (.inl rfl) ?_
      refine r_t hst trivial rfl (x_move hst rfl) ?_; intro a hst
      refine r_t hst trivial rfl (x_assign hst rfl) ?_; intro a hst
      refine wpL_nil ?_
      refine then_normal ?_
      refine wq_ret ?_
      obtain rfl := Option.some.inj H
      exact ret1 hst rfl rfl ⟨v_43, rfl, hsh.pick [0]⟩

set_option maxHeartbeats 4000000 in
set_option maxRecDepth 100000 in
theorem l16_files.calls (k : Nat) (w : World) (va0 : Value) (Za0 : Nat → Prop) (wra0 : World) (hsa0 : Same Za0 wra0 w) (a0 : (List File)) (hra0 : RD k_File Za0 wra0 va0 a0) (va1 : Value) (Za1 : Nat → Prop) (wra1 : World) (hsa1 : Same Za1 wra1 w) (a1 : (List File)) (hra1 : RD k_File Za1 wra1 va1 a1) (r : Bool) (h : l16_files k a0 a1 = some r) :
    Calls Try.prog 22 ([va0, va1] : List Value).toArray w fun e w' => e = .returned (.bool r) ∧ SH (fun _ => False) w w' [] := by
 have H := h
 clear h
 unfold l16_files at H
 refine calls_enter Try.func22 rfl rfl ?_
 intro a hst
 have hsh := SH.zero (fun _ => False) w
 refine wq_seq ?_
 refine wq_region_lit (.inl rfl) ?_
 refine r_t hst trivial rfl (x_assign hst rfl) ?_; intro a hst
 refine wpL_nil ?_
 refine then_normal ?_
 refine wq_seq ?_
 refine wq_seq ?_
 refine wq_region_lit (.inl rfl) ?_
 refine r_t hst trivial rfl (x_move hst rfl) ?_; intro a hst
 refine r_t hst trivial rfl (x_lenSl hst Try.underlying39 rfl hra0.slen) ?_; intro a hst
 refine r_t hst trivial rfl (x_move hst rfl) ?_; intro a hst
 refine r_t hst trivial rfl (x_lenSl hst Try.underlying39 rfl hra1.slen) ?_; intro a hst
 refine r_t hst trivial rfl (x_cmpI (b := ((a0.length : Int) != (a1.length : Int))) hst rfl rfl rfl) ?_; intro a hst
 refine wpL_nil ?_
 refine then_normal ?_
 by_cases c2 : ((a0.length : Int) != (a1.length : Int)) = true
 · rw [if_pos c2] at H
   refine wq_condT hst rfl c2 ?_
   refine wq_seq ?_
   refine wq_region_lit (.inl rfl) ?_
   refine r_t hst trivial rfl (x_assign hst rfl) ?_; intro a hst
   refine wpL_nil ?_
   refine then_normal ?_
   refine wq_ret ?_
   refine then_ret ?_
   obtain rfl := Option.some.inj H
   exact ret1 hst rfl rfl ⟨rfl, hsh.pick []⟩
 · rw [if_neg c2] at H
   replace c2 := Bool.eq_false_iff.2 c2
   refine wq_condF hst rfl c2 ?_
   refine wq_skip ?_
   refine then_normal ?_
   refine wq_seq ?_
   refine wq_seq ?_
   refine wq_region_lit (.inl rfl) ?_
   refine r_t hst trivial rfl (x_assign hst rfl) ?_; intro a hst
   refine wpL_nil ?_
   refine then_normal ?_
   refine wq_block ?_
   refine wq_loop_fuel (fun k_16 a w' => ∃ (i_12 : Int), l16_files.l0 a0 a1 k_16 i_12 = some r ∧ ST [] Try.f22.ntmps a [(0, va0), (1, va1), (4, .bool false), (5, .int .i64 i_12)] ∧ SH (fun _ => False) w w' []) k ?_ ?_
   · exact ⟨0, H, hst.keep _ ⟨rfl, rfl, rfl, rfl, trivial⟩, hsh.pick []⟩
   · rintro k_16 a W_13 ⟨i_12, H, hst, hsh⟩
     cases k_16 with
     | zero => rw [l16_files.l0] at H; cases H
     | succ k_16 =>
      rw [l16_files.l0] at H
      refine wq_seq ?_
      refine wq_seq ?_
      refine wq_region_lit (.inl rfl) ?_
      refine r_t hst trivial rfl (x_move hst rfl) ?_; intro a hst
      refine r_t hst trivial rfl (x_move hst rfl) ?_; intro a hst
      refine r_t hst trivial rfl (x_lenSl hst Try.underlying39 rfl hra0.slen) ?_; intro a hst
      refine r_t hst trivial rfl (x_cmpI (b := decide (i_12 < (a0.length : Int))) hst rfl rfl rfl) ?_; intro a hst
      refine wpL_nil ?_
      refine then_normal ?_
      by_cases c54 : (decide (i_12 < (a0.length : Int))) = true
      · rw [if_pos c54] at H
        refine wq_condT hst rfl c54 ?_
        refine wq_skip ?_
        refine then_normal ?_
        refine wq_seq ?_
        refine wq_block ?_
        refine wq_seq ?_
        refine wq_region_q (.inl rfl) (fun w' => SH (fun _ => False) w w' []) (shut_sh _ _ _) hsh.drew fo (by kernel_rfl) ?_
        refine q_t hst trivial rfl (fun _ hsh => x_move hst rfl) ?_; intro a hst
        refine q_t hst trivial rfl (fun _ hsh => x_move hst rfl) ?_; intro a hst
        obtain ⟨x59, hx59, H⟩ := Option.bind_eq_some_iff.1 H
        refine q_t hst trivial rfl (fun _ hsh => x_indexAddr hst Try.underlying39 el_43 rfl rfl hra0 hx59) ?_; intro a hst
        refine q_t hst trivial rfl (fun _ hsh => x_loadEsF (j := 0) (cs := [.int .i64 x59.Number, .int .i64 x59.Size, .string x59.Least, .string x59.Limit, .int .u64 x59.Low, .int .u64 x59.High]) (ps := [.int .i64 x59.Number, .int .i64 x59.Size, .string x59.Least, .string x59.Limit, .int .u64 x59.Low, .int .u64 x59.High]) hst ag_43 rfl hra0 (Same.sh0 hsa0 hsh) hx59 rfl (fun _ h => h) rfl) ?_; intro a hst
        refine q_t hst trivial rfl (fun _ hsh => x_move hst rfl) ?_; intro a hst
        refine q_t hst trivial rfl (fun _ hsh => x_move hst rfl) ?_; intro a hst
        obtain ⟨x60, hx60, H⟩ := Option.bind_eq_some_iff.1 H
        refine q_t hst trivial rfl (fun _ hsh => x_indexAddr hst Try.underlying39 el_43 rfl rfl hra1 hx60) ?_; intro a hst
        refine q_t hst trivial rfl (fun _ hsh => x_loadEsF (j := 0) (cs := [.int .i64 x60.Number, .int .i64 x60.Size, .string x60.Least, .string x60.Limit, .int .u64 x60.Low, .int .u64 x60.High]) (ps := [.int .i64 x60.Number, .int .i64 x60.Size, .string x60.Least, .string x60.Limit, .int .u64 x60.Low, .int .u64 x60.High]) hst ag_43 rfl hra1 (Same.sh0 hsa1 hsh) hx60 rfl (fun _ h => h) rfl) ?_; intro a hst
        refine q_t hst trivial rfl (fun _ hsh => x_eqSn (b := File.eqb x59 x60) (x0 := x59) (y0 := x60) hst eqof_43 rfl rfl rfl) ?_; intro a hst
        refine q_nil ?_
        intro w61 hsh
        refine then_normal ?_
        by_cases c62 : (!File.eqb x59 x60) = true
        · rw [if_pos c62] at H
          refine wq_condT hst rfl c62 ?_
          refine wq_seq ?_
          refine wq_region_lit (.inl rfl) ?_
          refine r_t hst trivial rfl (x_assign hst rfl) ?_; intro a hst
          refine wpL_nil ?_
          refine then_normal ?_
          refine wq_ret ?_
          refine block_ret ?_
          refine then_ret ?_
          refine then_ret ?_
          refine block_ret ?_
          refine then_ret ?_
          obtain rfl := Option.some.inj H
          exact ret1 hst rfl rfl ⟨rfl, hsh.pick []⟩
        · rw [if_neg c62] at H
          replace c62 := Bool.eq_false_iff.2 c62
          refine wq_condF hst rfl c62 ?_
          refine wq_skip ?_
          refine block_normal ?_
          refine then_normal ?_
          refine wq_region_lit (.inl rfl) ?_
          refine r_t hst trivial rfl (x_move hst rfl) ?_; intro a hst
          refine r_t hst trivial rfl (x_arI (r := w64 (i_12 + 1)) hst rfl rfl rfl) ?_; intro a hst
          refine r_t hst trivial rfl (x_assign hst rfl) ?_; intro a hst
          refine wpL_nil ?_
          refine then_normal ?_
          exact ⟨k_16, Nat.lt_succ_self _, (w64 (i_12 + 1)), H, hst.keep _ ⟨rfl, rfl, rfl, rfl, trivial⟩, hsh.pick []⟩
      · rw [if_neg c54] at H
        replace c54 := Bool.eq_false_iff.2 c54
        refine wq_condF hst rfl c54 ?_
        refine wq_exit ?_
        refine then_exit ?_
        refine then_exit ?_
        refine block_hit ?_
        refine then_normal ?_
        refine wq_seq ?_
        refine wq_region_lit (.inl rfl) ?_
        refine r_t hst trivial rfl (x_assign hst rfl) ?_; intro a hst
        refine wpL_nil ?_
        refine then_normal ?_
        refine wq_ret ?_
        obtain rfl := Option.some.inj H
        exact ret1 hst rfl rfl ⟨rfl, hsh.pick []⟩

set_option maxHeartbeats 4000000 in
set_option maxRecDepth 100000 in
theorem l16_wiped.calls (k : Nat) (w : World) (GG : Nat → Prop) (va0 : Value) (a0 : (List File)) (hsep : Sep GG w [Row k_File 43 va0 a0]) (r : (List File)) (h : l16_wiped k a0 = some r) :
    Calls Try.prog 17 ([va0] : List Value).toArray w fun e w' => e = .returned (.tuple #[]) ∧ SH GG w w' [Row k_File 43 va0 r] := by
 have H := h
 clear h
 unfold l16_wiped at H
 refine calls_enter Try.func17 rfl rfl ?_
 intro a hst
 have hsh := SH.start hsep
 refine wq_seq ?_
 refine wq_region_lit (.inl rfl) ?_
 refine r_t hst trivial rfl (x_assign hst rfl) ?_; intro a hst
 refine wpL_nil ?_
 refine then_normal ?_
 refine wq_block ?_
 refine wq_loop_fuel (fun k_11 a w' => ∃ (l_5 : (List File)), ∃ (i_6 : Int), l16_wiped.l0 k_11 l_5 i_6 = some r ∧ ST [] Try.f17.ntmps a [(0, va0), (2, .int .i64 i_6)] ∧ SH GG w w' [Row k_File 43 va0 l_5]) k ?_ ?_
 · exact ⟨a0, 0, H, hst.keep _ ⟨rfl, rfl, trivial⟩, hsh.pick [0]⟩
 · rintro k_11 a W_7 ⟨l_5, i_6, H, hst, hsh⟩
   cases k_11 with
   | zero => rw [l16_wiped.l0] at H; cases H
   | succ k_11 =>
    rw [l16_wiped.l0] at H
    refine wq_seq ?_
    refine wq_seq ?_
    refine wq_region_lit (.inl rfl) ?_
    refine r_t hst trivial rfl (x_move hst rfl) ?_; intro a hst
    refine r_t hst trivial rfl (x_move hst rfl) ?_; intro a hst
    refine r_t hst trivial rfl (x_lenSl hst Try.underlying39 rfl (hsh.row 0 rfl).slen) ?_; intro a hst
    refine r_t hst trivial rfl (x_cmpI (b := decide (i_6 < (l_5.length : Int))) hst rfl rfl rfl) ?_; intro a hst
    refine wpL_nil ?_
    refine then_normal ?_
    by_cases c18 : (decide (i_6 < (l_5.length : Int))) = true
    · rw [if_pos c18] at H
      refine wq_condT hst rfl c18 ?_
      refine wq_skip ?_
      refine then_normal ?_
      refine wq_seq ?_
      refine wq_block ?_
      refine wq_region_lit (.inl rfl) ?_
      refine r_t hst trivial rfl (x_move hst rfl) ?_; intro a hst
      refine r_t hst trivial rfl (x_move hst rfl) ?_; intro a hst
      refine r_t hst trivial rfl (x_build (cs := [.int .i64 (-7), .int .i64 0, .string (ByteArray.mk #[]), .string (ByteArray.mk #[]), .int .u64 0, .int .u64 0]) hst rfl (by kernel_rfl)) ?_; intro a hst
      obtain ⟨x22, hx22, H⟩ := Option.bind_eq_some_iff.1 H
      refine r_t hst trivial rfl (x_indexAddr hst Try.underlying39 el_43 rfl rfl (hsh.row 0 rfl) hx22) ?_; intro a hst
      obtain ⟨l23, hl23, H⟩ := Option.bind_eq_some_iff.1 H
      refine r_storeEs (i := 0) (off := 0) (new := (⟨(-7), 0, (ByteArray.mk #[]), (ByteArray.mk #[]), 0, 0⟩ : File)) (vs := [.int .i64 (-7), .int .i64 0, .string (ByteArray.mk #[]), .string (ByteArray.mk #[]), .int .u64 0, .int .u64 0]) (cs' := [.int .i64 (-7), .int .i64 0, .string (ByteArray.mk #[]), .string (ByteArray.mk #[]), .int .u64 0, .int .u64 0]) hst hsh trivial ag_43 rfl rfl rfl hx22 rfl (Nat.le_of_ble_eq_true rfl) rfl (fun _ _ _ h => by rw [h]; rfl) (fun _ _ => rfl) ?_; intro a w24 hsh hst
      rw [← upd_some hl23] at hsh
      refine wpL_nil ?_
      refine block_normal ?_
      refine then_normal ?_
      refine wq_region_lit (.inl rfl) ?_
      refine r_t hst trivial rfl (x_move hst rfl) ?_; intro a hst
      refine r_t hst trivial rfl (x_arI (r := w64 (i_6 + 1)) hst rfl rfl rfl) ?_; intro a hst
      refine r_t hst trivial rfl (x_assign hst rfl) ?_; intro a hst
      refine wpL_nil ?_
      refine then_normal ?_
      exact ⟨k_11, Nat.lt_succ_self _, l23, (w64 (i_6 + 1)), H, hst.keep _ ⟨rfl, rfl, trivial⟩, hsh.pick [0]⟩
    · rw [if_neg c18] at H
      replace c18 := Bool.eq_false_iff.2 c18
      refine wq_condF hst rfl c18 ?_
      refine wq_exit ?_
      refine then_exit ?_
      refine then_exit ?_
      refine block_hit ?_
      obtain rfl := Option.some.inj H
      exact end0 hst rfl ⟨rfl, hsh.pick [0]⟩

set_option maxHeartbeats 4000000 in
set_option maxRecDepth 100000 in
theorem r16_Same.calls (k : Nat) (w : World) (va0 : Value) (Za0 : Nat → Prop) (wra0 : World) (hsa0 : Same Za0 wra0 w) (a0 : (List (List File))) (hra0 : RD (Kd.slice 43 k_File) Za0 wra0 va0 a0) (va1 : Value) (Za1 : Nat → Prop) (wra1 : World) (hsa1 : Same Za1 wra1 w) (a1 : (List (List File))) (hra1 : RD (Kd.slice 43 k_File) Za1 wra1 va1 a1) (r : Bool) (h : r16_Same k a0 a1 = some r) :
    Calls Try.prog 16 ([va0, va1] : List Value).toArray w fun e w' => e = .returned (.bool r) ∧ SH (fun _ => False) w w' [] := by
 have H := h
 clear h
 unfold r16_Same at H
 refine calls_enter Try.func16 rfl rfl ?_
 intro a hst
 have hsh := SH.zero (fun _ => False) w
 refine wq_seq ?_
 refine wq_region_lit (.inl rfl) ?_
 refine r_t hst trivial rfl (x_assign hst rfl) ?_; intro a hst
 refine wpL_nil ?_
 refine then_normal ?_
 refine wq_seq ?_
 refine wq_seq ?_
 refine wq_region_lit (.inl rfl) ?_
 refine r_t hst trivial rfl (x_move hst rfl) ?_; intro a hst
 refine r_t hst trivial rfl (x_lenSl hst Try.underlying23 rfl hra0.slen) ?_; intro a hst
 refine r_t hst trivial rfl (x_move hst rfl) ?_; intro a hst
 refine r_t hst trivial rfl (x_lenSl hst Try.underlying23 rfl hra1.slen) ?_; intro a hst
 refine r_t hst trivial rfl (x_cmpI (b := ((a0.length : Int) != (a1.length : Int))) hst rfl rfl rfl) ?_; intro a hst
 refine wpL_nil ?_
 refine then_normal ?_
 by_cases c2 : ((a0.length : Int) != (a1.length : Int)) = true
 · rw [if_pos c2] at H
   refine wq_condT hst rfl c2 ?_
   refine wq_seq ?_
   refine wq_region_lit (.inl rfl) ?_
   refine r_t hst trivial rfl (x_assign hst rfl) ?_; intro a hst
   refine wpL_nil ?_
   refine then_normal ?_
   refine wq_ret ?_
   refine then_ret ?_
   obtain rfl := Option.some.inj H
   exact ret1 hst rfl rfl ⟨rfl, hsh.pick []⟩
 · rw [if_neg c2] at H
   replace c2 := Bool.eq_false_iff.2 c2
   refine wq_condF hst rfl c2 ?_
   refine wq_skip ?_
   refine then_normal ?_
   refine wq_seq ?_
   refine wq_seq ?_
   refine wq_region_lit (.inl rfl) ?_
   refine r_t hst trivial rfl (x_assign hst rfl) ?_; intro a hst
   refine wpL_nil ?_
   refine then_normal ?_
   refine wq_block ?_
   refine wq_loop_fuel (fun k_106 a w' => ∃ (i_84 : Int), r16_Same.l0 a0 a1 k_106 i_84 = some r ∧ ST [] Try.f16.ntmps a [(0, va0), (1, va1), (4, .bool false), (5, .int .i64 i_84)] ∧ SH (fun _ => False) w w' []) k ?_ ?_
   · exact ⟨0, H, hst.keep _ ⟨rfl, rfl, rfl, rfl, trivial⟩, hsh.pick []⟩
   · rintro k_106 a W_85 ⟨i_84, H, hst, hsh⟩
     cases k_106 with
     | zero => rw [r16_Same.l0] at H; cases H
     | succ k_106 =>
      rw [r16_Same.l0] at H
      refine wq_seq ?_
      refine wq_seq ?_
      refine wq_region_lit (.inl rfl) ?_
      refine r_t hst trivial rfl (x_move hst rfl) ?_; intro a hst
      refine r_t hst trivial rfl (x_move hst rfl) ?_; intro a hst
      refine r_t hst trivial rfl (x_lenSl hst Try.underlying23 rfl hra0.slen) ?_; intro a hst
      refine r_t hst trivial rfl (x_cmpI (b := decide (i_84 < (a0.length : Int))) hst rfl rfl rfl) ?_; intro a hst
      refine wpL_nil ?_
      refine then_normal ?_
      by_cases c1454 : (decide (i_84 < (a0.length : Int))) = true
      · rw [if_pos c1454] at H
        refine wq_condT hst rfl c1454 ?_
        refine wq_skip ?_
        refine then_normal ?_
        obtain ⟨J_116, hJ_116, H⟩ := Jn.elim H
        refine wq_cut (fun a w' => J_116 = some r ∧ ST [] Try.f16.ntmps a [(0, va0), (1, va1), (4, .bool false), (5, .int .i64 i_84)] ∧ SH (fun _ => False) w w' []) ?_ ?_
        · rintro a W_115 ⟨H, hst, hsh⟩
          subst hJ_116
          refine wq_region_lit (.inl rfl) ?_
          refine r_t hst trivial rfl (x_move hst rfl) ?_; intro a hst
          refine r_t hst trivial rfl (x_arI (r := w64 (i_84 + 1)) hst rfl rfl rfl) ?_; intro a hst
          refine r_t hst trivial rfl (x_assign hst rfl) ?_; intro a hst
          refine wpL_nil ?_
          refine then_normal ?_
          exact ⟨k_106, Nat.lt_succ_self _, (w64 (i_84 + 1)), H, hst.keep _ ⟨rfl, rfl, rfl, rfl, trivial⟩, hsh.pick []⟩
        · refine wq_block ?_
          refine wq_seq ?_
          refine wq_seq ?_
          refine wq_region_q (.inl rfl) (fun w' => SH (fun _ => False) w w' []) (shut_sh _ _ _) hsh.drew fo (by kernel_rfl) ?_
          refine q_t hst trivial rfl (fun _ hsh => x_move hst rfl) ?_; intro a hst
          refine q_t hst trivial rfl (fun _ hsh => x_move hst rfl) ?_; intro a hst
          obtain ⟨x1611, hx1611, H⟩ := Option.bind_eq_some_iff.1 H
          refine q_t hst trivial rfl (fun _ hsh => x_indexAddr hst Try.underlying23 el_39 rfl rfl hra0 hx1611) ?_; intro a hst
          obtain ⟨_, hk1612, hc1613⟩ := RD.cells2 hra0 hx1611
          obtain ⟨v1614, rfl, hr1615⟩ := hk1612
          refine q_t hst trivial rfl (fun _ hsh => x_loadC hst sc_39 rfl (hc1613 _ (Same.sh0 hsa0 hsh) 0 _ rfl)) ?_; intro a hst
          refine q_t hst trivial rfl (fun _ hsh => x_lenSl hst Try.underlying39 rfl hr1615.slen) ?_; intro a hst
          refine q_t hst trivial rfl (fun _ hsh => x_move hst rfl) ?_; intro a hst
          refine q_t hst trivial rfl (fun _ hsh => x_move hst rfl) ?_; intro a hst
          obtain ⟨x1616, hx1616, H⟩ := Option.bind_eq_some_iff.1 H
          refine q_t hst trivial rfl (fun _ hsh => x_indexAddr hst Try.underlying23 el_39 rfl rfl hra1 hx1616) ?_; intro a hst
          obtain ⟨_, hk1617, hc1618⟩ := RD.cells2 hra1 hx1616
          obtain ⟨v1619, rfl, hr1620⟩ := hk1617
          refine q_t hst trivial rfl (fun _ hsh => x_loadC hst sc_39 rfl (hc1618 _ (Same.sh0 hsa1 hsh) 0 _ rfl)) ?_; intro a hst
          refine q_t hst trivial rfl (fun _ hsh => x_lenSl hst Try.underlying39 rfl hr1620.slen) ?_; intro a hst
          refine q_t hst trivial rfl (fun _ hsh => x_cmpI (b := ((x1611.length : Int) != (x1616.length : Int))) hst rfl rfl rfl) ?_; intro a hst
          refine q_nil ?_
          intro w1621 hsh
          refine then_normal ?_
          by_cases c1622 : ((x1611.length : Int) != (x1616.length : Int)) = true
          · rw [if_pos c1622] at H
            refine wq_condT hst rfl c1622 ?_
            refine wq_seq ?_
            refine wq_region_lit (.inl rfl) ?_
            refine r_t hst trivial rfl (x_assign hst rfl) ?_; intro a hst
            refine wpL_nil ?_
            refine then_normal ?_
            refine wq_ret ?_
            refine then_ret ?_
            refine block_ret ?_
            refine then_ret ?_
            refine then_ret ?_
            refine block_ret ?_
            refine then_ret ?_
            obtain rfl := Option.some.inj H
            exact ret1 hst rfl rfl ⟨rfl, hsh.pick []⟩
          · rw [if_neg c1622] at H
            replace c1622 := Bool.eq_false_iff.2 c1622
            refine wq_condF hst rfl c1622 ?_
            refine wq_skip ?_
            refine then_normal ?_
            refine wq_seq ?_
            refine wq_region_lit (.inl rfl) ?_
            refine r_t hst trivial rfl (x_assign hst rfl) ?_; intro a hst
            refine wpL_nil ?_
            refine then_normal ?_
            refine wq_block ?_
            refine wq_loop_fuel (fun k_124 a w' => ∃ (i_120 : Int), r16_Same.l1 a0 a1 i_84 J_116 k_124 i_120 = some r ∧ ST [] Try.f16.ntmps a [(0, va0), (1, va1), (4, .bool false), (5, .int .i64 i_84), (6, .int .i64 i_120)] ∧ SH (fun _ => False) w w' []) k_106 ?_ ?_
            · exact ⟨0, H, hst.keep _ ⟨rfl, rfl, rfl, rfl, rfl, trivial⟩, hsh.pick []⟩
            · rintro k_124 a W_121 ⟨i_120, H, hst, hsh⟩
              cases k_124 with
              | zero => rw [r16_Same.l1] at H; cases H
              | succ k_124 =>
               rw [r16_Same.l1] at H
               refine wq_seq ?_
               refine wq_seq ?_
               refine wq_region_lit (.inl rfl) ?_
               refine r_t hst trivial rfl (x_move hst rfl) ?_; intro a hst
               refine r_t hst trivial rfl (x_move hst rfl) ?_; intro a hst
               refine r_t hst trivial rfl (x_move hst rfl) ?_; intro a hst
               obtain ⟨x1709, hx1709, H⟩ := Option.bind_eq_some_iff.1 H
               refine r_t hst trivial rfl (x_indexAddr hst Try.underlying23 el_39 rfl rfl hra0 hx1709) ?_; intro a hst
               obtain ⟨_, hk1710, hc1711⟩ := RD.cells2 hra0 hx1709
               obtain ⟨v1712, rfl, hr1713⟩ := hk1710
               refine r_t hst trivial rfl (x_loadC hst sc_39 rfl (hc1711 _ (Same.sh0 hsa0 hsh) 0 _ rfl)) ?_; intro a hst
               refine r_t hst trivial rfl (x_lenSl hst Try.underlying39 rfl hr1713.slen) ?_; intro a hst
               refine r_t hst trivial rfl (x_cmpI (b := decide (i_120 < (x1709.length : Int))) hst rfl rfl rfl) ?_; intro a hst
               refine wpL_nil ?_
               refine then_normal ?_
               by_cases c1714 : (decide (i_120 < (x1709.length : Int))) = true
               · rw [if_pos c1714] at H
                 refine wq_condT hst rfl c1714 ?_
                 refine wq_skip ?_
                 refine then_normal ?_
                 refine wq_seq ?_
                 refine wq_block ?_
                 refine wq_seq ?_
                 refine wq_region_q (.inl rfl) (fun w' => SH (fun _ => False) w w' []) (shut_sh _ _ _) hsh.drew fo (by kernel_rfl) ?_
                 refine q_t hst trivial rfl (fun _ hsh => x_move hst rfl) ?_; intro a hst
                 refine q_t hst trivial rfl (fun _ hsh => x_move hst rfl) ?_; intro a hst
                 obtain ⟨x1729, hx1729, H⟩ := Option.bind_eq_some_iff.1 H
                 refine q_t hst trivial rfl (fun _ hsh => x_indexAddr hst Try.underlying23 el_39 rfl rfl hra0 hx1729) ?_; intro a hst
                 obtain ⟨_, hk1730, hc1731⟩ := RD.cells2 hra0 hx1729
                 obtain ⟨v1732, rfl, hr1733⟩ := hk1730
                 refine q_t hst trivial rfl (fun _ hsh => x_loadC hst sc_39 rfl (hc1731 _ (Same.sh0 hsa0 hsh) 0 _ rfl)) ?_; intro a hst
                 refine q_t hst trivial rfl (fun _ hsh => x_move hst rfl) ?_; intro a hst
                 obtain ⟨x1734, hx1734, H⟩ := Option.bind_eq_some_iff.1 H
                 refine q_t hst trivial rfl (fun _ hsh => x_indexAddr hst Try.underlying39 el_43 rfl rfl hr1733 hx1734) ?_; intro a hst
                 refine q_t hst trivial rfl (fun _ hsh => x_loadEsF (j := 0) (cs := [.int .i64 x1734.Number, .int .i64 x1734.Size, .string x1734.Least, .string x1734.Limit, .int .u64 x1734.Low, .int .u64 x1734.High]) (ps := [.int .i64 x1734.Number, .int .i64 x1734.Size, .string x1734.Least, .string x1734.Limit, .int .u64 x1734.Low, .int .u64 x1734.High]) hst ag_43 rfl hr1733 (Same.sh0 hsa0 hsh) hx1734 rfl (fun _ h => h) rfl) ?_; intro a hst
                 refine q_t hst trivial rfl (fun _ hsh => x_move hst rfl) ?_; intro a hst
                 refine q_t hst trivial rfl (fun _ hsh => x_move hst rfl) ?_; intro a hst
                 obtain ⟨x1735, hx1735, H⟩ := Option.bind_eq_some_iff.1 H
                 refine q_t hst trivial rfl (fun _ hsh => x_indexAddr hst Try.underlying23 el_39 rfl rfl hra1 hx1735) ?_; intro a hst
                 obtain ⟨_, hk1736, hc1737⟩ := RD.cells2 hra1 hx1735
                 obtain ⟨v1738, rfl, hr1739⟩ := hk1736
                 refine q_t hst trivial rfl (fun _ hsh => x_loadC hst sc_39 rfl (hc1737 _ (Same.sh0 hsa1 hsh) 0 _ rfl)) ?_; intro a hst
                 refine q_t hst trivial rfl (fun _ hsh => x_move hst rfl) ?_; intro a hst
                 obtain ⟨x1740, hx1740, H⟩ := Option.bind_eq_some_iff.1 H
                 refine q_t hst trivial rfl (fun _ hsh => x_indexAddr hst Try.underlying39 el_43 rfl rfl hr1739 hx1740) ?_; intro a hst
                 refine q_t hst trivial rfl (fun _ hsh => x_loadEsF (j := 0) (cs := [.int .i64 x1740.Number, .int .i64 x1740.Size, .string x1740.Least, .string x1740.Limit, .int .u64 x1740.Low, .int .u64 x1740.High]) (ps := [.int .i64 x1740.Number, .int .i64 x1740.Size, .string x1740.Least, .string x1740.Limit, .int .u64 x1740.Low, .int .u64 x1740.High]) hst ag_43 rfl hr1739 (Same.sh0 hsa1 hsh) hx1740 rfl (fun _ h => h) rfl) ?_; intro a hst
                 refine q_t hst trivial rfl (fun _ hsh => x_eqSn (b := File.eqb x1734 x1740) (x0 := x1734) (y0 := x1740) hst eqof_43 rfl rfl rfl) ?_; intro a hst
                 refine q_nil ?_
                 intro w1741 hsh
                 refine then_normal ?_
                 by_cases c1742 : (!File.eqb x1734 x1740) = true
                 · rw [if_pos c1742] at H
                   refine wq_condT hst rfl c1742 ?_
                   refine wq_seq ?_
                   refine wq_region_lit (.inl rfl) ?_
                   refine r_t hst trivial rfl (x_assign hst rfl) ?_; intro a hst
                   refine wpL_nil ?_
                   refine then_normal ?_
                   refine wq_ret ?_
                   refine block_ret ?_
                   refine then_ret ?_
                   refine then_ret ?_
                   refine block_ret ?_
                   refine block_ret ?_
                   refine then_ret ?_
                   refine then_ret ?_
                   refine block_ret ?_
                   refine then_ret ?_
                   obtain rfl := Option.some.inj H
                   exact ret1 hst rfl rfl ⟨rfl, hsh.pick []⟩
                 · rw [if_neg c1742] at H
                   replace c1742 := Bool.eq_false_iff.2 c1742
                   refine wq_condF hst rfl c1742 ?_
                   refine wq_skip ?_
                   refine block_normal ?_
                   refine then_normal ?_
                   refine wq_region_lit (.inl rfl) ?_
                   refine r_t hst trivial rfl (x_move hst rfl) ?_; intro a hst
                   refine r_t hst trivial rfl (x_arI (r := w64 (i_120 + 1)) hst rfl rfl rfl) ?_; intro a hst
                   refine r_t hst trivial rfl (x_assign hst rfl) ?_; intro a hst
                   refine wpL_nil ?_
                   refine then_normal ?_
                   exact ⟨k_124, Nat.lt_succ_self _, (w64 (i_120 + 1)), H, hst.keep _ ⟨rfl, rfl, rfl, rfl, rfl, trivial⟩, hsh.pick []⟩
               · rw [if_neg c1714] at H
                 replace c1714 := Bool.eq_false_iff.2 c1714
                 refine wq_condF hst rfl c1714 ?_
                 refine wq_exit ?_
                 refine then_exit ?_
                 refine then_exit ?_
                 refine block_hit ?_
                 refine block_normal ?_
                 refine then_normal ?_
                 exact ⟨H, hst.keep _ ⟨rfl, rfl, rfl, rfl, trivial⟩, hsh.pick []⟩
      · rw [if_neg c1454] at H
        replace c1454 := Bool.eq_false_iff.2 c1454
        refine wq_condF hst rfl c1454 ?_
        refine wq_exit ?_
        refine then_exit ?_
        refine then_exit ?_
        refine block_hit ?_
        refine then_normal ?_
        refine wq_seq ?_
        refine wq_region_lit (.inl rfl) ?_
        refine r_t hst trivial rfl (x_assign hst rfl) ?_; intro a hst
        refine wpL_nil ?_
        refine then_normal ?_
        refine wq_ret ?_
        obtain rfl := Option.some.inj H
        exact ret1 hst rfl rfl ⟨rfl, hsh.pick []⟩

set_option maxHeartbeats 4000000 in
set_option maxRecDepth 100000 in
theorem l16_VersionTells.calls (k : Nat) (w : World) (va0 : Value) (Za0 : Nat → Prop) (wra0 : World) (hsa0 : Same Za0 wra0 w) (a0 : (List (List File))) (hra0 : RD (Kd.slice 43 k_File) Za0 wra0 va0 a0) (a1 : Int) (a2 : Int) (r : Bool) (h : l16_VersionTells k a0 a1 a2 = some r) :
    Calls Try.prog 7 ([va0, .int .i64 a1, .int .i64 a2] : List Value).toArray w fun e w' => e = .returned (.bool r) ∧ SH (fun _ => False) w w' [] := by
 have H := h
 clear h
 unfold l16_VersionTells at H
 refine calls_enter Try.func7 rfl rfl ?_
 intro a hst
 have hsh := SH.zero (fun _ => False) w
 refine wq_seq ?_
 refine wq_region_lit (.inl rfl) ?_
 refine r_t hst trivial rfl (x_assign hst rfl) ?_; intro a hst
 refine wpL_nil ?_
 refine then_normal ?_
 refine wq_seq ?_
 refine wq_region_lit (.inl rfl) ?_
 refine r_t hst trivial rfl (x_move hst rfl) ?_; intro a hst
 obtain ⟨r1, hr1, H⟩ := Option.bind_eq_some_iff.1 H
 refine r_callD hst trivial rfl fn_11 rfl (l16_copied.calls k _ _ _ _ (Same.sh0 hsa0 hsh) _ hra0 r1 hr1) ?_
 rintro e w2 ⟨v3, rfl, hc⟩
 replace hsh := hsh.call0 hc
 clear hc
 refine ⟨_, rfl, fun a hst => ?_⟩
 refine r_t hst trivial rfl (x_assign hst rfl) ?_; intro a hst
 refine wpL_nil ?_
 refine then_normal ?_
 refine wq_seq ?_
 refine wq_region_lit (.inl rfl) ?_
 refine r_t hst trivial rfl (x_move hst rfl) ?_; intro a hst
 refine r_t hst trivial rfl (x_move hst rfl) ?_; intro a hst
 obtain ⟨r5, hr5, H⟩ := Option.bind_eq_some_iff.1 H
 refine r_callD hst trivial rfl fn_24 rfl (version_Find.calls k _ _ _ _ (Same.refl _ _) _ (hsh.row 0 rfl) a2 r5 hr5) ?_
 rintro e w6 ⟨rfl, hc⟩
 replace hsh := hsh.call0 hc
 clear hc
 refine ⟨_, rfl, fun a hst => ?_⟩
 refine r_t hst trivial rfl (x_move hst rfl) ?_; intro a hst
 refine r_t hst trivial rfl (x_extract hst rfl rfl) ?_; intro a hst
 refine r_t hst trivial rfl (x_extract hst rfl rfl) ?_; intro a hst
 refine r_t hst trivial rfl (x_extract hst rfl rfl) ?_; intro a hst
 refine r_alloc hst hsh trivial rfl zr_43 ?_
 intro g7 a w8 hgg7 hsh hst
 refine r_t hst trivial rfl (x_assign hst rfl) ?_; intro a hst
 refine r_storeBs (i := 0) (cs' := [.int .i64 r5.2.1.Number, .int .i64 r5.2.1.Size, .string r5.2.1.Least, .string r5.2.1.Limit, .int .u64 r5.2.1.Low, .int .u64 r5.2.1.High]) (vs := [.int .i64 r5.2.1.Number, .int .i64 r5.2.1.Size, .string r5.2.1.Least, .string r5.2.1.Limit, .int .u64 r5.2.1.Low, .int .u64 r5.2.1.High]) hst hsh trivial ag_43 rfl rfl rfl rfl rfl rfl ?_; intro a w9 hsh hst
 refine r_t hst trivial rfl (x_assign hst rfl) ?_; intro a hst
 refine wpL_nil ?_
 refine then_normal ?_
 refine wq_seq ?_
 refine wq_region_lit (.inl rfl) ?_
 refine r_t hst trivial rfl (x_move hst rfl) ?_; intro a hst
 refine r_t hst trivial rfl (x_move hst rfl) ?_; intro a hst
 obtain ⟨r10, hr10, H⟩ := Option.bind_eq_some_iff.1 H
 refine r_callD hst trivial rfl fn_25 rfl (r16_Find.calls k _ _ _ _ (Same.sh0 hsa0 hsh) _ hra0 a2 r10 hr10) ?_
 rintro e w11 ⟨rfl, hc⟩
 replace hsh := hsh.call0 hc
 clear hc
 refine ⟨_, rfl, fun a hst => ?_⟩
 refine r_t hst trivial rfl (x_move hst rfl) ?_; intro a hst
 refine r_t hst trivial rfl (x_extract hst rfl rfl) ?_; intro a hst
 refine r_t hst trivial rfl (x_extract hst rfl rfl) ?_; intro a hst
 refine r_t hst trivial rfl (x_extract hst rfl rfl) ?_; intro a hst
 refine r_alloc hst hsh trivial rfl zr_43 ?_
 intro g12 a w13 hgg12 hsh hst
 refine r_t hst trivial rfl (x_assign hst rfl) ?_; intro a hst
 refine r_storeBs (i := 0) (cs' := [.int .i64 r10.2.1.Number, .int .i64 r10.2.1.Size, .string r10.2.1.Least, .string r10.2.1.Limit, .int .u64 r10.2.1.Low, .int .u64 r10.2.1.High]) (vs := [.int .i64 r10.2.1.Number, .int .i64 r10.2.1.Size, .string r10.2.1.Least, .string r10.2.1.Limit, .int .u64 r10.2.1.Low, .int .u64 r10.2.1.High]) hst hsh trivial ag_43 rfl rfl rfl rfl rfl rfl ?_; intro a w14 hsh hst
 refine r_t hst trivial rfl (x_assign hst rfl) ?_; intro a hst
 refine wpL_nil ?_
 refine then_normal ?_
 refine wq_seq ?_
 refine wq_region_lit (.inl rfl) ?_
 refine r_t hst trivial rfl (x_move hst rfl) ?_; intro a hst
 obtain ⟨r15, hr15, H⟩ := Option.bind_eq_some_iff.1 H
 refine r_callD hst trivial rfl fn_26 rfl (r16_Numbers.calls k _ _ _ _ (Same.sh0 hsa0 hsh) _ hra0 r15 hr15) ?_
 rintro e w16 ⟨v17, rfl, hc⟩
 replace hsh := hsh.call0 hc
 clear hc
 refine ⟨_, rfl, fun a hst => ?_⟩
 refine r_t hst trivial rfl (x_assign hst rfl) ?_; intro a hst
 refine wpL_nil ?_
 refine then_normal ?_
 refine wq_seq ?_
 refine wq_region_lit (.inl rfl) ?_
 refine r_t hst trivial rfl (x_move hst rfl) ?_; intro a hst
 obtain ⟨r19, hr19, H⟩ := Option.bind_eq_some_iff.1 H
 refine r_callD hst trivial rfl fn_27 rfl (version_Numbers.calls k _ _ _ _ (Same.refl _ _) _ (hsh.row 3 rfl) r19 hr19) ?_
 rintro e w20 ⟨v21, rfl, hc⟩
 replace hsh := hsh.call0 hc
 clear hc
 refine ⟨_, rfl, fun a hst => ?_⟩
 refine r_t hst trivial rfl (x_assign hst rfl) ?_; intro a hst
 refine wpL_nil ?_
 refine then_normal ?_
 refine wq_seq ?_
 refine wq_region_lit (.inl rfl) ?_
 refine r_t hst trivial rfl (x_move hst rfl) ?_; intro a hst
 refine r_t hst trivial rfl (x_move hst rfl) ?_; intro a hst
 obtain ⟨r23, hr23, H⟩ := Option.bind_eq_some_iff.1 H
 refine r_callD hst trivial rfl fn_28 rfl (version_Below.calls k _ _ _ _ (Same.refl _ _) _ (hsh.row 4 rfl) a1 r23 hr23) ?_
 rintro e w24 ⟨v25, rfl, hc⟩
 replace hsh := hsh.call0 hc
 clear hc
 refine ⟨_, rfl, fun a hst => ?_⟩
 refine r_t hst trivial rfl (x_assign hst rfl) ?_; intro a hst
 refine wpL_nil ?_
 refine then_normal ?_
 refine wq_seq ?_
 refine wq_seq ?_
 refine wq_region_lit (.inl rfl) ?_
 obtain ⟨r70, hr70, H⟩ := Option.bind_eq_some_iff.1 H
 refine r_callD hst trivial rfl fn_10 rfl (l16_names.calls _ r70 hr70) ?_
 rintro e w71 ⟨rfl, hc⟩
 replace hsh := hsh.call0 hc
 clear hc
 refine ⟨_, rfl, fun a hst => ?_⟩
 refine r_t hst trivial rfl (x_notB hst rfl) ?_; intro a hst
 refine r_t hst trivial rfl (x_move hst rfl) ?_; intro a hst
 obtain ⟨J_17, hJ_17, H⟩ := Jn.elim H
 refine wl_join 6 (fun a w' => ∃ (b_16 : Bool), J_17 b_16 = some r ∧ ST [] Try.f7.ntmps a [(0, va0), (1, .int .i64 a1), (6, .bool false), (7, v3), (8, .int .i64 r5.1), (9, .pointer (some ⟨g7, 0, none⟩)), (10, .bool r5.2.2), (11, .int .i64 r10.1), (12, .pointer (some ⟨g12, 0, none⟩)), (13, .bool r10.2.2), (14, v17), (15, v21), (16, v25), (46, .bool b_16)] ∧ SH (fun _ => False) w w' [Row (Kd.slice 43 k_File) 39 v3 r1, Box g7 [.int .i64 r5.2.1.Number, .int .i64 r5.2.1.Size, .string r5.2.1.Least, .string r5.2.1.Limit, .int .u64 r5.2.1.Low, .int .u64 r5.2.1.High] 43, Box g12 [.int .i64 r10.2.1.Number, .int .i64 r10.2.1.Size, .string r10.2.1.Least, .string r10.2.1.Limit, .int .u64 r10.2.1.Low, .int .u64 r10.2.1.High] 43, Row (Kd.int .i64) 3 v17 r15, Row (Kd.int .i64) 3 v21 r19, Row k_File 43 v25 r23]) ?_ ?_
 · rintro a W_18 ⟨b_16, H, hst, hsh⟩
   subst hJ_17
   dsimp only at H
   refine r_t hst trivial rfl (x_move hst rfl) ?_; intro a hst
   obtain ⟨J_20, hJ_20, H⟩ := Jn.elim H
   refine wl_join 15 (fun a w' => ∃ (b_19 : Bool), J_20 b_19 = some r ∧ ST [] Try.f7.ntmps a [(0, va0), (1, .int .i64 a1), (6, .bool false), (7, v3), (8, .int .i64 r5.1), (9, .pointer (some ⟨g7, 0, none⟩)), (10, .bool r5.2.2), (11, .int .i64 r10.1), (12, .pointer (some ⟨g12, 0, none⟩)), (13, .bool r10.2.2), (14, v17), (15, v21), (16, v25), (55, .bool b_19)] ∧ SH (fun _ => False) w w' [Row (Kd.slice 43 k_File) 39 v3 r1, Box g7 [.int .i64 r5.2.1.Number, .int .i64 r5.2.1.Size, .string r5.2.1.Least, .string r5.2.1.Limit, .int .u64 r5.2.1.Low, .int .u64 r5.2.1.High] 43, Box g12 [.int .i64 r10.2.1.Number, .int .i64 r10.2.1.Size, .string r10.2.1.Least, .string r10.2.1.Limit, .int .u64 r10.2.1.Low, .int .u64 r10.2.1.High] 43, Row (Kd.int .i64) 3 v17 r15, Row (Kd.int .i64) 3 v21 r19, Row k_File 43 v25 r23]) ?_ ?_
   · rintro a W_21 ⟨b_19, H, hst, hsh⟩
     subst hJ_20
     dsimp only at H
     refine r_t hst trivial rfl (x_move hst rfl) ?_; intro a hst
     obtain ⟨J_23, hJ_23, H⟩ := Jn.elim H
     refine wl_join 22 (fun a w' => ∃ (b_22 : Bool), J_23 b_22 = some r ∧ ST [] Try.f7.ntmps a [(0, va0), (1, .int .i64 a1), (6, .bool false), (7, v3), (8, .int .i64 r5.1), (9, .pointer (some ⟨g7, 0, none⟩)), (10, .bool r5.2.2), (11, .int .i64 r10.1), (12, .pointer (some ⟨g12, 0, none⟩)), (13, .bool r10.2.2), (14, v17), (15, v21), (16, v25), (62, .bool b_22)] ∧ SH (fun _ => False) w w' [Row (Kd.slice 43 k_File) 39 v3 r1, Box g7 [.int .i64 r5.2.1.Number, .int .i64 r5.2.1.Size, .string r5.2.1.Least, .string r5.2.1.Limit, .int .u64 r5.2.1.Low, .int .u64 r5.2.1.High] 43, Box g12 [.int .i64 r10.2.1.Number, .int .i64 r10.2.1.Size, .string r10.2.1.Least, .string r10.2.1.Limit, .int .u64 r10.2.1.Low, .int .u64 r10.2.1.High] 43, Row (Kd.int .i64) 3 v17 r15, Row (Kd.int .i64) 3 v21 r19, Row k_File 43 v25 r23]) ?_ ?_
     · rintro a W_24 ⟨b_22, H, hst, hsh⟩
       subst hJ_23
       dsimp only at H
       refine r_t hst trivial rfl (x_move hst rfl) ?_; intro a hst
       obtain ⟨J_26, hJ_26, H⟩ := Jn.elim H
       refine wl_join 28 (fun a w' => ∃ (b_25 : Bool), J_26 b_25 = some r ∧ ST [] Try.f7.ntmps a [(0, va0), (1, .int .i64 a1), (6, .bool false), (7, v3), (8, .int .i64 r5.1), (9, .pointer (some ⟨g7, 0, none⟩)), (10, .bool r5.2.2), (11, .int .i64 r10.1), (12, .pointer (some ⟨g12, 0, none⟩)), (13, .bool r10.2.2), (15, v21), (16, v25), (68, .bool b_25)] ∧ SH (fun _ => False) w w' [Row (Kd.slice 43 k_File) 39 v3 r1, Box g7 [.int .i64 r5.2.1.Number, .int .i64 r5.2.1.Size, .string r5.2.1.Least, .string r5.2.1.Limit, .int .u64 r5.2.1.Low, .int .u64 r5.2.1.High] 43, Box g12 [.int .i64 r10.2.1.Number, .int .i64 r10.2.1.Size, .string r10.2.1.Least, .string r10.2.1.Limit, .int .u64 r10.2.1.Low, .int .u64 r10.2.1.High] 43, Row (Kd.int .i64) 3 v21 r19, Row k_File 43 v25 r23]) ?_ ?_
       · rintro a W_27 ⟨b_25, H, hst, hsh⟩
         subst hJ_26
         dsimp only at H
         refine r_t hst trivial rfl (x_move hst rfl) ?_; intro a hst
         refine wl_join0 (Δ := []) (N := Try.f7.ntmps) 33 [(0, va0), (1, .int .i64 a1), (6, .bool false), (7, v3), (9, .pointer (some ⟨g7, 0, none⟩)), (10, .bool r5.2.2), (12, .pointer (some ⟨g12, 0, none⟩)), (13, .bool r10.2.2), (15, v21), (16, v25), (73, .bool (b_25 || (r5.1 != r10.1)))] ?_ ?_
         · intro a hst
           refine r_t hst trivial rfl (x_move hst rfl) ?_; intro a hst
           refine wl_join0 (Δ := []) (N := Try.f7.ntmps) 38 [(0, va0), (1, .int .i64 a1), (6, .bool false), (7, v3), (10, .bool r5.2.2), (13, .bool r10.2.2), (15, v21), (16, v25), (78, .bool ((b_25 || (r5.1 != r10.1)) || (!File.eqb r5.2.1 r10.2.1)))] ?_ ?_
           · intro a hst
             refine r_t hst trivial rfl (x_move hst rfl) ?_; intro a hst
             refine wl_join0 (Δ := []) (N := Try.f7.ntmps) 43 [(0, va0), (1, .int .i64 a1), (6, .bool false), (7, v3), (15, v21), (16, v25), (83, .bool (((b_25 || (r5.1 != r10.1)) || (!File.eqb r5.2.1 r10.2.1)) || (!(r5.2.2 == r10.2.2))))] ?_ ?_
             · intro a hst
               refine r_t hst trivial rfl (x_move hst rfl) ?_; intro a hst
               obtain ⟨J_29, hJ_29, H⟩ := Jn.elim H
               refine wl_join 51 (fun a w' => ∃ (b_28 : Bool), J_29 b_28 = some r ∧ ST [] Try.f7.ntmps a [(0, va0), (6, .bool false), (7, v3), (15, v21), (16, v25), (91, .bool b_28)] ∧ SH (fun _ => False) w w' [Row (Kd.slice 43 k_File) 39 v3 r1, Row (Kd.int .i64) 3 v21 r19, Row k_File 43 v25 r23]) ?_ ?_
               · rintro a W_30 ⟨b_28, H, hst, hsh⟩
                 subst hJ_29
                 dsimp only at H
                 refine wpL_nil ?_
                 refine then_normal ?_
                 by_cases c96 : b_28 = true
                 · rw [if_pos c96] at H
                   refine wq_condT hst rfl c96 ?_
                   refine wq_seq ?_
                   refine wq_region_lit (.inl rfl) ?_
                   refine r_t hst trivial rfl (x_assign hst rfl) ?_; intro a hst
                   refine wpL_nil ?_
                   refine then_normal ?_
                   refine wq_ret ?_
                   refine then_ret ?_
                   obtain rfl := Option.some.inj H
                   exact ret1 hst rfl rfl ⟨rfl, hsh.pick []⟩
                 · rw [if_neg c96] at H
                   replace c96 := Bool.eq_false_iff.2 c96
                   refine wq_condF hst rfl c96 ?_
                   refine wq_skip ?_
                   refine then_normal ?_
                   refine wq_seq ?_
                   refine wq_region_lit (.inl rfl) ?_
                   refine r_t hst trivial rfl (x_move hst rfl) ?_; intro a hst
                   replace hsh := hsh.pick [2, 0, 0]
                   obtain ⟨GG99, hsp, hG, hbx, hfx, hk⟩ := SH.callD (L1 := [Row k_File 43 v25 r23]) (L2 := [Row (Kd.slice 43 k_File) 39 v3 r1, Row (Kd.int .i64) 3 v21 r19]) hsh
                   obtain ⟨r97, hr97, H⟩ := Option.bind_eq_some_iff.1 H
                   refine r_callD hst trivial rfl fn_17 rfl (l16_wiped.calls k _ GG99 _ r23 hsp r97 hr97) ?_
                   rintro e w98 ⟨rfl, hc⟩
                   replace hsh := hk _ _ hc
                   clear hc
                   refine ⟨_, rfl, fun a hst => ?_⟩
                   refine wpL_nil ?_
                   refine then_normal ?_
                   refine wq_seq ?_
                   refine wq_seq ?_
                   refine wq_region_lit (.inl rfl) ?_
                   refine r_t hst trivial rfl (x_assign hst rfl) ?_; intro a hst
                   refine wpL_nil ?_
                   refine then_normal ?_
                   refine wq_block ?_
                   refine wq_loop_fuel (fun k_52 a w' => ∃ (l_46 : (List Int)), ∃ (i_47 : Int), l16_VersionTells.l0 a0 r1 k_52 l_46 i_47 = some r ∧ ST [] Try.f7.ntmps a [(0, va0), (6, .bool false), (7, v3), (15, v21), (17, .int .i64 i_47)] ∧ SH (fun _ => False) w w' [Row (Kd.slice 43 k_File) 39 v3 r1, Row (Kd.int .i64) 3 v21 l_46]) k ?_ ?_
                   · exact ⟨r19, 0, H, hst.keep _ ⟨rfl, rfl, rfl, rfl, rfl, trivial⟩, hsh.pick [1, 1]⟩
                   · rintro k_52 a W_48 ⟨l_46, i_47, H, hst, hsh⟩
                     cases k_52 with
                     | zero => rw [l16_VersionTells.l0] at H; cases H
                     | succ k_52 =>
                      rw [l16_VersionTells.l0] at H
                      refine wq_seq ?_
                      refine wq_seq ?_
                      refine wq_region_lit (.inl rfl) ?_
                      refine r_t hst trivial rfl (x_move hst rfl) ?_; intro a hst
                      refine r_t hst trivial rfl (x_move hst rfl) ?_; intro a hst
                      refine r_t hst trivial rfl (x_lenSl hst Try.underlying56 rfl (hsh.row 1 rfl).slen) ?_; intro a hst
                      refine r_t hst trivial rfl (x_cmpI (b := decide (i_47 < (l_46.length : Int))) hst rfl rfl rfl) ?_; intro a hst
                      refine wpL_nil ?_
                      refine then_normal ?_
                      by_cases c141 : (decide (i_47 < (l_46.length : Int))) = true
                      · rw [if_pos c141] at H
                        refine wq_condT hst rfl c141 ?_
                        refine wq_skip ?_
                        refine then_normal ?_
                        refine wq_seq ?_
                        refine wq_block ?_
                        refine wq_region_lit (.inl rfl) ?_
                        refine r_t hst trivial rfl (x_move hst rfl) ?_; intro a hst
                        refine r_t hst trivial rfl (x_move hst rfl) ?_; intro a hst
                        obtain ⟨x145, hx145, H⟩ := Option.bind_eq_some_iff.1 H
                        refine r_t hst trivial rfl (x_indexAddr hst Try.underlying56 el_3 rfl rfl (hsh.row 1 rfl) hx145) ?_; intro a hst
                        obtain ⟨l146, hl146, H⟩ := Option.bind_eq_some_iff.1 H
                        refine r_storeE (i := 1) (off := 0) (new := (-7)) (cs' := [.int .i64 (-7)]) hst hsh trivial sc_3 rfl rfl rfl hx145 rfl (Nat.le_of_ble_eq_true rfl) rfl (fun _ _ _ h => by rw [h]; rfl) (fun _ _ => rfl) ?_; intro a w147 hsh hst
                        rw [← upd_some hl146] at hsh
                        refine wpL_nil ?_
                        refine block_normal ?_
                        refine then_normal ?_
                        refine wq_region_lit (.inl rfl) ?_
                        refine r_t hst trivial rfl (x_move hst rfl) ?_; intro a hst
                        refine r_t hst trivial rfl (x_arI (r := w64 (i_47 + 1)) hst rfl rfl rfl) ?_; intro a hst
                        refine r_t hst trivial rfl (x_assign hst rfl) ?_; intro a hst
                        refine wpL_nil ?_
                        refine then_normal ?_
                        exact ⟨k_52, Nat.lt_succ_self _, l146, (w64 (i_47 + 1)), H, hst.keep _ ⟨rfl, rfl, rfl, rfl, rfl, trivial⟩, hsh.pick [1, 0]⟩
                      · rw [if_neg c141] at H
                        replace c141 := Bool.eq_false_iff.2 c141
                        refine wq_condF hst rfl c141 ?_
                        refine wq_exit ?_
                        refine then_exit ?_
                        refine then_exit ?_
                        refine block_hit ?_
                        refine then_normal ?_
                        refine wq_seq ?_
                        refine wq_region_lit (.inl rfl) ?_
                        refine r_t hst trivial rfl (x_move hst rfl) ?_; intro a hst
                        refine r_t hst trivial rfl (x_move hst rfl) ?_; intro a hst
                        obtain ⟨r148, hr148, H⟩ := Option.bind_eq_some_iff.1 H
                        refine r_callD hst trivial rfl fn_16 rfl (r16_Same.calls k_52 _ _ _ _ (Same.refl _ _) _ (hsh.row 0 rfl) _ _ _ (Same.sh0 hsa0 hsh) _ hra0 r148 hr148) ?_
                        rintro e w149 ⟨rfl, hc⟩
                        replace hsh := hsh.call0 hc
                        clear hc
                        refine ⟨_, rfl, fun a hst => ?_⟩
                        refine r_t hst trivial rfl (x_assign hst rfl) ?_; intro a hst
                        refine wpL_nil ?_
                        refine then_normal ?_
                        refine wq_ret ?_
                        obtain rfl := Option.some.inj H
                        exact ret1 hst rfl rfl ⟨rfl, hsh.pick []⟩
               · intro hj
                 by_cases c89 : (((b_25 || (r5.1 != r10.1)) || (!File.eqb r5.2.1 r10.2.1)) || (!(r5.2.2 == r10.2.2))) = true
                 · rw [if_pos c89] at H
                   refine r_not hst 84 rfl rfl c89 rfl ?_; intro a hst
                   refine r_not hst 84 rfl rfl c89 rfl ?_; intro a hst
                   refine r_not hst 84 rfl rfl c89 rfl ?_; intro a hst
                   refine r_not hst 84 rfl rfl c89 rfl ?_; intro a hst
                   refine r_not hst 84 rfl rfl c89 rfl ?_; intro a hst
                   refine r_not hst 84 rfl rfl c89 rfl ?_; intro a hst
                   refine r_t hst trivial rfl (x_pickT hst rfl c89 rfl) ?_; intro a hst
                   exact hj _ _ ⟨true, H, hst.keep _ ⟨rfl, rfl, rfl, rfl, rfl, rfl, trivial⟩, hsh.pick [0, 2, 2]⟩
                 · rw [if_neg c89] at H
                   replace c89 := Bool.eq_false_iff.2 c89
                   refine r_t hst (wt_of 84 rfl rfl c89) rfl (x_move hst rfl) ?_; intro a hst
                   refine r_t hst (wt_of 84 rfl rfl c89) rfl (x_move hst rfl) ?_; intro a hst
                   refine r_t hst (wt_of 84 rfl rfl c89) rfl (x_move hst rfl) ?_; intro a hst
                   obtain ⟨r150, hr150, H⟩ := Option.bind_eq_some_iff.1 H
                   refine r_callD hst (wt_of 84 rfl rfl c89) rfl fn_33 rfl (r16_Below.calls k _ _ _ _ (Same.sh0 hsa0 hsh) _ hra0 a1 r150 hr150) ?_
                   rintro e w151 ⟨v152, rfl, hc⟩
                   replace hsh := hsh.call0 hc
                   clear hc
                   refine ⟨_, rfl, fun a hst => ?_⟩
                   obtain ⟨r154, hr154, H⟩ := Option.bind_eq_some_iff.1 H
                   refine r_callD hst (wt_of 84 rfl rfl c89) rfl fn_22 rfl (l16_files.calls k _ _ _ _ (Same.refl _ _) _ (hsh.row 5 rfl) _ _ _ (Same.refl _ _) _ (hsh.row 0 rfl) r154 hr154) ?_
                   rintro e w155 ⟨rfl, hc⟩
                   replace hsh := hsh.call0 hc
                   clear hc
                   refine ⟨_, rfl, fun a hst => ?_⟩
                   refine r_t hst (wt_of 84 rfl rfl c89) rfl (x_notB hst rfl) ?_; intro a hst
                   refine r_t hst trivial rfl (x_pickF hst rfl c89 rfl) ?_; intro a hst
                   exact hj _ _ ⟨(!r154), H, hst.keep _ ⟨rfl, rfl, rfl, rfl, rfl, rfl, trivial⟩, hsh.pick [1, 3, 3]⟩
             · intro hj
               by_cases c88 : ((b_25 || (r5.1 != r10.1)) || (!File.eqb r5.2.1 r10.2.1)) = true
               · refine r_not hst 79 rfl rfl c88 rfl ?_; intro a hst
                 refine r_not hst 79 rfl rfl c88 rfl ?_; intro a hst
                 refine r_not hst 79 rfl rfl c88 rfl ?_; intro a hst
                 refine r_t hst trivial rfl (x_orT (!(r5.2.2 == r10.2.2)) hst rfl c88 rfl) ?_; intro a hst
                 exact hj _ (hst.keep _ ⟨rfl, rfl, rfl, rfl, rfl, rfl, rfl, trivial⟩)
               · replace c88 := Bool.eq_false_iff.2 c88
                 refine r_t hst (wt_of 79 rfl rfl c88) rfl (x_move hst rfl) ?_; intro a hst
                 refine r_t hst (wt_of 79 rfl rfl c88) rfl (x_move hst rfl) ?_; intro a hst
                 refine r_t hst (wt_of 79 rfl rfl c88) rfl (x_eqB (b := (!(r5.2.2 == r10.2.2))) hst Try.underlying4 rfl rfl rfl) ?_; intro a hst
                 refine r_t hst trivial rfl (x_orF hst rfl c88 rfl) ?_; intro a hst
                 exact hj _ (hst.keep _ ⟨rfl, rfl, rfl, rfl, rfl, rfl, rfl, trivial⟩)
           · intro hj
             by_cases c87 : (b_25 || (r5.1 != r10.1)) = true
             · refine r_not hst 74 rfl rfl c87 rfl ?_; intro a hst
               refine r_not hst 74 rfl rfl c87 rfl ?_; intro a hst
               refine r_not hst 74 rfl rfl c87 rfl ?_; intro a hst
               refine r_t hst trivial rfl (x_orT (!File.eqb r5.2.1 r10.2.1) hst rfl c87 rfl) ?_; intro a hst
               exact hj _ (hst.keep _ ⟨rfl, rfl, rfl, rfl, rfl, rfl, rfl, rfl, rfl, trivial⟩)
             · replace c87 := Bool.eq_false_iff.2 c87
               refine r_t hst (wt_of 74 rfl rfl c87) rfl (x_loadBs (i := 1) (ps := [.int .i64 r5.2.1.Number, .int .i64 r5.2.1.Size, .string r5.2.1.Least, .string r5.2.1.Limit, .int .u64 r5.2.1.Low, .int .u64 r5.2.1.High]) hst hsh ag_43 rfl rfl rfl) ?_; intro a hst
               refine r_t hst (wt_of 74 rfl rfl c87) rfl (x_loadBs (i := 2) (ps := [.int .i64 r10.2.1.Number, .int .i64 r10.2.1.Size, .string r10.2.1.Least, .string r10.2.1.Limit, .int .u64 r10.2.1.Low, .int .u64 r10.2.1.High]) hst hsh ag_43 rfl rfl rfl) ?_; intro a hst
               refine r_t hst (wt_of 74 rfl rfl c87) rfl (x_eqSn (b := File.eqb r5.2.1 r10.2.1) (x0 := r5.2.1) (y0 := r10.2.1) hst eqof_43 rfl rfl rfl) ?_; intro a hst
               refine r_t hst trivial rfl (x_orF hst rfl c87 rfl) ?_; intro a hst
               exact hj _ (hst.keep _ ⟨rfl, rfl, rfl, rfl, rfl, rfl, rfl, rfl, rfl, trivial⟩)
         · intro hj
           by_cases c86 : b_25 = true
           · refine r_not hst 69 rfl rfl c86 rfl ?_; intro a hst
             refine r_not hst 69 rfl rfl c86 rfl ?_; intro a hst
             refine r_not hst 69 rfl rfl c86 rfl ?_; intro a hst
             refine r_t hst trivial rfl (x_orT (r5.1 != r10.1) hst rfl c86 rfl) ?_; intro a hst
             exact hj _ (hst.keep _ ⟨rfl, rfl, rfl, rfl, rfl, rfl, rfl, rfl, rfl, rfl, rfl, trivial⟩)
           · replace c86 := Bool.eq_false_iff.2 c86
             refine r_t hst (wt_of 69 rfl rfl c86) rfl (x_move hst rfl) ?_; intro a hst
             refine r_t hst (wt_of 69 rfl rfl c86) rfl (x_move hst rfl) ?_; intro a hst
             refine r_t hst (wt_of 69 rfl rfl c86) rfl (x_cmpI (b := (r5.1 != r10.1)) hst rfl rfl rfl) ?_; intro a hst
             refine r_t hst trivial rfl (x_orF hst rfl c86 rfl) ?_; intro a hst
             exact hj _ (hst.keep _ ⟨rfl, rfl, rfl, rfl, rfl, rfl, rfl, rfl, rfl, rfl, rfl, trivial⟩)
       · intro hj
         by_cases c83 : b_22 = true
         · rw [if_pos c83] at H
           refine r_not hst 63 rfl rfl c83 rfl ?_; intro a hst
           refine r_not hst 63 rfl rfl c83 rfl ?_; intro a hst
           refine r_not hst 63 rfl rfl c83 rfl ?_; intro a hst
           refine r_not hst 63 rfl rfl c83 rfl ?_; intro a hst
           refine r_t hst trivial rfl (x_pickT hst rfl c83 rfl) ?_; intro a hst
           exact hj _ _ ⟨true, H, hst.keep _ ⟨rfl, rfl, rfl, rfl, rfl, rfl, rfl, rfl, rfl, rfl, rfl, rfl, rfl, trivial⟩, hsh.pick [0, 0, 0, 1, 1]⟩
         · rw [if_neg c83] at H
           replace c83 := Bool.eq_false_iff.2 c83
           refine r_t hst (wt_of 63 rfl rfl c83) rfl (x_move hst rfl) ?_; intro a hst
           refine r_t hst (wt_of 63 rfl rfl c83) rfl (x_move hst rfl) ?_; intro a hst
           obtain ⟨r156, hr156, H⟩ := Option.bind_eq_some_iff.1 H
           refine r_callD hst (wt_of 63 rfl rfl c83) rfl fn_32 rfl (l16_ints.calls k _ _ _ _ (Same.refl _ _) _ (hsh.row 4 rfl) _ _ _ (Same.refl _ _) _ (hsh.row 3 rfl) r156 hr156) ?_
           rintro e w157 ⟨rfl, hc⟩
           replace hsh := hsh.call0 hc
           clear hc
           refine ⟨_, rfl, fun a hst => ?_⟩
           refine r_t hst (wt_of 63 rfl rfl c83) rfl (x_notB hst rfl) ?_; intro a hst
           refine r_t hst trivial rfl (x_pickF hst rfl c83 rfl) ?_; intro a hst
           exact hj _ _ ⟨(!r156), H, hst.keep _ ⟨rfl, rfl, rfl, rfl, rfl, rfl, rfl, rfl, rfl, rfl, rfl, rfl, rfl, trivial⟩, hsh.pick [0, 0, 0, 1, 1]⟩
     · intro hj
       by_cases c80 : b_19 = true
       · rw [if_pos c80] at H
         refine r_not hst 56 rfl rfl c80 rfl ?_; intro a hst
         refine r_not hst 56 rfl rfl c80 rfl ?_; intro a hst
         refine r_not hst 56 rfl rfl c80 rfl ?_; intro a hst
         refine r_not hst 56 rfl rfl c80 rfl ?_; intro a hst
         refine r_not hst 56 rfl rfl c80 rfl ?_; intro a hst
         refine r_t hst trivial rfl (x_pickT hst rfl c80 rfl) ?_; intro a hst
         exact hj _ _ ⟨true, H, hst.keep _ ⟨rfl, rfl, rfl, rfl, rfl, rfl, rfl, rfl, rfl, rfl, rfl, rfl, rfl, rfl, trivial⟩, hsh.pick [0, 0, 0, 0, 0, 0]⟩
       · rw [if_neg c80] at H
         replace c80 := Bool.eq_false_iff.2 c80
         refine r_t hst (wt_of 56 rfl rfl c80) rfl (x_move hst rfl) ?_; intro a hst
         obtain ⟨r158, hr158, H⟩ := Option.bind_eq_some_iff.1 H
         refine r_callD hst (wt_of 56 rfl rfl c80) rfl fn_31 rfl (version_Files.calls k _ _ _ _ (Same.refl _ _) _ (hsh.row 0 rfl) r158 hr158) ?_
         rintro e w159 ⟨rfl, hc⟩
         replace hsh := hsh.call0 hc
         clear hc
         refine ⟨_, rfl, fun a hst => ?_⟩
         refine r_t hst (wt_of 56 rfl rfl c80) rfl (x_move hst rfl) ?_; intro a hst
         refine r_t hst (wt_of 56 rfl rfl c80) rfl (x_lenSl hst Try.underlying56 rfl (hsh.row 3 rfl).slen) ?_; intro a hst
         refine r_t hst (wt_of 56 rfl rfl c80) rfl (x_cmpI (b := (r158 != (r15.length : Int))) hst rfl rfl rfl) ?_; intro a hst
         refine r_t hst trivial rfl (x_pickF hst rfl c80 rfl) ?_; intro a hst
         exact hj _ _ ⟨(r158 != (r15.length : Int)), H, hst.keep _ ⟨rfl, rfl, rfl, rfl, rfl, rfl, rfl, rfl, rfl, rfl, rfl, rfl, rfl, rfl, trivial⟩, hsh.pick [0, 0, 0, 0, 0, 0]⟩
   · intro hj
     by_cases c75 : b_16 = true
     · rw [if_pos c75] at H
       refine r_not hst 47 rfl rfl c75 rfl ?_; intro a hst
       refine r_not hst 47 rfl rfl c75 rfl ?_; intro a hst
       refine r_not hst 47 rfl rfl c75 rfl ?_; intro a hst
       refine r_not hst 47 rfl rfl c75 rfl ?_; intro a hst
       refine r_not hst 47 rfl rfl c75 rfl ?_; intro a hst
       refine r_not hst 47 rfl rfl c75 rfl ?_; intro a hst
       refine r_not hst 47 rfl rfl c75 rfl ?_; intro a hst
       refine r_t hst trivial rfl (x_pickT hst rfl c75 rfl) ?_; intro a hst
       exact hj _ _ ⟨true, H, hst.keep _ ⟨rfl, rfl, rfl, rfl, rfl, rfl, rfl, rfl, rfl, rfl, rfl, rfl, rfl, rfl, trivial⟩, hsh.pick [0, 0, 0, 0, 0, 0]⟩
     · rw [if_neg c75] at H
       replace c75 := Bool.eq_false_iff.2 c75
       refine r_t hst (wt_of 47 rfl rfl c75) rfl (x_move hst rfl) ?_; intro a hst
       refine r_t hst (wt_of 47 rfl rfl c75) rfl (x_move hst rfl) ?_; intro a hst
       obtain ⟨r160, hr160, H⟩ := Option.bind_eq_some_iff.1 H
       refine r_callD hst (wt_of 47 rfl rfl c75) rfl fn_29 rfl (version_Size.calls k _ _ _ _ (Same.refl _ _) _ (hsh.row 0 rfl) a1 r160 hr160) ?_
       rintro e w161 ⟨rfl, hc⟩
       replace hsh := hsh.call0 hc
       clear hc
       refine ⟨_, rfl, fun a hst => ?_⟩
       refine r_t hst (wt_of 47 rfl rfl c75) rfl (x_move hst rfl) ?_; intro a hst
       refine r_t hst (wt_of 47 rfl rfl c75) rfl (x_move hst rfl) ?_; intro a hst
       obtain ⟨r162, hr162, H⟩ := Option.bind_eq_some_iff.1 H
       refine r_callD hst (wt_of 47 rfl rfl c75) rfl fn_30 rfl (r16_Size.calls k _ _ _ _ (Same.sh0 hsa0 hsh) _ hra0 a1 r162 hr162) ?_
       rintro e w163 ⟨rfl, hc⟩
       replace hsh := hsh.call0 hc
       clear hc
       refine ⟨_, rfl, fun a hst => ?_⟩
       refine r_t hst (wt_of 47 rfl rfl c75) rfl (x_cmpI (b := (r160 != r162)) hst rfl rfl rfl) ?_; intro a hst
       refine r_t hst trivial rfl (x_pickF hst rfl c75 rfl) ?_; intro a hst
       exact hj _ _ ⟨(r160 != r162), H, hst.keep _ ⟨rfl, rfl, rfl, rfl, rfl, rfl, rfl, rfl, rfl, rfl, rfl, rfl, rfl, rfl, trivial⟩, hsh.pick [0, 0, 0, 0, 0, 0]⟩
 · intro hj
   by_cases c72 : (!r70) = true
   · rw [if_pos c72] at H
     refine r_not hst 43 rfl rfl c72 rfl ?_; intro a hst
     refine r_not hst 43 rfl rfl c72 rfl ?_; intro a hst
     refine r_t hst trivial rfl (x_pickT hst rfl c72 rfl) ?_; intro a hst
     exact hj _ _ ⟨true, H, hst.keep _ ⟨rfl, rfl, rfl, rfl, rfl, rfl, rfl, rfl, rfl, rfl, rfl, rfl, rfl, rfl, trivial⟩, hsh.pick [5, 4, 3, 2, 1, 0]⟩
   · rw [if_neg c72] at H
     replace c72 := Bool.eq_false_iff.2 c72
     obtain ⟨r164, hr164, H⟩ := Option.bind_eq_some_iff.1 H
     refine r_callD hst (wt_of 43 rfl rfl c72) rfl fn_21 rfl (l16_one.calls k _ r164 hr164) ?_
     rintro e w165 ⟨rfl, hc⟩
     replace hsh := hsh.call0 hc
     clear hc
     refine ⟨_, rfl, fun a hst => ?_⟩
     refine r_t hst (wt_of 43 rfl rfl c72) rfl (x_notB hst rfl) ?_; intro a hst
     refine r_t hst trivial rfl (x_pickF hst rfl c72 rfl) ?_; intro a hst
     exact hj _ _ ⟨(!r164), H, hst.keep _ ⟨rfl, rfl, rfl, rfl, rfl, rfl, rfl, rfl, rfl, rfl, rfl, rfl, rfl, rfl, trivial⟩, hsh.pick [5, 4, 3, 2, 1, 0]⟩
end Go.Proofs.Ytbbepmmelpabbaa.Mo
