/- Printed by gen.py: contracts. -/
import Derived.Test.YtbbepmmelpabbaaVerKd
set_option linter.unusedVariables false
set_option linter.unusedSectionVars false
set_option linter.unusedSimpArgs false
set_option maxRecDepth 100000
namespace Go.Proofs.Ytbbepmmelpabbaa.Mo
open Go Go.Proofs.Ytbbepmmelpabbaa.Sy
open Go.Proofs
set_option maxHeartbeats 4000000 in
set_option maxRecDepth 100000 in
theorem version_Span.calls (k : Nat) (w : World) (va0 : Value) (Za0 : Nat → Prop) (wra0 : World) (hsa0 : Same Za0 wra0 w) (a0 : (List File)) (hra0 : RD k_File Za0 wra0 va0 a0) (r : (ByteArray × ByteArray × Bool)) (h : version_Span k a0 = some r) :
    Calls Try.prog 34 ([va0] : List Value).toArray w fun e w' => e = .returned (.tuple #[.string r.1, .string r.2.1, .bool r.2.2]) ∧ SH (fun _ => False) w w' [] := by
 have H := h
 clear h
 unfold version_Span at H
 refine calls_enter Try.func34 rfl rfl ?_
 intro a hst
 have hsh := SH.zero (fun _ => False) w
 refine wq_seq ?_
 refine wq_region_lit (.inl rfl) ?_
 refine r_t hst trivial rfl (x_assign hst rfl) ?_; intro a hst
 refine r_t hst trivial rfl (x_assign hst rfl) ?_; intro a hst
 refine r_t hst trivial rfl (x_assign hst rfl) ?_; intro a hst
 refine wpL_nil ?_
 refine then_normal ?_
 refine wq_seq ?_
 refine wq_seq ?_
 refine wq_region_lit (.inl rfl) ?_
 refine r_t hst trivial rfl (x_move hst rfl) ?_; intro a hst
 refine r_t hst trivial rfl (x_lenSl hst Try.underlying39 rfl hra0.slen) ?_; intro a hst
 refine r_t hst trivial rfl (x_move hst rfl) ?_; intro a hst
 refine wpL_nil ?_
 refine then_normal ?_
 refine wq_block ?_
 refine wq_loop_fuel (fun k_78 a w' => ∃ (s_60 : ByteArray), ∃ (s_61 : ByteArray), ∃ (i_62 : Int), version_Span.l0 a0 k_78 s_60 s_61 i_62 = some r ∧ ST [] Try.f34.ntmps a [(0, va0), (2, .string s_60), (3, .string s_61), (4, .bool false), (7, va0), (8, .int .i64 (a0.length : Int)), (9, .int .i64 i_62)] ∧ SH (fun _ => False) w w' []) k ?_ ?_
 · exact ⟨(ByteArray.mk #[]), (ByteArray.mk #[]), 0, H, hst.keep _ ⟨rfl, rfl, rfl, rfl, rfl, rfl, rfl, trivial⟩, hsh.pick []⟩
 · rintro k_78 a W_63 ⟨s_60, s_61, i_62, H, hst, hsh⟩
   cases k_78 with
   | zero => rw [version_Span.l0] at H; cases H
   | succ k_78 =>
    rw [version_Span.l0] at H
    refine wq_seq ?_
    refine wq_region_lit (.inl rfl) ?_
    refine r_t hst trivial rfl (x_cmpI (b := decide (i_62 < (a0.length : Int))) hst rfl rfl rfl) ?_; intro a hst
    refine wpL_nil ?_
    refine then_normal ?_
    refine wq_seq ?_
    by_cases c112 : (decide (i_62 < (a0.length : Int))) = true
    · rw [if_pos c112] at H
      refine wq_condT hst rfl c112 ?_
      refine wq_skip ?_
      refine then_normal ?_
      obtain ⟨J_85, hJ_85, H⟩ := Jn.elim H
      refine wq_cut (fun a w' => ∃ (s_82 : ByteArray), ∃ (s_83 : ByteArray), J_85 s_82 s_83 = some r ∧ ST [] Try.f34.ntmps a [(0, va0), (2, .string s_82), (3, .string s_83), (4, .bool false), (7, va0), (8, .int .i64 (a0.length : Int)), (9, .int .i64 i_62)] ∧ SH (fun _ => False) w w' []) ?_ ?_
      · rintro a W_84 ⟨s_82, s_83, H, hst, hsh⟩
        subst hJ_85
        dsimp only at H
        refine wq_region_lit (.inl rfl) ?_
        refine r_t hst trivial rfl (x_arI (r := w64 (i_62 + 1)) hst rfl rfl rfl) ?_; intro a hst
        refine r_t hst trivial rfl (x_move hst rfl) ?_; intro a hst
        refine wpL_nil ?_
        refine then_normal ?_
        exact ⟨k_78, Nat.lt_succ_self _, s_82, s_83, (w64 (i_62 + 1)), H, hst.keep _ ⟨rfl, rfl, rfl, rfl, rfl, rfl, rfl, trivial⟩, hsh.pick []⟩
      · refine wq_block ?_
        refine wq_seq ?_
        refine wq_region_lit (.inl rfl) ?_
        refine r_t hst trivial rfl (x_move hst rfl) ?_; intro a hst
        obtain ⟨x123, hx123, H⟩ := Option.bind_eq_some_iff.1 H
        refine r_t hst trivial rfl (x_indexAddr hst Try.underlying39 el_43 rfl rfl hra0 hx123) ?_; intro a hst
        refine r_t hst trivial rfl (x_loadEsF (j := 0) (cs := [.int .i64 x123.Number, .int .i64 x123.Size, .string x123.Least, .string x123.Limit, .int .u64 x123.Low, .int .u64 x123.High]) (ps := [.int .i64 x123.Number, .int .i64 x123.Size, .string x123.Least, .string x123.Limit, .int .u64 x123.Low, .int .u64 x123.High]) hst ag_43 rfl hra0 (Same.sh0 hsa0 hsh) hx123 rfl (fun _ h => h) rfl) ?_; intro a hst
        refine r_alloc hst hsh trivial rfl zr_43 ?_
        intro g124 a w125 hgg124 hsh hst
        refine r_t hst trivial rfl (x_assign hst rfl) ?_; intro a hst
        refine r_storeBs (i := 0) (cs' := [.int .i64 x123.Number, .int .i64 x123.Size, .string x123.Least, .string x123.Limit, .int .u64 x123.Low, .int .u64 x123.High]) (vs := [.int .i64 x123.Number, .int .i64 x123.Size, .string x123.Least, .string x123.Limit, .int .u64 x123.Low, .int .u64 x123.High]) hst hsh trivial ag_43 rfl rfl rfl rfl rfl rfl ?_; intro a w126 hsh hst
        refine wpL_nil ?_
        refine then_normal ?_
        obtain ⟨J_88, hJ_88, H⟩ := Jn.elim H
        refine wq_cut (fun a w' => ∃ (s_86 : ByteArray), J_88 s_86 = some r ∧ ST [] Try.f34.ntmps a [(0, va0), (2, .string s_86), (3, .string s_61), (4, .bool false), (5, .int .i64 i_62), (6, .pointer (some ⟨g124, 0, none⟩)), (7, va0), (8, .int .i64 (a0.length : Int)), (9, .int .i64 i_62)] ∧ SH (fun _ => False) w w' [Box g124 [.int .i64 x123.Number, .int .i64 x123.Size, .string x123.Least, .string x123.Limit, .int .u64 x123.Low, .int .u64 x123.High] 43]) ?_ ?_
        · rintro a W_87 ⟨s_86, H, hst, hsh⟩
          subst hJ_88
          dsimp only at H
          refine wq_seq ?_
          refine wq_region_lit (.inl rfl) ?_
          refine r_t hst trivial rfl (x_move hst rfl) ?_; intro a hst
          refine r_t hst trivial rfl (x_cmpI (b := (i_62 == 0)) hst rfl rfl rfl) ?_; intro a hst
          refine r_t hst trivial rfl (x_move hst rfl) ?_; intro a hst
          refine wl_join0 (Δ := []) (N := Try.f34.ntmps) 8 [(0, va0), (2, .string s_86), (3, .string s_61), (4, .bool false), (6, .pointer (some ⟨g124, 0, none⟩)), (7, va0), (8, .int .i64 (a0.length : Int)), (9, .int .i64 i_62), (31, .bool ((i_62 == 0) || (!(sLt x123.Limit s_61 || sEq x123.Limit s_61))))] ?_ ?_
          · intro a hst
            refine wpL_nil ?_
            refine then_normal ?_
            by_cases c130 : ((i_62 == 0) || (!(sLt x123.Limit s_61 || sEq x123.Limit s_61))) = true
            · rw [if_pos c130] at H
              refine wq_condT hst rfl c130 ?_
              refine wq_region_lit (.inl rfl) ?_
              refine r_t hst trivial rfl (x_fieldAddr (j' := 3) hst fa_43_3 rfl rfl) ?_; intro a hst
              refine r_t hst trivial rfl (x_loadB (i := 0) hst hsh sc_9 rfl rfl rfl) ?_; intro a hst
              refine r_t hst trivial rfl (x_assign hst rfl) ?_; intro a hst
              refine wpL_nil ?_
              refine block_normal ?_
              refine then_normal ?_
              exact ⟨s_86, x123.Limit, H, hst.keep _ ⟨rfl, rfl, rfl, rfl, rfl, rfl, rfl, trivial⟩, hsh.pick []⟩
            · rw [if_neg c130] at H
              replace c130 := Bool.eq_false_iff.2 c130
              refine wq_condF hst rfl c130 ?_
              refine wq_skip ?_
              refine block_normal ?_
              refine then_normal ?_
              exact ⟨s_86, s_61, H, hst.keep _ ⟨rfl, rfl, rfl, rfl, rfl, rfl, rfl, trivial⟩, hsh.pick []⟩
          · intro hj
            by_cases c129 : (i_62 == 0) = true
            · refine r_not hst 26 rfl rfl c129 rfl ?_; intro a hst
              refine r_not hst 26 rfl rfl c129 rfl ?_; intro a hst
              refine r_not hst 26 rfl rfl c129 rfl ?_; intro a hst
              refine r_not hst 26 rfl rfl c129 rfl ?_; intro a hst
              refine r_t hst trivial rfl (x_orT (!(sLt x123.Limit s_61 || sEq x123.Limit s_61)) hst rfl c129 rfl) ?_; intro a hst
              exact hj _ (hst.keep _ ⟨rfl, rfl, rfl, rfl, rfl, rfl, rfl, rfl, rfl, trivial⟩)
            · replace c129 := Bool.eq_false_iff.2 c129
              refine r_t hst (wt_of 26 rfl rfl c129) rfl (x_fieldAddr (j' := 3) hst fa_43_3 rfl rfl) ?_; intro a hst
              refine r_t hst (wt_of 26 rfl rfl c129) rfl (x_loadB (i := 0) hst hsh sc_9 rfl rfl rfl) ?_; intro a hst
              refine r_t hst (wt_of 26 rfl rfl c129) rfl (x_move hst rfl) ?_; intro a hst
              refine r_t hst (wt_of 26 rfl rfl c129) rfl (x_cmpS (b := (!(sLt x123.Limit s_61 || sEq x123.Limit s_61))) hst rfl rfl rfl) ?_; intro a hst
              refine r_t hst trivial rfl (x_orF hst rfl c129 rfl) ?_; intro a hst
              exact hj _ (hst.keep _ ⟨rfl, rfl, rfl, rfl, rfl, rfl, rfl, rfl, rfl, trivial⟩)
        · refine wq_seq ?_
          refine wq_region_lit (.inl rfl) ?_
          refine r_t hst trivial rfl (x_move hst rfl) ?_; intro a hst
          refine r_t hst trivial rfl (x_cmpI (b := (i_62 == 0)) hst rfl rfl rfl) ?_; intro a hst
          refine r_t hst trivial rfl (x_move hst rfl) ?_; intro a hst
          refine wl_join0 (Δ := []) (N := Try.f34.ntmps) 8 [(0, va0), (2, .string s_60), (3, .string s_61), (4, .bool false), (5, .int .i64 i_62), (6, .pointer (some ⟨g124, 0, none⟩)), (7, va0), (8, .int .i64 (a0.length : Int)), (9, .int .i64 i_62), (21, .bool ((i_62 == 0) || (sLt x123.Least s_60)))] ?_ ?_
          · intro a hst
            refine wpL_nil ?_
            refine then_normal ?_
            by_cases c132 : ((i_62 == 0) || (sLt x123.Least s_60)) = true
            · rw [if_pos c132] at H
              refine wq_condT hst rfl c132 ?_
              refine wq_region_lit (.inl rfl) ?_
              refine r_t hst trivial rfl (x_fieldAddr (j' := 2) hst fa_43_2 rfl rfl) ?_; intro a hst
              refine r_t hst trivial rfl (x_loadB (i := 0) hst hsh sc_9 rfl rfl rfl) ?_; intro a hst
              refine r_t hst trivial rfl (x_assign hst rfl) ?_; intro a hst
              refine wpL_nil ?_
              refine then_normal ?_
              exact ⟨x123.Least, H, hst.keep _ ⟨rfl, rfl, rfl, rfl, rfl, rfl, rfl, rfl, rfl, trivial⟩, hsh.pick [0]⟩
            · rw [if_neg c132] at H
              replace c132 := Bool.eq_false_iff.2 c132
              refine wq_condF hst rfl c132 ?_
              refine wq_skip ?_
              refine then_normal ?_
              exact ⟨s_60, H, hst.keep _ ⟨rfl, rfl, rfl, rfl, rfl, rfl, rfl, rfl, rfl, trivial⟩, hsh.pick [0]⟩
          · intro hj
            by_cases c131 : (i_62 == 0) = true
            · refine r_not hst 16 rfl rfl c131 rfl ?_; intro a hst
              refine r_not hst 16 rfl rfl c131 rfl ?_; intro a hst
              refine r_not hst 16 rfl rfl c131 rfl ?_; intro a hst
              refine r_not hst 16 rfl rfl c131 rfl ?_; intro a hst
              refine r_t hst trivial rfl (x_orT (sLt x123.Least s_60) hst rfl c131 rfl) ?_; intro a hst
              exact hj _ (hst.keep _ ⟨rfl, rfl, rfl, rfl, rfl, rfl, rfl, rfl, rfl, rfl, trivial⟩)
            · replace c131 := Bool.eq_false_iff.2 c131
              refine r_t hst (wt_of 16 rfl rfl c131) rfl (x_fieldAddr (j' := 2) hst fa_43_2 rfl rfl) ?_; intro a hst
              refine r_t hst (wt_of 16 rfl rfl c131) rfl (x_loadB (i := 0) hst hsh sc_9 rfl rfl rfl) ?_; intro a hst
              refine r_t hst (wt_of 16 rfl rfl c131) rfl (x_move hst rfl) ?_; intro a hst
              refine r_t hst (wt_of 16 rfl rfl c131) rfl (x_cmpS (b := sLt x123.Least s_60) hst rfl rfl rfl) ?_; intro a hst
              refine r_t hst trivial rfl (x_orF hst rfl c131 rfl) ?_; intro a hst
              exact hj _ (hst.keep _ ⟨rfl, rfl, rfl, rfl, rfl, rfl, rfl, rfl, rfl, rfl, trivial⟩)
    · rw [if_neg c112] at H
      replace c112 := Bool.eq_false_iff.2 c112
      refine wq_condF hst rfl c112 ?_
      refine wq_exit ?_
      refine then_exit ?_
      refine then_exit ?_
      refine block_hit ?_
      refine then_normal ?_
      refine wq_seq ?_
      refine wq_region_lit (.inl rfl) ?_
      refine r_t hst trivial rfl (x_move hst rfl) ?_; intro a hst
      refine r_t hst trivial rfl (x_move hst rfl) ?_; intro a hst
      refine r_t hst trivial rfl (x_move hst rfl) ?_; intro a hst
      refine r_t hst trivial rfl (x_lenSl hst Try.underlying39 rfl hra0.slen) ?_; intro a hst
      refine r_t hst trivial rfl (x_cmpI (b := decide (0 < (a0.length : Int))) hst rfl rfl rfl) ?_; intro a hst
      refine r_t hst trivial rfl (x_assign hst rfl) ?_; intro a hst
      refine r_t hst trivial rfl (x_assign hst rfl) ?_; intro a hst
      refine r_t hst trivial rfl (x_assign hst rfl) ?_; intro a hst
      refine wpL_nil ?_
      refine then_normal ?_
      refine wq_ret ?_
      obtain rfl := Option.some.inj H
      exact ret3 hst rfl rfl rfl rfl ⟨rfl, hsh.pick []⟩

set_option maxHeartbeats 4000000 in
set_option maxRecDepth 100000 in
theorem r16_Span.calls (k : Nat) (w : World) (va0 : Value) (Za0 : Nat → Prop) (wra0 : World) (hsa0 : Same Za0 wra0 w) (a0 : (List File)) (hra0 : RD k_File Za0 wra0 va0 a0) (r : (ByteArray × ByteArray × Bool)) (h : r16_Span k a0 = some r) :
    Calls Try.prog 35 ([va0] : List Value).toArray w fun e w' => e = .returned (.tuple #[.string r.1, .string r.2.1, .bool r.2.2]) ∧ SH (fun _ => False) w w' [] := by
 have H := h
 clear h
 unfold r16_Span at H
 refine calls_enter Try.func35 rfl rfl ?_
 intro a hst
 have hsh := SH.zero (fun _ => False) w
 refine wq_seq ?_
 refine wq_region_lit (.inl rfl) ?_
 refine r_t hst trivial rfl (x_assign hst rfl) ?_; intro a hst
 refine r_t hst trivial rfl (x_assign hst rfl) ?_; intro a hst
 refine r_t hst trivial rfl (x_assign hst rfl) ?_; intro a hst
 refine wpL_nil ?_
 refine then_normal ?_
 refine wq_seq ?_
 refine wq_seq ?_
 refine wq_region_lit (.inl rfl) ?_
 refine r_t hst trivial rfl (x_move hst rfl) ?_; intro a hst
 refine r_t hst trivial rfl (x_lenSl hst Try.underlying39 rfl hra0.slen) ?_; intro a hst
 refine r_t hst trivial rfl (x_cmpI (b := ((a0.length : Int) == 0)) hst rfl rfl rfl) ?_; intro a hst
 refine wpL_nil ?_
 refine then_normal ?_
 by_cases c2 : ((a0.length : Int) == 0) = true
 · rw [if_pos c2] at H
   refine wq_condT hst rfl c2 ?_
   refine wq_seq ?_
   refine wq_region_lit (.inl rfl) ?_
   refine r_t hst trivial rfl (x_assign hst rfl) ?_; intro a hst
   refine r_t hst trivial rfl (x_assign hst rfl) ?_; intro a hst
   refine r_t hst trivial rfl (x_assign hst rfl) ?_; intro a hst
   refine wpL_nil ?_
   refine then_normal ?_
   refine wq_ret ?_
   refine then_ret ?_
   obtain rfl := Option.some.inj H
   exact ret3 hst rfl rfl rfl rfl ⟨rfl, hsh.pick []⟩
 · rw [if_neg c2] at H
   replace c2 := Bool.eq_false_iff.2 c2
   refine wq_condF hst rfl c2 ?_
   refine wq_skip ?_
   refine then_normal ?_
   refine wq_seq ?_
   refine wq_region_q (.inl rfl) (fun w' => SH (fun _ => False) w w' []) (shut_sh _ _ _) hsh.drew fo (by kernel_rfl) ?_
   refine q_t hst trivial rfl (fun _ hsh => x_move hst rfl) ?_; intro a hst
   obtain ⟨x3, hx3, H⟩ := Option.bind_eq_some_iff.1 H
   refine q_t hst trivial rfl (fun _ hsh => x_indexAddr hst Try.underlying39 el_43 rfl rfl hra0 hx3) ?_; intro a hst
   refine q_t hst trivial rfl (fun _ hsh => x_fieldAddrE (n' := Int.toNat 0 * k_File.sz + 2) hst fa_43_2 rfl rfl) ?_; intro a hst
   refine q_t hst trivial rfl (fun _ hsh => x_loadEF (j := 2) (cs := [.int .i64 x3.Number, .int .i64 x3.Size, .string x3.Least, .string x3.Limit, .int .u64 x3.Low, .int .u64 x3.High]) hst sc_9 rfl hra0 (Same.sh0 hsa0 hsh) hx3 rfl (fun _ h => h) rfl) ?_; intro a hst
   refine q_t hst trivial rfl (fun _ hsh => x_move hst rfl) ?_; intro a hst
   obtain ⟨x4, hx4, H⟩ := Option.bind_eq_some_iff.1 H
   refine q_t hst trivial rfl (fun _ hsh => x_indexAddr hst Try.underlying39 el_43 rfl rfl hra0 hx4) ?_; intro a hst
   refine q_t hst trivial rfl (fun _ hsh => x_fieldAddrE (n' := Int.toNat 0 * k_File.sz + 3) hst fa_43_3 rfl rfl) ?_; intro a hst
   refine q_t hst trivial rfl (fun _ hsh => x_loadEF (j := 3) (cs := [.int .i64 x4.Number, .int .i64 x4.Size, .string x4.Least, .string x4.Limit, .int .u64 x4.Low, .int .u64 x4.High]) hst sc_9 rfl hra0 (Same.sh0 hsa0 hsh) hx4 rfl (fun _ h => h) rfl) ?_; intro a hst
   refine q_t hst trivial rfl (fun _ hsh => x_assign hst rfl) ?_; intro a hst
   refine q_t hst trivial rfl (fun _ hsh => x_assign hst rfl) ?_; intro a hst
   refine q_nil ?_
   intro w5 hsh
   refine then_normal ?_
   refine wq_seq ?_
   refine wq_seq ?_
   refine wq_region_lit (.inl rfl) ?_
   refine r_t hst trivial rfl (x_assign hst rfl) ?_; intro a hst
   refine wpL_nil ?_
   refine then_normal ?_
   refine wq_block ?_
   refine wq_loop_fuel (fun k_28 a w' => ∃ (s_20 : ByteArray), ∃ (s_21 : ByteArray), ∃ (i_22 : Int), r16_Span.l0 a0 k_28 s_20 s_21 i_22 = some r ∧ ST [] Try.f35.ntmps a [(0, va0), (2, .string (ByteArray.mk #[])), (3, .string (ByteArray.mk #[])), (4, .bool false), (5, .string s_20), (6, .string s_21), (7, .int .i64 i_22)] ∧ SH (fun _ => False) w w' []) k ?_ ?_
   · exact ⟨x3.Least, x4.Limit, 1, H, hst.keep _ ⟨rfl, rfl, rfl, rfl, rfl, rfl, rfl, trivial⟩, hsh.pick []⟩
   · rintro k_28 a W_23 ⟨s_20, s_21, i_22, H, hst, hsh⟩
     cases k_28 with
     | zero => rw [r16_Span.l0] at H; cases H
     | succ k_28 =>
      rw [r16_Span.l0] at H
      refine wq_seq ?_
      refine wq_seq ?_
      refine wq_region_lit (.inl rfl) ?_
      refine r_t hst trivial rfl (x_move hst rfl) ?_; intro a hst
      refine r_t hst trivial rfl (x_move hst rfl) ?_; intro a hst
      refine r_t hst trivial rfl (x_lenSl hst Try.underlying39 rfl hra0.slen) ?_; intro a hst
      refine r_t hst trivial rfl (x_cmpI (b := decide (i_22 < (a0.length : Int))) hst rfl rfl rfl) ?_; intro a hst
      refine wpL_nil ?_
      refine then_normal ?_
      by_cases c37 : (decide (i_22 < (a0.length : Int))) = true
      · rw [if_pos c37] at H
        refine wq_condT hst rfl c37 ?_
        refine wq_skip ?_
        refine then_normal ?_
        refine wq_seq ?_
        refine wq_block ?_
        refine wq_seq ?_
        refine wq_region_lit (.inl rfl) ?_
        refine r_t hst trivial rfl (x_move hst rfl) ?_; intro a hst
        refine r_t hst trivial rfl (x_move hst rfl) ?_; intro a hst
        refine r_t hst trivial rfl (x_move hst rfl) ?_; intro a hst
        obtain ⟨x40, hx40, H⟩ := Option.bind_eq_some_iff.1 H
        refine r_t hst trivial rfl (x_indexAddr hst Try.underlying39 el_43 rfl rfl hra0 hx40) ?_; intro a hst
        refine r_t hst trivial rfl (x_fieldAddrE (n' := Int.toNat i_22 * k_File.sz + 2) hst fa_43_2 rfl rfl) ?_; intro a hst
        refine r_t hst trivial rfl (x_loadEF (j := 2) (cs := [.int .i64 x40.Number, .int .i64 x40.Size, .string x40.Least, .string x40.Limit, .int .u64 x40.Low, .int .u64 x40.High]) hst sc_9 rfl hra0 (Same.sh0 hsa0 hsh) hx40 rfl (fun _ h => h) rfl) ?_; intro a hst
        refine r_t hst trivial rfl (x_minS hst rfl rfl) ?_; intro a hst
        refine r_t hst trivial rfl (x_assign hst rfl) ?_; intro a hst
        refine wpL_nil ?_
        refine then_normal ?_
        refine wq_region_lit (.inl rfl) ?_
        refine r_t hst trivial rfl (x_move hst rfl) ?_; intro a hst
        refine r_t hst trivial rfl (x_move hst rfl) ?_; intro a hst
        refine r_t hst trivial rfl (x_move hst rfl) ?_; intro a hst
        obtain ⟨x41, hx41, H⟩ := Option.bind_eq_some_iff.1 H
        refine r_t hst trivial rfl (x_indexAddr hst Try.underlying39 el_43 rfl rfl hra0 hx41) ?_; intro a hst
        refine r_t hst trivial rfl (x_fieldAddrE (n' := Int.toNat i_22 * k_File.sz + 3) hst fa_43_3 rfl rfl) ?_; intro a hst
        refine r_t hst trivial rfl (x_loadEF (j := 3) (cs := [.int .i64 x41.Number, .int .i64 x41.Size, .string x41.Least, .string x41.Limit, .int .u64 x41.Low, .int .u64 x41.High]) hst sc_9 rfl hra0 (Same.sh0 hsa0 hsh) hx41 rfl (fun _ h => h) rfl) ?_; intro a hst
        refine r_t hst trivial rfl (x_maxS hst rfl rfl) ?_; intro a hst
        refine r_t hst trivial rfl (x_assign hst rfl) ?_; intro a hst
        refine wpL_nil ?_
        refine block_normal ?_
        refine then_normal ?_
        refine wq_region_lit (.inl rfl) ?_
        refine r_t hst trivial rfl (x_move hst rfl) ?_; intro a hst
        refine r_t hst trivial rfl (x_arI (r := w64 (i_22 + 1)) hst rfl rfl rfl) ?_; intro a hst
        refine r_t hst trivial rfl (x_assign hst rfl) ?_; intro a hst
        refine wpL_nil ?_
        refine then_normal ?_
        exact ⟨k_28, Nat.lt_succ_self _, (minS s_20 x40.Least), (maxS s_21 x41.Limit), (w64 (i_22 + 1)), H, hst.keep _ ⟨rfl, rfl, rfl, rfl, rfl, rfl, rfl, trivial⟩, hsh.pick []⟩
      · rw [if_neg c37] at H
        replace c37 := Bool.eq_false_iff.2 c37
        refine wq_condF hst rfl c37 ?_
        refine wq_exit ?_
        refine then_exit ?_
        refine then_exit ?_
        refine block_hit ?_
        refine then_normal ?_
        refine wq_seq ?_
        refine wq_region_lit (.inl rfl) ?_
        refine r_t hst trivial rfl (x_move hst rfl) ?_; intro a hst
        refine r_t hst trivial rfl (x_move hst rfl) ?_; intro a hst
        refine r_t hst trivial rfl (x_assign hst rfl) ?_; intro a hst
        refine r_t hst trivial rfl (x_assign hst rfl) ?_; intro a hst
        refine r_t hst trivial rfl (x_assign hst rfl) ?_; intro a hst
        refine wpL_nil ?_
        refine then_normal ?_
        refine wq_ret ?_
        obtain rfl := Option.some.inj H
        exact ret3 hst rfl rfl rfl rfl ⟨rfl, hsh.pick []⟩

set_option maxHeartbeats 4000000 in
set_option maxRecDepth 100000 in
theorem version_may.calls (w : World) (a0 : File) (r : Bool) (h : version_may a0 = some r) :
    Calls Try.prog 37 ([.agg #[.int .i64 a0.Number, .int .i64 a0.Size, .string a0.Least, .string a0.Limit, .int .u64 a0.Low, .int .u64 a0.High]] : List Value).toArray w fun e w' => e = .returned (.bool r) ∧ SH (fun _ => False) w w' [] := by
 have H := h
 clear h
 unfold version_may at H
 refine calls_enter Try.func37 rfl rfl ?_
 intro a hst
 have hsh := SH.zero (fun _ => False) w
 refine wq_seq ?_
 refine wq_region_lit (.inl rfl) ?_
 refine r_box hst hsh trivial rfl rfl rfl ?_
 intro g1 a w2 hgg1 hsh hst
 refine r_t hst trivial rfl (x_assign hst rfl) ?_; intro a hst
 refine wpL_nil ?_
 refine then_normal ?_
 refine wq_seq ?_
 refine wq_region_lit (.inl rfl) ?_
 refine r_t hst trivial rfl (x_fieldAddr (j' := 0) hst fa_43_0 rfl rfl) ?_; intro a hst
 refine r_t hst trivial rfl (x_loadB (i := 0) hst hsh sc_3 rfl rfl rfl) ?_; intro a hst
 refine r_t hst trivial rfl (x_cmpI (b := decide (1 ≤ a0.Number)) hst rfl rfl rfl) ?_; intro a hst
 refine r_t hst trivial rfl (x_move hst rfl) ?_; intro a hst
 refine wl_join0 (Δ := []) (N := Try.f37.ntmps) 8 [(1, .pointer (some ⟨g1, 0, none⟩)), (2, .bool false), (10, .bool ((decide (1 ≤ a0.Number)) && (decide (a0.Number ≤ 2147483647))))] ?_ ?_
 · intro a hst
   refine r_t hst trivial rfl (x_move hst rfl) ?_; intro a hst
   refine wl_join0 (Δ := []) (N := Try.f37.ntmps) 13 [(1, .pointer (some ⟨g1, 0, none⟩)), (2, .bool false), (15, .bool (((decide (1 ≤ a0.Number)) && (decide (a0.Number ≤ 2147483647))) && (decide (1 ≤ a0.Size))))] ?_ ?_
   · intro a hst
     refine r_t hst trivial rfl (x_move hst rfl) ?_; intro a hst
     refine wl_join0 (Δ := []) (N := Try.f37.ntmps) 18 [(1, .pointer (some ⟨g1, 0, none⟩)), (2, .bool false), (20, .bool ((((decide (1 ≤ a0.Number)) && (decide (a0.Number ≤ 2147483647))) && (decide (1 ≤ a0.Size))) && (decide (a0.Size ≤ 268435456))))] ?_ ?_
     · intro a hst
       refine r_t hst trivial rfl (x_move hst rfl) ?_; intro a hst
       refine wl_join0 (Δ := []) (N := Try.f37.ntmps) 24 [(1, .pointer (some ⟨g1, 0, none⟩)), (2, .bool false), (26, .bool (((((decide (1 ≤ a0.Number)) && (decide (a0.Number ≤ 2147483647))) && (decide (1 ≤ a0.Size))) && (decide (a0.Size ≤ 268435456))) && (decide (1 ≤ (a0.Least.size : Int)))))] ?_ ?_
       · intro a hst
         refine r_t hst trivial rfl (x_move hst rfl) ?_; intro a hst
         refine wl_join0 (Δ := []) (N := Try.f37.ntmps) 30 [(1, .pointer (some ⟨g1, 0, none⟩)), (2, .bool false), (32, .bool ((((((decide (1 ≤ a0.Number)) && (decide (a0.Number ≤ 2147483647))) && (decide (1 ≤ a0.Size))) && (decide (a0.Size ≤ 268435456))) && (decide (1 ≤ (a0.Least.size : Int)))) && (decide ((a0.Least.size : Int) ≤ 1024))))] ?_ ?_
         · intro a hst
           refine r_t hst trivial rfl (x_move hst rfl) ?_; intro a hst
           refine wl_join0 (Δ := []) (N := Try.f37.ntmps) 37 [(1, .pointer (some ⟨g1, 0, none⟩)), (2, .bool false), (39, .bool (((((((decide (1 ≤ a0.Number)) && (decide (a0.Number ≤ 2147483647))) && (decide (1 ≤ a0.Size))) && (decide (a0.Size ≤ 268435456))) && (decide (1 ≤ (a0.Least.size : Int)))) && (decide ((a0.Least.size : Int) ≤ 1024))) && (sLt a0.Least a0.Limit)))] ?_ ?_
           · intro a hst
             refine r_t hst trivial rfl (x_move hst rfl) ?_; intro a hst
             refine wl_join0 (Δ := []) (N := Try.f37.ntmps) 43 [(1, .pointer (some ⟨g1, 0, none⟩)), (2, .bool false), (45, .bool ((((((((decide (1 ≤ a0.Number)) && (decide (a0.Number ≤ 2147483647))) && (decide (1 ≤ a0.Size))) && (decide (a0.Size ≤ 268435456))) && (decide (1 ≤ (a0.Least.size : Int)))) && (decide ((a0.Least.size : Int) ≤ 1024))) && (sLt a0.Least a0.Limit)) && (decide ((a0.Limit.size : Int) ≤ 1025))))] ?_ ?_
             · intro a hst
               refine r_t hst trivial rfl (x_move hst rfl) ?_; intro a hst
               refine wl_join0 (Δ := []) (N := Try.f37.ntmps) 48 [(1, .pointer (some ⟨g1, 0, none⟩)), (2, .bool false), (50, .bool (((((((((decide (1 ≤ a0.Number)) && (decide (a0.Number ≤ 2147483647))) && (decide (1 ≤ a0.Size))) && (decide (a0.Size ≤ 268435456))) && (decide (1 ≤ (a0.Least.size : Int)))) && (decide ((a0.Least.size : Int) ≤ 1024))) && (sLt a0.Least a0.Limit)) && (decide ((a0.Limit.size : Int) ≤ 1025))) && (decide (1 ≤ a0.Low))))] ?_ ?_
               · intro a hst
                 refine r_t hst trivial rfl (x_move hst rfl) ?_; intro a hst
                 refine wl_join0 (Δ := []) (N := Try.f37.ntmps) 55 [(1, .pointer (some ⟨g1, 0, none⟩)), (2, .bool false), (57, .bool ((((((((((decide (1 ≤ a0.Number)) && (decide (a0.Number ≤ 2147483647))) && (decide (1 ≤ a0.Size))) && (decide (a0.Size ≤ 268435456))) && (decide (1 ≤ (a0.Least.size : Int)))) && (decide ((a0.Least.size : Int) ≤ 1024))) && (sLt a0.Least a0.Limit)) && (decide ((a0.Limit.size : Int) ≤ 1025))) && (decide (1 ≤ a0.Low))) && (decide (a0.Low ≤ a0.High))))] ?_ ?_
                 · intro a hst
                   refine r_t hst trivial rfl (x_move hst rfl) ?_; intro a hst
                   refine wl_join0 (Δ := []) (N := Try.f37.ntmps) 60 [(2, .bool false), (62, .bool (((((((((((decide (1 ≤ a0.Number)) && (decide (a0.Number ≤ 2147483647))) && (decide (1 ≤ a0.Size))) && (decide (a0.Size ≤ 268435456))) && (decide (1 ≤ (a0.Least.size : Int)))) && (decide ((a0.Least.size : Int) ≤ 1024))) && (sLt a0.Least a0.Limit)) && (decide ((a0.Limit.size : Int) ≤ 1025))) && (decide (1 ≤ a0.Low))) && (decide (a0.Low ≤ a0.High))) && (decide (a0.High ≤ 72057594037927935))))] ?_ ?_
                   · intro a hst
                     refine r_t hst trivial rfl (x_assign hst rfl) ?_; intro a hst
                     refine wpL_nil ?_
                     refine then_normal ?_
                     refine wq_ret ?_
                     obtain rfl := Option.some.inj H
                     exact ret1 hst rfl rfl ⟨rfl, hsh.pick []⟩
                   · intro hj
                     by_cases c12 : ((((((((((decide (1 ≤ a0.Number)) && (decide (a0.Number ≤ 2147483647))) && (decide (1 ≤ a0.Size))) && (decide (a0.Size ≤ 268435456))) && (decide (1 ≤ (a0.Least.size : Int)))) && (decide ((a0.Least.size : Int) ≤ 1024))) && (sLt a0.Least a0.Limit)) && (decide ((a0.Limit.size : Int) ≤ 1025))) && (decide (1 ≤ a0.Low))) && (decide (a0.Low ≤ a0.High))) = true
                     · refine r_t hst (wt_of 58 rfl rfl c12) rfl (x_fieldAddr (j' := 5) hst fa_43_5 rfl rfl) ?_; intro a hst
                       refine r_t hst (wt_of 58 rfl rfl c12) rfl (x_loadB (i := 0) hst hsh sc_24 rfl rfl rfl) ?_; intro a hst
                       refine r_t hst (wt_of 58 rfl rfl c12) rfl (x_cmpI (b := decide (a0.High ≤ 72057594037927935)) hst rfl rfl rfl) ?_; intro a hst
                       refine r_t hst trivial rfl (x_andT hst rfl c12 rfl) ?_; intro a hst
                       exact hj _ (hst.keep _ ⟨rfl, rfl, trivial⟩)
                     · replace c12 := Bool.eq_false_iff.2 c12
                       refine r_not hst 58 rfl rfl c12 rfl ?_; intro a hst
                       refine r_not hst 58 rfl rfl c12 rfl ?_; intro a hst
                       refine r_not hst 58 rfl rfl c12 rfl ?_; intro a hst
                       refine r_t hst trivial rfl (x_andF (decide (a0.High ≤ 72057594037927935)) hst rfl c12 rfl) ?_; intro a hst
                       exact hj _ (hst.keep _ ⟨rfl, rfl, trivial⟩)
                 · intro hj
                   by_cases c11 : (((((((((decide (1 ≤ a0.Number)) && (decide (a0.Number ≤ 2147483647))) && (decide (1 ≤ a0.Size))) && (decide (a0.Size ≤ 268435456))) && (decide (1 ≤ (a0.Least.size : Int)))) && (decide ((a0.Least.size : Int) ≤ 1024))) && (sLt a0.Least a0.Limit)) && (decide ((a0.Limit.size : Int) ≤ 1025))) && (decide (1 ≤ a0.Low))) = true
                   · refine r_t hst (wt_of 51 rfl rfl c11) rfl (x_fieldAddr (j' := 4) hst fa_43_4 rfl rfl) ?_; intro a hst
                     refine r_t hst (wt_of 51 rfl rfl c11) rfl (x_loadB (i := 0) hst hsh sc_24 rfl rfl rfl) ?_; intro a hst
                     refine r_t hst (wt_of 51 rfl rfl c11) rfl (x_fieldAddr (j' := 5) hst fa_43_5 rfl rfl) ?_; intro a hst
                     refine r_t hst (wt_of 51 rfl rfl c11) rfl (x_loadB (i := 0) hst hsh sc_24 rfl rfl rfl) ?_; intro a hst
                     refine r_t hst (wt_of 51 rfl rfl c11) rfl (x_cmpI (b := decide (a0.Low ≤ a0.High)) hst rfl rfl rfl) ?_; intro a hst
                     refine r_t hst trivial rfl (x_andT hst rfl c11 rfl) ?_; intro a hst
                     exact hj _ (hst.keep _ ⟨rfl, rfl, rfl, trivial⟩)
                   · replace c11 := Bool.eq_false_iff.2 c11
                     refine r_not hst 51 rfl rfl c11 rfl ?_; intro a hst
                     refine r_not hst 51 rfl rfl c11 rfl ?_; intro a hst
                     refine r_not hst 51 rfl rfl c11 rfl ?_; intro a hst
                     refine r_not hst 51 rfl rfl c11 rfl ?_; intro a hst
                     refine r_not hst 51 rfl rfl c11 rfl ?_; intro a hst
                     refine r_t hst trivial rfl (x_andF (decide (a0.Low ≤ a0.High)) hst rfl c11 rfl) ?_; intro a hst
                     exact hj _ (hst.keep _ ⟨rfl, rfl, rfl, trivial⟩)
               · intro hj
                 by_cases c10 : ((((((((decide (1 ≤ a0.Number)) && (decide (a0.Number ≤ 2147483647))) && (decide (1 ≤ a0.Size))) && (decide (a0.Size ≤ 268435456))) && (decide (1 ≤ (a0.Least.size : Int)))) && (decide ((a0.Least.size : Int) ≤ 1024))) && (sLt a0.Least a0.Limit)) && (decide ((a0.Limit.size : Int) ≤ 1025))) = true
                 · refine r_t hst (wt_of 46 rfl rfl c10) rfl (x_fieldAddr (j' := 4) hst fa_43_4 rfl rfl) ?_; intro a hst
                   refine r_t hst (wt_of 46 rfl rfl c10) rfl (x_loadB (i := 0) hst hsh sc_24 rfl rfl rfl) ?_; intro a hst
                   refine r_t hst (wt_of 46 rfl rfl c10) rfl (x_cmpI (b := decide (1 ≤ a0.Low)) hst rfl rfl rfl) ?_; intro a hst
                   refine r_t hst trivial rfl (x_andT hst rfl c10 rfl) ?_; intro a hst
                   exact hj _ (hst.keep _ ⟨rfl, rfl, rfl, trivial⟩)
                 · replace c10 := Bool.eq_false_iff.2 c10
                   refine r_not hst 46 rfl rfl c10 rfl ?_; intro a hst
                   refine r_not hst 46 rfl rfl c10 rfl ?_; intro a hst
                   refine r_not hst 46 rfl rfl c10 rfl ?_; intro a hst
                   refine r_t hst trivial rfl (x_andF (decide (1 ≤ a0.Low)) hst rfl c10 rfl) ?_; intro a hst
                   exact hj _ (hst.keep _ ⟨rfl, rfl, rfl, trivial⟩)
             · intro hj
               by_cases c9 : (((((((decide (1 ≤ a0.Number)) && (decide (a0.Number ≤ 2147483647))) && (decide (1 ≤ a0.Size))) && (decide (a0.Size ≤ 268435456))) && (decide (1 ≤ (a0.Least.size : Int)))) && (decide ((a0.Least.size : Int) ≤ 1024))) && (sLt a0.Least a0.Limit)) = true
               · refine r_t hst (wt_of 40 rfl rfl c9) rfl (x_fieldAddr (j' := 3) hst fa_43_3 rfl rfl) ?_; intro a hst
                 refine r_t hst (wt_of 40 rfl rfl c9) rfl (x_loadB (i := 0) hst hsh sc_9 rfl rfl rfl) ?_; intro a hst
                 refine r_t hst (wt_of 40 rfl rfl c9) rfl (x_lenStr hst Try.underlying9 rfl) ?_; intro a hst
                 refine r_t hst (wt_of 40 rfl rfl c9) rfl (x_cmpI (b := decide ((a0.Limit.size : Int) ≤ 1025)) hst rfl rfl rfl) ?_; intro a hst
                 refine r_t hst trivial rfl (x_andT hst rfl c9 rfl) ?_; intro a hst
                 exact hj _ (hst.keep _ ⟨rfl, rfl, rfl, trivial⟩)
               · replace c9 := Bool.eq_false_iff.2 c9
                 refine r_not hst 40 rfl rfl c9 rfl ?_; intro a hst
                 refine r_not hst 40 rfl rfl c9 rfl ?_; intro a hst
                 refine r_not hst 40 rfl rfl c9 rfl ?_; intro a hst
                 refine r_not hst 40 rfl rfl c9 rfl ?_; intro a hst
                 refine r_t hst trivial rfl (x_andF (decide ((a0.Limit.size : Int) ≤ 1025)) hst rfl c9 rfl) ?_; intro a hst
                 exact hj _ (hst.keep _ ⟨rfl, rfl, rfl, trivial⟩)
           · intro hj
             by_cases c8 : ((((((decide (1 ≤ a0.Number)) && (decide (a0.Number ≤ 2147483647))) && (decide (1 ≤ a0.Size))) && (decide (a0.Size ≤ 268435456))) && (decide (1 ≤ (a0.Least.size : Int)))) && (decide ((a0.Least.size : Int) ≤ 1024))) = true
             · refine r_t hst (wt_of 33 rfl rfl c8) rfl (x_fieldAddr (j' := 2) hst fa_43_2 rfl rfl) ?_; intro a hst
               refine r_t hst (wt_of 33 rfl rfl c8) rfl (x_loadB (i := 0) hst hsh sc_9 rfl rfl rfl) ?_; intro a hst
               refine r_t hst (wt_of 33 rfl rfl c8) rfl (x_fieldAddr (j' := 3) hst fa_43_3 rfl rfl) ?_; intro a hst
               refine r_t hst (wt_of 33 rfl rfl c8) rfl (x_loadB (i := 0) hst hsh sc_9 rfl rfl rfl) ?_; intro a hst
               refine r_t hst (wt_of 33 rfl rfl c8) rfl (x_cmpS (b := sLt a0.Least a0.Limit) hst rfl rfl rfl) ?_; intro a hst
               refine r_t hst trivial rfl (x_andT hst rfl c8 rfl) ?_; intro a hst
               exact hj _ (hst.keep _ ⟨rfl, rfl, rfl, trivial⟩)
             · replace c8 := Bool.eq_false_iff.2 c8
               refine r_not hst 33 rfl rfl c8 rfl ?_; intro a hst
               refine r_not hst 33 rfl rfl c8 rfl ?_; intro a hst
               refine r_not hst 33 rfl rfl c8 rfl ?_; intro a hst
               refine r_not hst 33 rfl rfl c8 rfl ?_; intro a hst
               refine r_not hst 33 rfl rfl c8 rfl ?_; intro a hst
               refine r_t hst trivial rfl (x_andF (sLt a0.Least a0.Limit) hst rfl c8 rfl) ?_; intro a hst
               exact hj _ (hst.keep _ ⟨rfl, rfl, rfl, trivial⟩)
         · intro hj
           by_cases c7 : (((((decide (1 ≤ a0.Number)) && (decide (a0.Number ≤ 2147483647))) && (decide (1 ≤ a0.Size))) && (decide (a0.Size ≤ 268435456))) && (decide (1 ≤ (a0.Least.size : Int)))) = true
           · refine r_t hst (wt_of 27 rfl rfl c7) rfl (x_fieldAddr (j' := 2) hst fa_43_2 rfl rfl) ?_; intro a hst
             refine r_t hst (wt_of 27 rfl rfl c7) rfl (x_loadB (i := 0) hst hsh sc_9 rfl rfl rfl) ?_; intro a hst
             refine r_t hst (wt_of 27 rfl rfl c7) rfl (x_lenStr hst Try.underlying9 rfl) ?_; intro a hst
             refine r_t hst (wt_of 27 rfl rfl c7) rfl (x_cmpI (b := decide ((a0.Least.size : Int) ≤ 1024)) hst rfl rfl rfl) ?_; intro a hst
             refine r_t hst trivial rfl (x_andT hst rfl c7 rfl) ?_; intro a hst
             exact hj _ (hst.keep _ ⟨rfl, rfl, rfl, trivial⟩)
           · replace c7 := Bool.eq_false_iff.2 c7
             refine r_not hst 27 rfl rfl c7 rfl ?_; intro a hst
             refine r_not hst 27 rfl rfl c7 rfl ?_; intro a hst
             refine r_not hst 27 rfl rfl c7 rfl ?_; intro a hst
             refine r_not hst 27 rfl rfl c7 rfl ?_; intro a hst
             refine r_t hst trivial rfl (x_andF (decide ((a0.Least.size : Int) ≤ 1024)) hst rfl c7 rfl) ?_; intro a hst
             exact hj _ (hst.keep _ ⟨rfl, rfl, rfl, trivial⟩)
       · intro hj
         by_cases c6 : ((((decide (1 ≤ a0.Number)) && (decide (a0.Number ≤ 2147483647))) && (decide (1 ≤ a0.Size))) && (decide (a0.Size ≤ 268435456))) = true
         · refine r_t hst (wt_of 21 rfl rfl c6) rfl (x_fieldAddr (j' := 2) hst fa_43_2 rfl rfl) ?_; intro a hst
           refine r_t hst (wt_of 21 rfl rfl c6) rfl (x_loadB (i := 0) hst hsh sc_9 rfl rfl rfl) ?_; intro a hst
           refine r_t hst (wt_of 21 rfl rfl c6) rfl (x_lenStr hst Try.underlying9 rfl) ?_; intro a hst
           refine r_t hst (wt_of 21 rfl rfl c6) rfl (x_cmpI (b := decide (1 ≤ (a0.Least.size : Int))) hst rfl rfl rfl) ?_; intro a hst
           refine r_t hst trivial rfl (x_andT hst rfl c6 rfl) ?_; intro a hst
           exact hj _ (hst.keep _ ⟨rfl, rfl, rfl, trivial⟩)
         · replace c6 := Bool.eq_false_iff.2 c6
           refine r_not hst 21 rfl rfl c6 rfl ?_; intro a hst
           refine r_not hst 21 rfl rfl c6 rfl ?_; intro a hst
           refine r_not hst 21 rfl rfl c6 rfl ?_; intro a hst
           refine r_not hst 21 rfl rfl c6 rfl ?_; intro a hst
           refine r_t hst trivial rfl (x_andF (decide (1 ≤ (a0.Least.size : Int))) hst rfl c6 rfl) ?_; intro a hst
           exact hj _ (hst.keep _ ⟨rfl, rfl, rfl, trivial⟩)
     · intro hj
       by_cases c5 : (((decide (1 ≤ a0.Number)) && (decide (a0.Number ≤ 2147483647))) && (decide (1 ≤ a0.Size))) = true
       · refine r_t hst (wt_of 16 rfl rfl c5) rfl (x_fieldAddr (j' := 1) hst fa_43_1 rfl rfl) ?_; intro a hst
         refine r_t hst (wt_of 16 rfl rfl c5) rfl (x_loadB (i := 0) hst hsh sc_3 rfl rfl rfl) ?_; intro a hst
         refine r_t hst (wt_of 16 rfl rfl c5) rfl (x_cmpI (b := decide (a0.Size ≤ 268435456)) hst rfl rfl rfl) ?_; intro a hst
         refine r_t hst trivial rfl (x_andT hst rfl c5 rfl) ?_; intro a hst
         exact hj _ (hst.keep _ ⟨rfl, rfl, rfl, trivial⟩)
       · replace c5 := Bool.eq_false_iff.2 c5
         refine r_not hst 16 rfl rfl c5 rfl ?_; intro a hst
         refine r_not hst 16 rfl rfl c5 rfl ?_; intro a hst
         refine r_not hst 16 rfl rfl c5 rfl ?_; intro a hst
         refine r_t hst trivial rfl (x_andF (decide (a0.Size ≤ 268435456)) hst rfl c5 rfl) ?_; intro a hst
         exact hj _ (hst.keep _ ⟨rfl, rfl, rfl, trivial⟩)
   · intro hj
     by_cases c4 : ((decide (1 ≤ a0.Number)) && (decide (a0.Number ≤ 2147483647))) = true
     · refine r_t hst (wt_of 11 rfl rfl c4) rfl (x_fieldAddr (j' := 1) hst fa_43_1 rfl rfl) ?_; intro a hst
       refine r_t hst (wt_of 11 rfl rfl c4) rfl (x_loadB (i := 0) hst hsh sc_3 rfl rfl rfl) ?_; intro a hst
       refine r_t hst (wt_of 11 rfl rfl c4) rfl (x_cmpI (b := decide (1 ≤ a0.Size)) hst rfl rfl rfl) ?_; intro a hst
       refine r_t hst trivial rfl (x_andT hst rfl c4 rfl) ?_; intro a hst
       exact hj _ (hst.keep _ ⟨rfl, rfl, rfl, trivial⟩)
     · replace c4 := Bool.eq_false_iff.2 c4
       refine r_not hst 11 rfl rfl c4 rfl ?_; intro a hst
       refine r_not hst 11 rfl rfl c4 rfl ?_; intro a hst
       refine r_not hst 11 rfl rfl c4 rfl ?_; intro a hst
       refine r_t hst trivial rfl (x_andF (decide (1 ≤ a0.Size)) hst rfl c4 rfl) ?_; intro a hst
       exact hj _ (hst.keep _ ⟨rfl, rfl, rfl, trivial⟩)
 · intro hj
   by_cases c3 : (decide (1 ≤ a0.Number)) = true
   · refine r_t hst (wt_of 6 rfl rfl c3) rfl (x_fieldAddr (j' := 0) hst fa_43_0 rfl rfl) ?_; intro a hst
     refine r_t hst (wt_of 6 rfl rfl c3) rfl (x_loadB (i := 0) hst hsh sc_3 rfl rfl rfl) ?_; intro a hst
     refine r_t hst (wt_of 6 rfl rfl c3) rfl (x_cmpI (b := decide (a0.Number ≤ 2147483647)) hst rfl rfl rfl) ?_; intro a hst
     refine r_t hst trivial rfl (x_andT hst rfl c3 rfl) ?_; intro a hst
     exact hj _ (hst.keep _ ⟨rfl, rfl, rfl, trivial⟩)
   · replace c3 := Bool.eq_false_iff.2 c3
     refine r_not hst 6 rfl rfl c3 rfl ?_; intro a hst
     refine r_not hst 6 rfl rfl c3 rfl ?_; intro a hst
     refine r_not hst 6 rfl rfl c3 rfl ?_; intro a hst
     refine r_t hst trivial rfl (x_andF (decide (a0.Number ≤ 2147483647)) hst rfl c3 rfl) ?_; intro a hst
     exact hj _ (hst.keep _ ⟨rfl, rfl, rfl, trivial⟩)

set_option maxHeartbeats 4000000 in
set_option maxRecDepth 100000 in
theorem version_Valid.calls (k : Nat) (w : World) (va0 : Value) (Za0 : Nat → Prop) (wra0 : World) (hsa0 : Same Za0 wra0 w) (a0 : (List (List File))) (hra0 : RD (Kd.slice 43 k_File) Za0 wra0 va0 a0) (r : Bool) (h : version_Valid k a0 = some r) :
    Calls Try.prog 12 ([va0] : List Value).toArray w fun e w' => e = .returned (.bool r) ∧ SH (fun _ => False) w w' [] := by
 have H := h
 clear h
 unfold version_Valid at H
 refine calls_enter Try.func12 rfl rfl ?_
 intro a hst
 have hsh := SH.zero (fun _ => False) w
 refine wq_seq ?_
 refine wq_region_lit (.inl rfl) ?_
 refine r_t hst trivial rfl (x_assign hst rfl) ?_; intro a hst
 refine wpL_nil ?_
 refine then_normal ?_
 refine wq_seq ?_
 refine wq_seq ?_
 refine wq_region_lit (.inl rfl) ?_
 refine r_t hst trivial rfl (x_move hst rfl) ?_; intro a hst
 refine r_t hst trivial rfl (x_lenSl hst Try.underlying23 rfl hra0.slen) ?_; intro a hst
 refine r_t hst trivial rfl (x_cmpI (b := decide ((a0.length : Int) < 1)) hst rfl rfl rfl) ?_; intro a hst
 refine r_t hst trivial rfl (x_move hst rfl) ?_; intro a hst
 refine wl_join0 (Δ := []) (N := Try.f12.ntmps) 8 [(0, va0), (2, .bool false), (15, .bool ((decide ((a0.length : Int) < 1)) || (decide (7 < (a0.length : Int)))))] ?_ ?_
 · intro a hst
   refine wpL_nil ?_
   refine then_normal ?_
   by_cases c4 : ((decide ((a0.length : Int) < 1)) || (decide (7 < (a0.length : Int)))) = true
   · rw [if_pos c4] at H
     refine wq_condT hst rfl c4 ?_
     refine wq_seq ?_
     refine wq_region_lit (.inl rfl) ?_
     refine r_t hst trivial rfl (x_assign hst rfl) ?_; intro a hst
     refine wpL_nil ?_
     refine then_normal ?_
     refine wq_ret ?_
     refine then_ret ?_
     obtain rfl := Option.some.inj H
     exact ret1 hst rfl rfl ⟨rfl, hsh.pick []⟩
   · rw [if_neg c4] at H
     replace c4 := Bool.eq_false_iff.2 c4
     refine wq_condF hst rfl c4 ?_
     refine wq_skip ?_
     refine then_normal ?_
     refine wq_seq ?_
     refine wq_region_lit (.inl rfl) ?_
     refine r_makeMap (q := .i64) (r := .i64) 3 3 hst hsh trivial rfl ?_
     intro g5 a w6 hgg5 hsh hst
     refine r_t hst trivial rfl (x_assign hst rfl) ?_; intro a hst
     refine wpL_nil ?_
     refine then_normal ?_
     refine wq_seq ?_
     refine wq_seq ?_
     refine wq_region_lit (.inl rfl) ?_
     refine r_t hst trivial rfl (x_move hst rfl) ?_; intro a hst
     refine r_t hst trivial rfl (x_lenSl hst Try.underlying23 rfl hra0.slen) ?_; intro a hst
     refine r_t hst trivial rfl (x_move hst rfl) ?_; intro a hst
     refine wpL_nil ?_
     refine then_normal ?_
     refine wq_block ?_
     refine wq_loop_fuel (fun k_237 a w' => ∃ (l_188 : (List (Int × Int))), ∃ (i_189 : Int), version_Valid.l0 a0 k_237 l_188 i_189 = some r ∧ ST [] Try.f12.ntmps a [(2, .bool false), (3, .map (some g5)), (17, va0), (18, .int .i64 (a0.length : Int)), (19, .int .i64 i_189)] ∧ SH (fun _ => False) w w' [MapI Try.prog .i64 .i64 3 3 g5 l_188]) k ?_ ?_
     · exact ⟨([]), 0, H, hst.keep _ ⟨rfl, rfl, rfl, rfl, rfl, trivial⟩, hsh.pick [0]⟩
     · rintro k_237 a W_190 ⟨l_188, i_189, H, hst, hsh⟩
       cases k_237 with
       | zero => rw [version_Valid.l0] at H; cases H
       | succ k_237 =>
        rw [version_Valid.l0] at H
        refine wq_seq ?_
        refine wq_region_lit (.inl rfl) ?_
        refine r_t hst trivial rfl (x_cmpI (b := decide (i_189 < (a0.length : Int))) hst rfl rfl rfl) ?_; intro a hst
        refine wpL_nil ?_
        refine then_normal ?_
        refine wq_seq ?_
        by_cases c2168 : (decide (i_189 < (a0.length : Int))) = true
        · rw [if_pos c2168] at H
          refine wq_condT hst rfl c2168 ?_
          refine wq_skip ?_
          refine then_normal ?_
          obtain ⟨J_260, hJ_260, H⟩ := Jn.elim H
          refine wq_cut (fun a w' => ∃ (l_258 : (List (Int × Int))), J_260 l_258 = some r ∧ ST [] Try.f12.ntmps a [(2, .bool false), (3, .map (some g5)), (17, va0), (18, .int .i64 (a0.length : Int)), (19, .int .i64 i_189)] ∧ SH (fun _ => False) w w' [MapI Try.prog .i64 .i64 3 3 g5 l_258]) ?_ ?_
          · rintro a W_259 ⟨l_258, H, hst, hsh⟩
            subst hJ_260
            dsimp only at H
            refine wq_region_lit (.inl rfl) ?_
            refine r_t hst trivial rfl (x_arI (r := w64 (i_189 + 1)) hst rfl rfl rfl) ?_; intro a hst
            refine r_t hst trivial rfl (x_move hst rfl) ?_; intro a hst
            refine wpL_nil ?_
            refine then_normal ?_
            exact ⟨k_237, Nat.lt_succ_self _, l_258, (w64 (i_189 + 1)), H, hst.keep _ ⟨rfl, rfl, rfl, rfl, rfl, trivial⟩, hsh.pick [0]⟩
          · refine wq_block ?_
            refine wq_seq ?_
            refine wq_region_lit (.inl rfl) ?_
            refine r_t hst trivial rfl (x_move hst rfl) ?_; intro a hst
            obtain ⟨x2384, hx2384, H⟩ := Option.bind_eq_some_iff.1 H
            refine r_t hst trivial rfl (x_indexAddr hst Try.underlying23 el_39 rfl rfl hra0 hx2384) ?_; intro a hst
            obtain ⟨_, hk2385, hc2386⟩ := RD.cells2 hra0 hx2384
            obtain ⟨v2387, rfl, hr2388⟩ := hk2385
            refine r_t hst trivial rfl (x_loadC hst sc_39 rfl (hc2386 _ (Same.sh0 hsa0 hsh) 0 _ rfl)) ?_; intro a hst
            refine r_t hst trivial rfl (x_assign hst rfl) ?_; intro a hst
            refine r_t hst trivial rfl (x_assign hst rfl) ?_; intro a hst
            refine wpL_nil ?_
            refine then_normal ?_
            refine wq_seq ?_
            refine wq_region_lit (.inl rfl) ?_
            refine r_t hst trivial rfl (x_move hst rfl) ?_; intro a hst
            refine r_t hst trivial rfl (x_lenSl hst Try.underlying39 rfl hr2388.slen) ?_; intro a hst
            refine r_t hst trivial rfl (x_move hst rfl) ?_; intro a hst
            refine wpL_nil ?_
            refine then_normal ?_
            refine wq_block ?_
            refine wq_loop_fuel (fun k_277 a w' => ∃ (l_268 : (List (Int × Int))), ∃ (i_269 : Int), version_Valid.l1 i_189 J_260 x2384 k_277 l_268 i_269 = some r ∧ ST [] Try.f12.ntmps a [(2, .bool false), (3, .map (some g5)), (4, .int .i64 i_189), (5, v2387), (17, va0), (18, .int .i64 (a0.length : Int)), (19, .int .i64 i_189), (24, v2387), (25, .int .i64 (x2384.length : Int)), (26, .int .i64 i_269)] ∧ SH (fun _ => False) w w' [MapI Try.prog .i64 .i64 3 3 g5 l_268]) k_237 ?_ ?_
            · exact ⟨l_188, 0, H, hst.keep _ ⟨rfl, rfl, rfl, rfl, rfl, rfl, rfl, rfl, rfl, rfl, trivial⟩, hsh.pick [0]⟩
            · rintro k_277 a W_270 ⟨l_268, i_269, H, hst, hsh⟩
              cases k_277 with
              | zero => rw [version_Valid.l1] at H; cases H
              | succ k_277 =>
               rw [version_Valid.l1] at H
               refine wq_seq ?_
               refine wq_region_lit (.inl rfl) ?_
               refine r_t hst trivial rfl (x_cmpI (b := decide (i_269 < (x2384.length : Int))) hst rfl rfl rfl) ?_; intro a hst
               refine wpL_nil ?_
               refine then_normal ?_
               refine wq_seq ?_
               by_cases c2530 : (decide (i_269 < (x2384.length : Int))) = true
               · rw [if_pos c2530] at H
                 refine wq_condT hst rfl c2530 ?_
                 refine wq_skip ?_
                 refine then_normal ?_
                 obtain ⟨J_280, hJ_280, H⟩ := Jn.elim H
                 refine wq_cut (fun a w' => ∃ (l_278 : (List (Int × Int))), J_280 l_278 = some r ∧ ST [] Try.f12.ntmps a [(2, .bool false), (3, .map (some g5)), (4, .int .i64 i_189), (5, v2387), (17, va0), (18, .int .i64 (a0.length : Int)), (19, .int .i64 i_189), (24, v2387), (25, .int .i64 (x2384.length : Int)), (26, .int .i64 i_269)] ∧ SH (fun _ => False) w w' [MapI Try.prog .i64 .i64 3 3 g5 l_278]) ?_ ?_
                 · rintro a W_279 ⟨l_278, H, hst, hsh⟩
                   subst hJ_280
                   dsimp only at H
                   refine wq_region_lit (.inl rfl) ?_
                   refine r_t hst trivial rfl (x_arI (r := w64 (i_269 + 1)) hst rfl rfl rfl) ?_; intro a hst
                   refine r_t hst trivial rfl (x_move hst rfl) ?_; intro a hst
                   refine wpL_nil ?_
                   refine then_normal ?_
                   exact ⟨k_277, Nat.lt_succ_self _, l_278, (w64 (i_269 + 1)), H, hst.keep _ ⟨rfl, rfl, rfl, rfl, rfl, rfl, rfl, rfl, rfl, rfl, trivial⟩, hsh.pick [0]⟩
                 · refine wq_block ?_
                   refine wq_seq ?_
                   refine wq_region_lit (.inl rfl) ?_
                   refine r_t hst trivial rfl (x_move hst rfl) ?_; intro a hst
                   obtain ⟨x2565, hx2565, H⟩ := Option.bind_eq_some_iff.1 H
                   refine r_t hst trivial rfl (x_indexAddr hst Try.underlying39 el_43 rfl rfl hr2388 hx2565) ?_; intro a hst
                   refine r_t hst trivial rfl (x_loadEsF (j := 0) (cs := [.int .i64 x2565.Number, .int .i64 x2565.Size, .string x2565.Least, .string x2565.Limit, .int .u64 x2565.Low, .int .u64 x2565.High]) (ps := [.int .i64 x2565.Number, .int .i64 x2565.Size, .string x2565.Least, .string x2565.Limit, .int .u64 x2565.Low, .int .u64 x2565.High]) hst ag_43 rfl hr2388 (Same.sh0 hsa0 hsh) hx2565 rfl (fun _ h => h) rfl) ?_; intro a hst
                   refine r_alloc hst hsh trivial rfl zr_43 ?_
                   intro g2566 a w2567 hgg2566 hsh hst
                   refine r_t hst trivial rfl (x_assign hst rfl) ?_; intro a hst
                   refine r_storeBs (i := 0) (cs' := [.int .i64 x2565.Number, .int .i64 x2565.Size, .string x2565.Least, .string x2565.Limit, .int .u64 x2565.Low, .int .u64 x2565.High]) (vs := [.int .i64 x2565.Number, .int .i64 x2565.Size, .string x2565.Least, .string x2565.Limit, .int .u64 x2565.Low, .int .u64 x2565.High]) hst hsh trivial ag_43 rfl rfl rfl rfl rfl rfl ?_; intro a w2568 hsh hst
                   refine wpL_nil ?_
                   refine then_normal ?_
                   refine wq_seq ?_
                   refine wq_region_lit (.inl rfl) ?_
                   refine r_t hst trivial rfl (x_move hst rfl) ?_; intro a hst
                   refine r_t hst trivial rfl (x_fieldAddr (j' := 0) hst fa_43_0 rfl rfl) ?_; intro a hst
                   refine r_t hst trivial rfl (x_loadB (i := 0) hst hsh sc_3 rfl rfl rfl) ?_; intro a hst
                   by_cases c2569 : wfi .i64 x2565.Number = true
                   · rw [if_pos c2569] at H
                     refine r_t hst trivial rfl (x_lookupI (i := 1) hst hsh Try.underlying66 Try.underlying3 Try.underlying3 (fun _ => by kernel_rfl) rfl rfl rfl c2569) ?_; intro a hst
                     refine r_t hst trivial rfl (x_arI (r := w64 ((mget l_268 x2565.Number) + 1)) hst rfl rfl rfl) ?_; intro a hst
                     obtain ⟨l2570, hl2570, H⟩ := Option.bind_eq_some_iff.1 H
                     refine r_mapUpdateI (i := 1) hst hsh trivial Try.underlying66 Try.underlying3 Try.underlying3 rfl rfl rfl rfl c2569 hl2570 ?_; intro a w2571 hsh hst
                     refine wpL_nil ?_
                     refine then_normal ?_
                     refine wq_seq ?_
                     refine wq_seq ?_
                     refine wq_region_lit (.inl rfl) ?_
                     refine r_t hst trivial rfl (x_loadBs (i := 1) (ps := [.int .i64 x2565.Number, .int .i64 x2565.Size, .string x2565.Least, .string x2565.Limit, .int .u64 x2565.Low, .int .u64 x2565.High]) hst hsh ag_43 rfl rfl rfl) ?_; intro a hst
                     obtain ⟨r2576, hr2576, H⟩ := Option.bind_eq_some_iff.1 H
                     refine r_callD hst trivial rfl fn_37 rfl (version_may.calls _ x2565 r2576 hr2576) ?_
                     rintro e w2577 ⟨rfl, hc⟩
                     replace hsh := hsh.call0 hc
                     clear hc
                     refine ⟨_, rfl, fun a hst => ?_⟩
                     refine r_t hst trivial rfl (x_notB hst rfl) ?_; intro a hst
                     refine r_t hst trivial rfl (x_move hst rfl) ?_; intro a hst
                     refine wl_join0 (Δ := []) (N := Try.f12.ntmps) 10 [(2, .bool false), (3, .map (some g5)), (4, .int .i64 i_189), (5, v2387), (6, .int .i64 i_269), (7, .pointer (some ⟨g2566, 0, none⟩)), (17, va0), (18, .int .i64 (a0.length : Int)), (19, .int .i64 i_189), (24, v2387), (25, .int .i64 (x2384.length : Int)), (26, .int .i64 i_269), (45, .bool ((!r2576) || (decide (1 < (mget l2570 x2565.Number)))))] ?_ ?_
                     · intro a hst
                       refine wpL_nil ?_
                       refine then_normal ?_
                       by_cases c2579 : ((!r2576) || (decide (1 < (mget l2570 x2565.Number)))) = true
                       · rw [if_pos c2579] at H
                         refine wq_condT hst rfl c2579 ?_
                         refine wq_seq ?_
                         refine wq_region_lit (.inl rfl) ?_
                         refine r_t hst trivial rfl (x_assign hst rfl) ?_; intro a hst
                         refine wpL_nil ?_
                         refine then_normal ?_
                         refine wq_ret ?_
                         refine then_ret ?_
                         refine block_ret ?_
                         refine then_ret ?_
                         refine then_ret ?_
                         refine block_ret ?_
                         refine block_ret ?_
                         refine then_ret ?_
                         refine then_ret ?_
                         refine block_ret ?_
                         refine then_ret ?_
                         obtain rfl := Option.some.inj H
                         exact ret1 hst rfl rfl ⟨rfl, hsh.pick []⟩
                       · rw [if_neg c2579] at H
                         replace c2579 := Bool.eq_false_iff.2 c2579
                         refine wq_condF hst rfl c2579 ?_
                         refine wq_skip ?_
                         refine then_normal ?_
                         refine wq_seq ?_
                         refine wq_seq ?_
                         refine wq_region_lit (.inl rfl) ?_
                         refine r_t hst trivial rfl (x_move hst rfl) ?_; intro a hst
                         refine r_t hst trivial rfl (x_cmpI (b := (i_269 == 0)) hst rfl rfl rfl) ?_; intro a hst
                         refine wpL_nil ?_
                         refine then_normal ?_
                         by_cases c2581 : (i_269 == 0) = true
                         · rw [if_pos c2581] at H
                           refine wq_condT hst rfl c2581 ?_
                           refine wq_exit ?_
                           refine then_exit ?_
                           refine block_hit ?_
                           refine then_normal ?_
                           exact ⟨l2570, H, hst.keep _ ⟨rfl, rfl, rfl, rfl, rfl, rfl, rfl, rfl, rfl, rfl, trivial⟩, hsh.pick [0]⟩
                         · rw [if_neg c2581] at H
                           replace c2581 := Bool.eq_false_iff.2 c2581
                           refine wq_condF hst rfl c2581 ?_
                           refine wq_skip ?_
                           refine then_normal ?_
                           refine wq_seq ?_
                           refine wq_seq ?_
                           refine wq_region_lit (.inl rfl) ?_
                           refine r_t hst trivial rfl (x_move hst rfl) ?_; intro a hst
                           refine r_t hst trivial rfl (x_cmpI (b := (i_189 == 0)) hst rfl rfl rfl) ?_; intro a hst
                           refine wpL_nil ?_
                           refine then_normal ?_
                           by_cases c2589 : (i_189 == 0) = true
                           · rw [if_pos c2589] at H
                             refine wq_condT hst rfl c2589 ?_
                             refine wq_seq ?_
                             refine wq_seq ?_
                             refine wq_region_q (.inl rfl) (fun w' => SH (fun _ => False) w w' [MapI Try.prog .i64 .i64 3 3 g5 l2570, Box g2566 [.int .i64 x2565.Number, .int .i64 x2565.Size, .string x2565.Least, .string x2565.Limit, .int .u64 x2565.Low, .int .u64 x2565.High] 43]) (shut_sh _ _ _) hsh.drew fo (by kernel_rfl) ?_
                             refine q_t hst trivial rfl (fun _ hsh => x_move hst rfl) ?_; intro a hst
                             refine q_t hst trivial rfl (fun _ hsh => x_move hst rfl) ?_; intro a hst
                             refine q_t hst trivial rfl (fun _ hsh => x_arI (r := w64 (i_269 - 1)) hst rfl rfl rfl) ?_; intro a hst
                             obtain ⟨x2593, hx2593, H⟩ := Option.bind_eq_some_iff.1 H
                             refine q_t hst trivial rfl (fun _ hsh => x_indexAddr hst Try.underlying39 el_43 rfl rfl hr2388 hx2593) ?_; intro a hst
                             refine q_t hst trivial rfl (fun _ hsh => x_fieldAddrE (n' := Int.toNat (w64 (i_269 - 1)) * k_File.sz) hst fa_43_0 rfl rfl) ?_; intro a hst
                             refine q_t hst trivial rfl (fun _ hsh => x_loadEF (j := 0) (cs := [.int .i64 x2593.Number, .int .i64 x2593.Size, .string x2593.Least, .string x2593.Limit, .int .u64 x2593.Low, .int .u64 x2593.High]) hst sc_3 rfl hr2388 (Same.sh0 hsa0 hsh) hx2593 rfl (fun _ h => h) rfl) ?_; intro a hst
                             refine q_t hst trivial rfl (fun _ hsh => x_fieldAddr (j' := 0) hst fa_43_0 rfl rfl) ?_; intro a hst
                             refine q_t hst trivial rfl (fun _ hsh => x_loadB (i := 1) hst hsh sc_3 rfl rfl rfl) ?_; intro a hst
                             refine q_t hst trivial rfl (fun _ hsh => x_cmpI (b := decide (x2565.Number ≤ x2593.Number)) hst rfl rfl rfl) ?_; intro a hst
                             refine q_nil ?_
                             intro w2594 hsh
                             refine then_normal ?_
                             by_cases c2595 : (decide (x2565.Number ≤ x2593.Number)) = true
                             · rw [if_pos c2595] at H
                               refine wq_condT hst rfl c2595 ?_
                               refine wq_seq ?_
                               refine wq_region_lit (.inl rfl) ?_
                               refine r_t hst trivial rfl (x_assign hst rfl) ?_; intro a hst
                               refine wpL_nil ?_
                               refine then_normal ?_
                               refine wq_ret ?_
                               refine then_ret ?_
                               refine then_ret ?_
                               refine block_ret ?_
                               refine then_ret ?_
                               refine then_ret ?_
                               refine block_ret ?_
                               refine block_ret ?_
                               refine then_ret ?_
                               refine then_ret ?_
                               refine block_ret ?_
                               refine then_ret ?_
                               obtain rfl := Option.some.inj H
                               exact ret1 hst rfl rfl ⟨rfl, hsh.pick []⟩
                             · rw [if_neg c2595] at H
                               replace c2595 := Bool.eq_false_iff.2 c2595
                               refine wq_condF hst rfl c2595 ?_
                               refine wq_skip ?_
                               refine then_normal ?_
                               refine wq_exit ?_
                               refine then_exit ?_
                               refine block_hit ?_
                               refine then_normal ?_
                               exact ⟨l2570, H, hst.keep _ ⟨rfl, rfl, rfl, rfl, rfl, rfl, rfl, rfl, rfl, rfl, trivial⟩, hsh.pick [0]⟩
                           · rw [if_neg c2589] at H
                             replace c2589 := Bool.eq_false_iff.2 c2589
                             refine wq_condF hst rfl c2589 ?_
                             refine wq_skip ?_
                             refine then_normal ?_
                             refine wq_seq ?_
                             refine wq_region_q (.inl rfl) (fun w' => SH (fun _ => False) w w' [MapI Try.prog .i64 .i64 3 3 g5 l2570, Box g2566 [.int .i64 x2565.Number, .int .i64 x2565.Size, .string x2565.Least, .string x2565.Limit, .int .u64 x2565.Low, .int .u64 x2565.High] 43]) (shut_sh _ _ _) hsh.drew fo (by kernel_rfl) ?_
                             refine q_t hst trivial rfl (fun _ hsh => x_move hst rfl) ?_; intro a hst
                             refine q_t hst trivial rfl (fun _ hsh => x_move hst rfl) ?_; intro a hst
                             refine q_t hst trivial rfl (fun _ hsh => x_arI (r := w64 (i_269 - 1)) hst rfl rfl rfl) ?_; intro a hst
                             obtain ⟨x2596, hx2596, H⟩ := Option.bind_eq_some_iff.1 H
                             refine q_t hst trivial rfl (fun _ hsh => x_indexAddr hst Try.underlying39 el_43 rfl rfl hr2388 hx2596) ?_; intro a hst
                             refine q_t hst trivial rfl (fun _ hsh => x_fieldAddrE (n' := Int.toNat (w64 (i_269 - 1)) * k_File.sz + 3) hst fa_43_3 rfl rfl) ?_; intro a hst
                             refine q_t hst trivial rfl (fun _ hsh => x_loadEF (j := 3) (cs := [.int .i64 x2596.Number, .int .i64 x2596.Size, .string x2596.Least, .string x2596.Limit, .int .u64 x2596.Low, .int .u64 x2596.High]) hst sc_9 rfl hr2388 (Same.sh0 hsa0 hsh) hx2596 rfl (fun _ h => h) rfl) ?_; intro a hst
                             refine q_t hst trivial rfl (fun _ hsh => x_fieldAddr (j' := 2) hst fa_43_2 rfl rfl) ?_; intro a hst
                             refine q_t hst trivial rfl (fun _ hsh => x_loadB (i := 1) hst hsh sc_9 rfl rfl rfl) ?_; intro a hst
                             refine q_t hst trivial rfl (fun _ hsh => x_cmpS (b := (!(sLt x2596.Limit x2565.Least || sEq x2596.Limit x2565.Least))) hst rfl rfl rfl) ?_; intro a hst
                             refine q_nil ?_
                             intro w2597 hsh
                             refine then_normal ?_
                             by_cases c2598 : (!(sLt x2596.Limit x2565.Least || sEq x2596.Limit x2565.Least)) = true
                             · rw [if_pos c2598] at H
                               refine wq_condT hst rfl c2598 ?_
                               refine wq_seq ?_
                               refine wq_region_lit (.inl rfl) ?_
                               refine r_t hst trivial rfl (x_assign hst rfl) ?_; intro a hst
                               refine wpL_nil ?_
                               refine then_normal ?_
                               refine wq_ret ?_
                               refine block_ret ?_
                               refine then_ret ?_
                               refine then_ret ?_
                               refine block_ret ?_
                               refine block_ret ?_
                               refine then_ret ?_
                               refine then_ret ?_
                               refine block_ret ?_
                               refine then_ret ?_
                               obtain rfl := Option.some.inj H
                               exact ret1 hst rfl rfl ⟨rfl, hsh.pick []⟩
                             · rw [if_neg c2598] at H
                               replace c2598 := Bool.eq_false_iff.2 c2598
                               refine wq_condF hst rfl c2598 ?_
                               refine wq_skip ?_
                               refine block_normal ?_
                               refine then_normal ?_
                               exact ⟨l2570, H, hst.keep _ ⟨rfl, rfl, rfl, rfl, rfl, rfl, rfl, rfl, rfl, rfl, trivial⟩, hsh.pick [0]⟩
                     · intro hj
                       by_cases c2578 : (!r2576) = true
                       · refine r_not hst 39 rfl rfl c2578 rfl ?_; intro a hst
                         refine r_not hst 39 rfl rfl c2578 rfl ?_; intro a hst
                         refine r_not hst 39 rfl rfl c2578 rfl ?_; intro a hst
                         refine r_not hst 39 rfl rfl c2578 rfl ?_; intro a hst
                         refine r_not hst 39 rfl rfl c2578 rfl ?_; intro a hst
                         refine r_t hst trivial rfl (x_orT (decide (1 < (mget l2570 x2565.Number))) hst rfl c2578 rfl) ?_; intro a hst
                         exact hj _ (hst.keep _ ⟨rfl, rfl, rfl, rfl, rfl, rfl, rfl, rfl, rfl, rfl, rfl, rfl, rfl, trivial⟩)
                       · replace c2578 := Bool.eq_false_iff.2 c2578
                         refine r_t hst (wt_of 39 rfl rfl c2578) rfl (x_move hst rfl) ?_; intro a hst
                         refine r_t hst (wt_of 39 rfl rfl c2578) rfl (x_fieldAddr (j' := 0) hst fa_43_0 rfl rfl) ?_; intro a hst
                         refine r_t hst (wt_of 39 rfl rfl c2578) rfl (x_loadB (i := 1) hst hsh sc_3 rfl rfl rfl) ?_; intro a hst
                         refine r_t hst (wt_of 39 rfl rfl c2578) rfl (x_lookupI (i := 0) hst hsh Try.underlying66 Try.underlying3 Try.underlying3 (fun _ => by kernel_rfl) rfl rfl rfl c2569) ?_; intro a hst
                         refine r_t hst (wt_of 39 rfl rfl c2578) rfl (x_cmpI (b := decide (1 < (mget l2570 x2565.Number))) hst rfl rfl rfl) ?_; intro a hst
                         refine r_t hst trivial rfl (x_orF hst rfl c2578 rfl) ?_; intro a hst
                         exact hj _ (hst.keep _ ⟨rfl, rfl, rfl, rfl, rfl, rfl, rfl, rfl, rfl, rfl, rfl, rfl, rfl, trivial⟩)
                   · rw [if_neg c2569] at H; cases H
               · rw [if_neg c2530] at H
                 replace c2530 := Bool.eq_false_iff.2 c2530
                 refine wq_condF hst rfl c2530 ?_
                 refine wq_exit ?_
                 refine then_exit ?_
                 refine then_exit ?_
                 refine block_hit ?_
                 refine block_normal ?_
                 refine then_normal ?_
                 exact ⟨l_268, H, hst.keep _ ⟨rfl, rfl, rfl, rfl, rfl, trivial⟩, hsh.pick [0]⟩
        · rw [if_neg c2168] at H
          replace c2168 := Bool.eq_false_iff.2 c2168
          refine wq_condF hst rfl c2168 ?_
          refine wq_exit ?_
          refine then_exit ?_
          refine then_exit ?_
          refine block_hit ?_
          refine then_normal ?_
          refine wq_seq ?_
          refine wq_region_lit (.inl rfl) ?_
          refine r_t hst trivial rfl (x_assign hst rfl) ?_; intro a hst
          refine wpL_nil ?_
          refine then_normal ?_
          refine wq_ret ?_
          obtain rfl := Option.some.inj H
          exact ret1 hst rfl rfl ⟨rfl, hsh.pick []⟩
 · intro hj
   by_cases c3 : (decide ((a0.length : Int) < 1)) = true
   · refine r_not hst 11 rfl rfl c3 rfl ?_; intro a hst
     refine r_not hst 11 rfl rfl c3 rfl ?_; intro a hst
     refine r_not hst 11 rfl rfl c3 rfl ?_; intro a hst
     refine r_t hst trivial rfl (x_orT (decide (7 < (a0.length : Int))) hst rfl c3 rfl) ?_; intro a hst
     exact hj _ (hst.keep _ ⟨rfl, rfl, rfl, trivial⟩)
   · replace c3 := Bool.eq_false_iff.2 c3
     refine r_t hst (wt_of 11 rfl rfl c3) rfl (x_move hst rfl) ?_; intro a hst
     refine r_t hst (wt_of 11 rfl rfl c3) rfl (x_lenSl hst Try.underlying23 rfl hra0.slen) ?_; intro a hst
     refine r_t hst (wt_of 11 rfl rfl c3) rfl (x_cmpI (b := decide (7 < (a0.length : Int))) hst rfl rfl rfl) ?_; intro a hst
     refine r_t hst trivial rfl (x_orF hst rfl c3 rfl) ?_; intro a hst
     exact hj _ (hst.keep _ ⟨rfl, rfl, rfl, trivial⟩)

set_option maxHeartbeats 4000000 in
set_option maxRecDepth 100000 in
theorem math_bits_Len32.calls (w : World) (a0 : Int) (r : Int) (h : math_bits_Len32 a0 = some r) :
    Calls Try.prog 79 ([.int .u32 a0] : List Value).toArray w fun e w' => e = .returned (.int .i64 r) ∧ SH (fun _ => False) w w' [] := by
 have H := h
 clear h
 unfold math_bits_Len32 at H
 refine calls_enter Try.func79 rfl rfl ?_
 intro a hst
 have hsh := SH.zero (fun _ => False) w
 refine wq_seq ?_
 refine wq_region_lit (.inl rfl) ?_
 refine r_t hst trivial rfl (x_assign hst rfl) ?_; intro a hst
 refine wpL_nil ?_
 refine then_normal ?_
 obtain ⟨J_4, hJ_4, H⟩ := Jn.elim H
 refine wq_cut (fun a w' => ∃ (i_1 : Int), ∃ (i_2 : Int), J_4 i_1 i_2 = some r ∧ ST [] Try.f79.ntmps a [(0, .int .u32 i_1), (2, .int .i64 i_2)] ∧ SH (fun _ => False) w w' []) ?_ ?_
 · rintro a W_3 ⟨i_1, i_2, H, hst, hsh⟩
   subst hJ_4
   dsimp only at H
   obtain ⟨J_8, hJ_8, H⟩ := Jn.elim H
   refine wq_cut (fun a w' => ∃ (i_5 : Int), ∃ (i_6 : Int), J_8 i_5 i_6 = some r ∧ ST [] Try.f79.ntmps a [(0, .int .u32 i_5), (2, .int .i64 i_6)] ∧ SH (fun _ => False) w w' []) ?_ ?_
   · rintro a W_7 ⟨i_5, i_6, H, hst, hsh⟩
     subst hJ_8
     dsimp only at H
     refine wq_seq ?_
     refine wq_region_lit (.inl rfl) ?_
     refine r_t hst trivial rfl (x_move hst rfl) ?_; intro a hst
     refine r_t hst trivial rfl (x_move hst rfl) ?_; intro a hst
     refine r_t hst trivial rfl (x_convI hst Try.underlying103 Try.underlying5 rfl) ?_; intro a hst
     obtain ⟨n3, hn4, H⟩ := Option.bind_eq_some_iff.1 H
     refine r_t hst trivial rfl (x_indexS hst Try.underlying9 rfl rfl hn4) ?_; intro a hst
     refine r_t hst trivial rfl (x_convI hst Try.underlying5 Try.underlying3 rfl) ?_; intro a hst
     refine r_t hst trivial rfl (x_arI (r := w64 (i_6 + (w64 n3))) hst rfl rfl rfl) ?_; intro a hst
     refine r_t hst trivial rfl (x_assign hst rfl) ?_; intro a hst
     refine wpL_nil ?_
     refine then_normal ?_
     refine wq_ret ?_
     obtain rfl := Option.some.inj H
     exact ret1 hst rfl rfl ⟨rfl, hsh.pick []⟩
   · refine wq_seq ?_
     refine wq_region_lit (.inl rfl) ?_
     refine r_t hst trivial rfl (x_move hst rfl) ?_; intro a hst
     refine r_t hst trivial rfl (x_cmpI (b := decide (256 ≤ i_1)) hst rfl rfl rfl) ?_; intro a hst
     refine wpL_nil ?_
     refine then_normal ?_
     by_cases c5 : (decide (256 ≤ i_1)) = true
     · rw [if_pos c5] at H
       refine wq_condT hst rfl c5 ?_
       refine wq_seq ?_
       refine wq_region_lit (.inl rfl) ?_
       refine r_t hst trivial rfl (x_move hst rfl) ?_; intro a hst
       refine r_t hst trivial rfl (x_shr hst rfl rfl (by decide) (by decide)) ?_; intro a hst
       refine r_t hst trivial rfl (x_assign hst rfl) ?_; intro a hst
       refine wpL_nil ?_
       refine then_normal ?_
       refine wq_region_lit (.inl rfl) ?_
       refine r_t hst trivial rfl (x_move hst rfl) ?_; intro a hst
       refine r_t hst trivial rfl (x_arI (r := w64 (i_2 + 8)) hst rfl rfl rfl) ?_; intro a hst
       refine r_t hst trivial rfl (x_assign hst rfl) ?_; intro a hst
       refine wpL_nil ?_
       refine then_normal ?_
       exact ⟨(i_1 / 2 ^ (Int.toNat 8)), (w64 (i_2 + 8)), H, hst.keep _ ⟨rfl, rfl, trivial⟩, hsh.pick []⟩
     · rw [if_neg c5] at H
       replace c5 := Bool.eq_false_iff.2 c5
       refine wq_condF hst rfl c5 ?_
       refine wq_skip ?_
       refine then_normal ?_
       exact ⟨i_1, i_2, H, hst.keep _ ⟨rfl, rfl, trivial⟩, hsh.pick []⟩
 · refine wq_seq ?_
   refine wq_region_lit (.inl rfl) ?_
   refine r_t hst trivial rfl (x_move hst rfl) ?_; intro a hst
   refine r_t hst trivial rfl (x_cmpI (b := decide (65536 ≤ a0)) hst rfl rfl rfl) ?_; intro a hst
   refine wpL_nil ?_
   refine then_normal ?_
   by_cases c6 : (decide (65536 ≤ a0)) = true
   · rw [if_pos c6] at H
     refine wq_condT hst rfl c6 ?_
     refine wq_seq ?_
     refine wq_region_lit (.inl rfl) ?_
     refine r_t hst trivial rfl (x_move hst rfl) ?_; intro a hst
     refine r_t hst trivial rfl (x_shr hst rfl rfl (by decide) (by decide)) ?_; intro a hst
     refine r_t hst trivial rfl (x_assign hst rfl) ?_; intro a hst
     refine wpL_nil ?_
     refine then_normal ?_
     refine wq_region_lit (.inl rfl) ?_
     refine r_t hst trivial rfl (x_assign hst rfl) ?_; intro a hst
     refine wpL_nil ?_
     refine then_normal ?_
     exact ⟨(a0 / 2 ^ (Int.toNat 16)), 16, H, hst.keep _ ⟨rfl, rfl, trivial⟩, hsh.pick []⟩
   · rw [if_neg c6] at H
     replace c6 := Bool.eq_false_iff.2 c6
     refine wq_condF hst rfl c6 ?_
     refine wq_skip ?_
     refine then_normal ?_
     exact ⟨a0, 0, H, hst.keep _ ⟨rfl, rfl, trivial⟩, hsh.pick []⟩

set_option maxHeartbeats 4000000 in
set_option maxRecDepth 100000 in
theorem math_bits_Len64.calls (w : World) (a0 : Int) (r : Int) (h : math_bits_Len64 a0 = some r) :
    Calls Try.prog 80 ([.int .u64 a0] : List Value).toArray w fun e w' => e = .returned (.int .i64 r) ∧ SH (fun _ => False) w w' [] := by
 have H := h
 clear h
 unfold math_bits_Len64 at H
 refine calls_enter Try.func80 rfl rfl ?_
 intro a hst
 have hsh := SH.zero (fun _ => False) w
 refine wq_seq ?_
 refine wq_region_lit (.inl rfl) ?_
 refine r_t hst trivial rfl (x_assign hst rfl) ?_; intro a hst
 refine wpL_nil ?_
 refine then_normal ?_
 obtain ⟨J_4, hJ_4, H⟩ := Jn.elim H
 refine wq_cut (fun a w' => ∃ (i_1 : Int), ∃ (i_2 : Int), J_4 i_1 i_2 = some r ∧ ST [] Try.f80.ntmps a [(0, .int .u64 i_1), (2, .int .i64 i_2)] ∧ SH (fun _ => False) w w' []) ?_ ?_
 · rintro a W_3 ⟨i_1, i_2, H, hst, hsh⟩
   subst hJ_4
   dsimp only at H
   obtain ⟨J_8, hJ_8, H⟩ := Jn.elim H
   refine wq_cut (fun a w' => ∃ (i_5 : Int), ∃ (i_6 : Int), J_8 i_5 i_6 = some r ∧ ST [] Try.f80.ntmps a [(0, .int .u64 i_5), (2, .int .i64 i_6)] ∧ SH (fun _ => False) w w' []) ?_ ?_
   · rintro a W_7 ⟨i_5, i_6, H, hst, hsh⟩
     subst hJ_8
     dsimp only at H
     obtain ⟨J_12, hJ_12, H⟩ := Jn.elim H
     refine wq_cut (fun a w' => ∃ (i_9 : Int), ∃ (i_10 : Int), J_12 i_9 i_10 = some r ∧ ST [] Try.f80.ntmps a [(0, .int .u64 i_9), (2, .int .i64 i_10)] ∧ SH (fun _ => False) w w' []) ?_ ?_
     · rintro a W_11 ⟨i_9, i_10, H, hst, hsh⟩
       subst hJ_12
       dsimp only at H
       refine wq_seq ?_
       refine wq_region_lit (.inl rfl) ?_
       refine r_t hst trivial rfl (x_move hst rfl) ?_; intro a hst
       refine r_t hst trivial rfl (x_move hst rfl) ?_; intro a hst
       refine r_t hst trivial rfl (x_convI hst Try.underlying24 Try.underlying5 rfl) ?_; intro a hst
       obtain ⟨n4, hn5, H⟩ := Option.bind_eq_some_iff.1 H
       refine r_t hst trivial rfl (x_indexS hst Try.underlying9 rfl rfl hn5) ?_; intro a hst
       refine r_t hst trivial rfl (x_convI hst Try.underlying5 Try.underlying3 rfl) ?_; intro a hst
       refine r_t hst trivial rfl (x_arI (r := w64 (i_10 + (w64 n4))) hst rfl rfl rfl) ?_; intro a hst
       refine r_t hst trivial rfl (x_assign hst rfl) ?_; intro a hst
       refine wpL_nil ?_
       refine then_normal ?_
       refine wq_ret ?_
       obtain rfl := Option.some.inj H
       exact ret1 hst rfl rfl ⟨rfl, hsh.pick []⟩
     · refine wq_seq ?_
       refine wq_region_lit (.inl rfl) ?_
       refine r_t hst trivial rfl (x_move hst rfl) ?_; intro a hst
       refine r_t hst trivial rfl (x_cmpI (b := decide (256 ≤ i_5)) hst rfl rfl rfl) ?_; intro a hst
       refine wpL_nil ?_
       refine then_normal ?_
       by_cases c6 : (decide (256 ≤ i_5)) = true
       · rw [if_pos c6] at H
         refine wq_condT hst rfl c6 ?_
         refine wq_seq ?_
         refine wq_region_lit (.inl rfl) ?_
         refine r_t hst trivial rfl (x_move hst rfl) ?_; intro a hst
         refine r_t hst trivial rfl (x_shr hst rfl rfl (by decide) (by decide)) ?_; intro a hst
         refine r_t hst trivial rfl (x_assign hst rfl) ?_; intro a hst
         refine wpL_nil ?_
         refine then_normal ?_
         refine wq_region_lit (.inl rfl) ?_
         refine r_t hst trivial rfl (x_move hst rfl) ?_; intro a hst
         refine r_t hst trivial rfl (x_arI (r := w64 (i_6 + 8)) hst rfl rfl rfl) ?_; intro a hst
         refine r_t hst trivial rfl (x_assign hst rfl) ?_; intro a hst
         refine wpL_nil ?_
         refine then_normal ?_
         exact ⟨(i_5 / 2 ^ (Int.toNat 8)), (w64 (i_6 + 8)), H, hst.keep _ ⟨rfl, rfl, trivial⟩, hsh.pick []⟩
       · rw [if_neg c6] at H
         replace c6 := Bool.eq_false_iff.2 c6
         refine wq_condF hst rfl c6 ?_
         refine wq_skip ?_
         refine then_normal ?_
         exact ⟨i_5, i_6, H, hst.keep _ ⟨rfl, rfl, trivial⟩, hsh.pick []⟩
   · refine wq_seq ?_
     refine wq_region_lit (.inl rfl) ?_
     refine r_t hst trivial rfl (x_move hst rfl) ?_; intro a hst
     refine r_t hst trivial rfl (x_cmpI (b := decide (65536 ≤ i_1)) hst rfl rfl rfl) ?_; intro a hst
     refine wpL_nil ?_
     refine then_normal ?_
     by_cases c7 : (decide (65536 ≤ i_1)) = true
     · rw [if_pos c7] at H
       refine wq_condT hst rfl c7 ?_
       refine wq_seq ?_
       refine wq_region_lit (.inl rfl) ?_
       refine r_t hst trivial rfl (x_move hst rfl) ?_; intro a hst
       refine r_t hst trivial rfl (x_shr hst rfl rfl (by decide) (by decide)) ?_; intro a hst
       refine r_t hst trivial rfl (x_assign hst rfl) ?_; intro a hst
       refine wpL_nil ?_
       refine then_normal ?_
       refine wq_region_lit (.inl rfl) ?_
       refine r_t hst trivial rfl (x_move hst rfl) ?_; intro a hst
       refine r_t hst trivial rfl (x_arI (r := w64 (i_2 + 16)) hst rfl rfl rfl) ?_; intro a hst
       refine r_t hst trivial rfl (x_assign hst rfl) ?_; intro a hst
       refine wpL_nil ?_
       refine then_normal ?_
       exact ⟨(i_1 / 2 ^ (Int.toNat 16)), (w64 (i_2 + 16)), H, hst.keep _ ⟨rfl, rfl, trivial⟩, hsh.pick []⟩
     · rw [if_neg c7] at H
       replace c7 := Bool.eq_false_iff.2 c7
       refine wq_condF hst rfl c7 ?_
       refine wq_skip ?_
       refine then_normal ?_
       exact ⟨i_1, i_2, H, hst.keep _ ⟨rfl, rfl, trivial⟩, hsh.pick []⟩
 · refine wq_seq ?_
   refine wq_region_lit (.inl rfl) ?_
   refine r_t hst trivial rfl (x_move hst rfl) ?_; intro a hst
   refine r_t hst trivial rfl (x_cmpI (b := decide (4294967296 ≤ a0)) hst rfl rfl rfl) ?_; intro a hst
   refine wpL_nil ?_
   refine then_normal ?_
   by_cases c8 : (decide (4294967296 ≤ a0)) = true
   · rw [if_pos c8] at H
     refine wq_condT hst rfl c8 ?_
     refine wq_seq ?_
     refine wq_region_lit (.inl rfl) ?_
     refine r_t hst trivial rfl (x_move hst rfl) ?_; intro a hst
     refine r_t hst trivial rfl (x_shr hst rfl rfl (by decide) (by decide)) ?_; intro a hst
     refine r_t hst trivial rfl (x_assign hst rfl) ?_; intro a hst
     refine wpL_nil ?_
     refine then_normal ?_
     refine wq_region_lit (.inl rfl) ?_
     refine r_t hst trivial rfl (x_assign hst rfl) ?_; intro a hst
     refine wpL_nil ?_
     refine then_normal ?_
     exact ⟨(a0 / 2 ^ (Int.toNat 32)), 32, H, hst.keep _ ⟨rfl, rfl, trivial⟩, hsh.pick []⟩
   · rw [if_neg c8] at H
     replace c8 := Bool.eq_false_iff.2 c8
     refine wq_condF hst rfl c8 ?_
     refine wq_skip ?_
     refine then_normal ?_
     exact ⟨a0, 0, H, hst.keep _ ⟨rfl, rfl, trivial⟩, hsh.pick []⟩

set_option maxHeartbeats 4000000 in
set_option maxRecDepth 100000 in
theorem math_bits_Len.calls (w : World) (a0 : Int) (r : Int) (h : math_bits_Len a0 = some r) :
    Calls Try.prog 66 ([.int .u64 a0] : List Value).toArray w fun e w' => e = .returned (.int .i64 r) ∧ SH (fun _ => False) w w' [] := by
 have H := h
 clear h
 unfold math_bits_Len at H
 refine calls_enter Try.func66 rfl rfl ?_
 intro a hst
 have hsh := SH.zero (fun _ => False) w
 refine wq_seq ?_
 refine wq_region_lit (.inl rfl) ?_
 refine r_t hst trivial rfl (x_assign hst rfl) ?_; intro a hst
 refine wpL_nil ?_
 refine then_normal ?_
 refine wq_seq ?_
 refine wq_cond_false rfl ?_
 refine wq_skip ?_
 refine then_normal ?_
 refine wq_seq ?_
 refine wq_region_lit (.inl rfl) ?_
 refine r_t hst trivial rfl (x_move hst rfl) ?_; intro a hst
 obtain ⟨r1, hr1, H⟩ := Option.bind_eq_some_iff.1 H
 refine r_callD hst trivial rfl fn_80 rfl (math_bits_Len64.calls _ a0 r1 hr1) ?_
 rintro e w2 ⟨rfl, hc⟩
 replace hsh := hsh.call0 hc
 clear hc
 refine ⟨_, rfl, fun a hst => ?_⟩
 refine r_t hst trivial rfl (x_assign hst rfl) ?_; intro a hst
 refine wpL_nil ?_
 refine then_normal ?_
 refine wq_ret ?_
 obtain rfl := Option.some.inj H
 exact ret1 hst rfl rfl ⟨rfl, hsh.pick []⟩

set_option maxHeartbeats 4000000 in
set_option maxRecDepth 100000 in
theorem cmp_isNaN_int.calls (w : World) (a0 : Int) (r : Bool) (h : cmp_isNaN_int a0 = some r) :
    Calls Try.prog 68 ([.int .i64 a0] : List Value).toArray w fun e w' => e = .returned (.bool r) ∧ SH (fun _ => False) w w' [] := by
 have H := h
 clear h
 unfold cmp_isNaN_int at H
 refine calls_enter Try.func68 rfl rfl ?_
 intro a hst
 have hsh := SH.zero (fun _ => False) w
 refine wq_seq ?_
 refine wq_region_lit (.inl rfl) ?_
 refine r_t hst trivial rfl (x_assign hst rfl) ?_; intro a hst
 refine wpL_nil ?_
 refine then_normal ?_
 refine wq_seq ?_
 refine wq_region_lit (.inl rfl) ?_
 refine r_t hst trivial rfl (x_move hst rfl) ?_; intro a hst
 refine r_t hst trivial rfl (x_move hst rfl) ?_; intro a hst
 refine r_t hst trivial rfl (x_cmpI (b := (a0 != a0)) hst rfl rfl rfl) ?_; intro a hst
 refine r_t hst trivial rfl (x_assign hst rfl) ?_; intro a hst
 refine wpL_nil ?_
 refine then_normal ?_
 refine wq_ret ?_
 obtain rfl := Option.some.inj H
 exact ret1 hst rfl rfl ⟨rfl, hsh.pick []⟩

set_option maxHeartbeats 4000000 in
set_option maxRecDepth 100000 in
theorem cmp_Less_int.calls (w : World) (a0 : Int) (a1 : Int) (r : Bool) (h : cmp_Less_int a0 a1 = some r) :
    Calls Try.prog 76 ([.int .i64 a0, .int .i64 a1] : List Value).toArray w fun e w' => e = .returned (.bool r) ∧ SH (fun _ => False) w w' [] := by
 have H := h
 clear h
 unfold cmp_Less_int at H
 refine calls_enter Try.func76 rfl rfl ?_
 intro a hst
 have hsh := SH.zero (fun _ => False) w
 refine wq_seq ?_
 refine wq_region_lit (.inl rfl) ?_
 refine r_t hst trivial rfl (x_assign hst rfl) ?_; intro a hst
 refine wpL_nil ?_
 refine then_normal ?_
 refine wq_seq ?_
 refine wq_region_lit (.inl rfl) ?_
 refine r_t hst trivial rfl (x_move hst rfl) ?_; intro a hst
 obtain ⟨r1, hr1, H⟩ := Option.bind_eq_some_iff.1 H
 refine r_callD hst trivial rfl fn_68 rfl (cmp_isNaN_int.calls _ a0 r1 hr1) ?_
 rintro e w2 ⟨rfl, hc⟩
 replace hsh := hsh.call0 hc
 clear hc
 refine ⟨_, rfl, fun a hst => ?_⟩
 refine r_t hst trivial rfl (x_move hst rfl) ?_; intro a hst
 obtain ⟨J_2, hJ_2, H⟩ := Jn.elim H
 refine wl_join 7 (fun a w' => ∃ (b_1 : Bool), J_2 b_1 = some r ∧ ST [] Try.f76.ntmps a [(0, .int .i64 a0), (1, .int .i64 a1), (4, .bool false), (11, .bool b_1)] ∧ SH (fun _ => False) w w' []) ?_ ?_
 · rintro a W_3 ⟨b_1, H, hst, hsh⟩
   subst hJ_2
   dsimp only at H
   refine r_t hst trivial rfl (x_move hst rfl) ?_; intro a hst
   refine wl_join0 (Δ := []) (N := Try.f76.ntmps) 12 [(4, .bool false), (16, .bool (b_1 || (decide (a0 < a1))))] ?_ ?_
   · intro a hst
     refine r_t hst trivial rfl (x_assign hst rfl) ?_; intro a hst
     refine wpL_nil ?_
     refine then_normal ?_
     refine wq_ret ?_
     obtain rfl := Option.some.inj H
     exact ret1 hst rfl rfl ⟨rfl, hsh.pick []⟩
   · intro hj
     by_cases c6 : b_1 = true
     · refine r_not hst 12 rfl rfl c6 rfl ?_; intro a hst
       refine r_not hst 12 rfl rfl c6 rfl ?_; intro a hst
       refine r_not hst 12 rfl rfl c6 rfl ?_; intro a hst
       refine r_t hst trivial rfl (x_orT (decide (a0 < a1)) hst rfl c6 rfl) ?_; intro a hst
       exact hj _ (hst.keep _ ⟨rfl, rfl, trivial⟩)
     · replace c6 := Bool.eq_false_iff.2 c6
       refine r_t hst (wt_of 12 rfl rfl c6) rfl (x_move hst rfl) ?_; intro a hst
       refine r_t hst (wt_of 12 rfl rfl c6) rfl (x_move hst rfl) ?_; intro a hst
       refine r_t hst (wt_of 12 rfl rfl c6) rfl (x_cmpI (b := decide (a0 < a1)) hst rfl rfl rfl) ?_; intro a hst
       refine r_t hst trivial rfl (x_orF hst rfl c6 rfl) ?_; intro a hst
       exact hj _ (hst.keep _ ⟨rfl, rfl, trivial⟩)
 · intro hj
   by_cases c3 : r1 = true
   · rw [if_pos c3] at H
     refine r_t hst (wt_of 7 rfl rfl c3) rfl (x_move hst rfl) ?_; intro a hst
     obtain ⟨r7, hr7, H⟩ := Option.bind_eq_some_iff.1 H
     refine r_callD hst (wt_of 7 rfl rfl c3) rfl fn_68 rfl (cmp_isNaN_int.calls _ a1 r7 hr7) ?_
     rintro e w8 ⟨rfl, hc⟩
     replace hsh := hsh.call0 hc
     clear hc
     refine ⟨_, rfl, fun a hst => ?_⟩
     refine r_t hst (wt_of 7 rfl rfl c3) rfl (x_notB hst rfl) ?_; intro a hst
     refine r_t hst trivial rfl (x_pickT hst rfl c3 rfl) ?_; intro a hst
     exact hj _ _ ⟨(!r7), H, hst.keep _ ⟨rfl, rfl, rfl, rfl, trivial⟩, hsh.pick []⟩
   · rw [if_neg c3] at H
     replace c3 := Bool.eq_false_iff.2 c3
     refine r_not hst 7 rfl rfl c3 rfl ?_; intro a hst
     refine r_not hst 7 rfl rfl c3 rfl ?_; intro a hst
     refine r_not hst 7 rfl rfl c3 rfl ?_; intro a hst
     refine r_t hst trivial rfl (x_pickF hst rfl c3 rfl) ?_; intro a hst
     exact hj _ _ ⟨false, H, hst.keep _ ⟨rfl, rfl, rfl, rfl, trivial⟩, hsh.pick []⟩

set_option maxHeartbeats 4000000 in
set_option maxRecDepth 100000 in
theorem slices_insertionSortOrdered_int.calls (k : Nat) (w : World) (GG : Nat → Prop) (va0 : Value) (a0 : (List Int)) (a1 : Int) (a2 : Int) (hsep : Sep GG w [Row (Kd.int .i64) 3 va0 a0]) (r : (List Int)) (h : slices_insertionSortOrdered_int k a0 a1 a2 = some r) :
    Calls Try.prog 70 ([va0, .int .i64 a1, .int .i64 a2] : List Value).toArray w fun e w' => e = .returned (.tuple #[]) ∧ SH GG w w' [Row (Kd.int .i64) 3 va0 r] := by
 have H := h
 clear h
 unfold slices_insertionSortOrdered_int at H
 refine calls_enter Try.func70 rfl rfl ?_
 intro a hst
 have hsh := SH.start hsep
 refine wq_seq ?_
 refine wq_region_lit (.inl rfl) ?_
 refine r_t hst trivial rfl (x_move hst rfl) ?_; intro a hst
 refine r_t hst trivial rfl (x_arI (r := w64 (a1 + 1)) hst rfl rfl rfl) ?_; intro a hst
 refine r_t hst trivial rfl (x_assign hst rfl) ?_; intro a hst
 refine wpL_nil ?_
 refine then_normal ?_
 refine wq_block ?_
 refine wq_loop_fuel (fun k_134 a w' => ∃ (l_67 : (List Int)), ∃ (i_68 : Int), slices_insertionSortOrdered_int.l0 a1 a2 k_134 l_67 i_68 = some r ∧ ST [] Try.f70.ntmps a [(0, va0), (1, .int .i64 a1), (2, .int .i64 a2), (6, .int .i64 i_68)] ∧ SH GG w w' [Row (Kd.int .i64) 3 va0 l_67]) k ?_ ?_
 · exact ⟨a0, (w64 (a1 + 1)), H, hst.keep _ ⟨rfl, rfl, rfl, rfl, trivial⟩, hsh.pick [0]⟩
 · rintro k_134 a W_69 ⟨l_67, i_68, H, hst, hsh⟩
   cases k_134 with
   | zero => rw [slices_insertionSortOrdered_int.l0] at H; cases H
   | succ k_134 =>
    rw [slices_insertionSortOrdered_int.l0] at H
    refine wq_seq ?_
    refine wq_seq ?_
    refine wq_region_lit (.inl rfl) ?_
    refine r_t hst trivial rfl (x_move hst rfl) ?_; intro a hst
    refine r_t hst trivial rfl (x_move hst rfl) ?_; intro a hst
    refine r_t hst trivial rfl (x_cmpI (b := decide (i_68 < a2)) hst rfl rfl rfl) ?_; intro a hst
    refine wpL_nil ?_
    refine then_normal ?_
    by_cases c534 : (decide (i_68 < a2)) = true
    · rw [if_pos c534] at H
      refine wq_condT hst rfl c534 ?_
      refine wq_skip ?_
      refine then_normal ?_
      obtain ⟨J_166, hJ_166, H⟩ := Jn.elim H
      refine wq_cut (fun a w' => ∃ (l_164 : (List Int)), J_166 l_164 = some r ∧ ST [] Try.f70.ntmps a [(0, va0), (1, .int .i64 a1), (2, .int .i64 a2), (6, .int .i64 i_68)] ∧ SH GG w w' [Row (Kd.int .i64) 3 va0 l_164]) ?_ ?_
      · rintro a W_165 ⟨l_164, H, hst, hsh⟩
        subst hJ_166
        dsimp only at H
        refine wq_region_lit (.inl rfl) ?_
        refine r_t hst trivial rfl (x_move hst rfl) ?_; intro a hst
        refine r_t hst trivial rfl (x_arI (r := w64 (i_68 + 1)) hst rfl rfl rfl) ?_; intro a hst
        refine r_t hst trivial rfl (x_assign hst rfl) ?_; intro a hst
        refine wpL_nil ?_
        refine then_normal ?_
        exact ⟨k_134, Nat.lt_succ_self _, l_164, (w64 (i_68 + 1)), H, hst.keep _ ⟨rfl, rfl, rfl, rfl, trivial⟩, hsh.pick [0]⟩
      · refine wq_block ?_
        refine wq_seq ?_
        refine wq_region_lit (.inl rfl) ?_
        refine r_t hst trivial rfl (x_move hst rfl) ?_; intro a hst
        refine r_t hst trivial rfl (x_assign hst rfl) ?_; intro a hst
        refine wpL_nil ?_
        refine then_normal ?_
        refine wq_block ?_
        refine wq_loop_fuel (fun k_189 a w' => ∃ (l_177 : (List Int)), ∃ (i_178 : Int), slices_insertionSortOrdered_int.l1 a1 J_166 k_189 l_177 i_178 = some r ∧ ST [] Try.f70.ntmps a [(0, va0), (1, .int .i64 a1), (2, .int .i64 a2), (6, .int .i64 i_68), (7, .int .i64 i_178)] ∧ SH GG w w' [Row (Kd.int .i64) 3 va0 l_177]) k_134 ?_ ?_
        · exact ⟨l_67, i_68, H, hst.keep _ ⟨rfl, rfl, rfl, rfl, rfl, trivial⟩, hsh.pick [0]⟩
        · rintro k_189 a W_179 ⟨l_177, i_178, H, hst, hsh⟩
          cases k_189 with
          | zero => rw [slices_insertionSortOrdered_int.l1] at H; cases H
          | succ k_189 =>
           rw [slices_insertionSortOrdered_int.l1] at H
           refine wq_seq ?_
           refine wq_seq ?_
           refine wq_region_q (.inl rfl) (fun w' => SH GG w w' [Row (Kd.int .i64) 3 va0 l_177]) (shut_sh _ _ _) hsh.drew fo (by kernel_rfl) ?_
           refine q_t hst trivial rfl (fun _ hsh => x_move hst rfl) ?_; intro a hst
           refine q_t hst trivial rfl (fun _ hsh => x_move hst rfl) ?_; intro a hst
           refine q_t hst trivial rfl (fun _ hsh => x_cmpI (b := decide (a1 < i_178)) hst rfl rfl rfl) ?_; intro a hst
           refine q_t hst trivial rfl (fun _ hsh => x_move hst rfl) ?_; intro a hst
           obtain ⟨J_194, hJ_194, H⟩ := Jn.elim H
           refine q_join 15 (fun a => ∃ (b_193 : Bool), J_194 b_193 = some r ∧ ST [] Try.f70.ntmps a [(0, va0), (1, .int .i64 a1), (2, .int .i64 a2), (6, .int .i64 i_68), (7, .int .i64 i_178), (30, .bool b_193)]) ?_ ?_
           · rintro a ⟨b_193, H, hst⟩
             subst hJ_194
             dsimp only at H
             refine q_nil ?_
             intro w771 hsh
             refine then_normal ?_
             by_cases c772 : b_193 = true
             · rw [if_pos c772] at H
               refine wq_condT hst rfl c772 ?_
               refine wq_skip ?_
               refine then_normal ?_
               refine wq_seq ?_
               refine wq_block ?_
               have hw783_0 := hsh.row 0 rfl
               refine wq_region_t (.inl rfl) (.fin [(3, 0), (3, 1), (3, 2), (3, 3), (3, 4), (3, 5), (3, 6), (3, 7), (3, 8), (0, 9), (3, 10), (3, 11), (3, 12), (0, 13), (3, 14), (2, 15), (0, 16), (2, 17)]) (fun w' => SH GG w w' []) (fun w' => SH GG w w' [Row (Kd.int .i64) 3 va0 l_177]) (fun w' => SH GG w w' [Row (Kd.int .i64) 3 va0 l_177]) (shut_sh _ _ _) (shut_sh _ _ _) (shut_sh _ _ _) (sub_sh [] rfl) (sub_sh [0] rfl) hsh.drew fo (by kernel_rfl) ?_
               refine t_fin ?_
               refine m_p hst trivial rfl (fun _ => x_move hst rfl) ?_; intro a hst
               refine m_p hst trivial rfl (fun _ => x_move hst rfl) ?_; intro a hst
               refine m_p hst trivial rfl (fun _ => x_move hst rfl) ?_; intro a hst
               refine m_p hst trivial rfl (fun _ => x_move hst rfl) ?_; intro a hst
               refine m_p hst trivial rfl (fun _ => x_arI (r := w64 (i_178 - 1)) hst rfl rfl rfl) ?_; intro a hst
               refine m_p hst trivial rfl (fun _ => x_move hst rfl) ?_; intro a hst
               refine m_p hst trivial rfl (fun _ => x_move hst rfl) ?_; intro a hst
               refine m_p hst trivial rfl (fun _ => x_arI (r := w64 (i_178 - 1)) hst rfl rfl rfl) ?_; intro a hst
               obtain ⟨x784, hx784, H⟩ := Option.bind_eq_some_iff.1 H
               refine m_p hst trivial rfl (fun _ => x_indexAddr hst Try.underlying56 el_3 rfl rfl hw783_0 hx784) ?_; intro a hst
               refine m_t hst trivial rfl (fun _ hsh => x_loadEF (j := 0) (cs := [.int .i64 x784]) hst sc_3 rfl (hsh.row 0 rfl) (Same.refl _ _) hx784 rfl (fun _ h => h) rfl) ?_; intro a hst
               refine m_p hst trivial rfl (fun _ => x_move hst rfl) ?_; intro a hst
               refine m_p hst trivial rfl (fun _ => x_move hst rfl) ?_; intro a hst
               obtain ⟨x785, hx785, H⟩ := Option.bind_eq_some_iff.1 H
               refine m_p hst trivial rfl (fun _ => x_indexAddr hst Try.underlying56 el_3 rfl rfl hw783_0 hx785) ?_; intro a hst
               refine m_t hst trivial rfl (fun _ hsh => x_loadEF (j := 0) (cs := [.int .i64 x785]) hst sc_3 rfl (hsh.row 0 rfl) (Same.refl _ _) hx785 rfl (fun _ h => h) rfl) ?_; intro a hst
               obtain ⟨x786, hx786, H⟩ := Option.bind_eq_some_iff.1 H
               refine m_p hst trivial rfl (fun _ => x_indexAddr hst Try.underlying56 el_3 rfl rfl hw783_0 hx786) ?_; intro a hst
               refine m_loud (.inr rfl) ?_
               intro w787 hsh
               obtain ⟨l788, hl788, H⟩ := Option.bind_eq_some_iff.1 H
               refine r_storeE (i := 0) (off := 0) (new := x784) (cs' := [.int .i64 x784]) hst hsh trivial sc_3 rfl rfl rfl hx786 rfl (Nat.le_of_ble_eq_true rfl) rfl (fun _ _ _ h => by rw [h]; rfl) (fun _ _ => rfl) ?_; intro a w789 hsh hst
               rw [← upd_some hl788] at hsh
               refine m_turn hsh (sub_sh [] rfl) ?_
               obtain ⟨x790, hx790, H⟩ := Option.bind_eq_some_iff.1 H
               refine m_t hst trivial rfl (fun _ hsh => x_indexAddr hst Try.underlying56 el_3 rfl rfl (hsh.row 0 rfl) hx790) ?_; intro a hst
               refine m_loud (.inr rfl) ?_
               intro w791 hsh
               obtain ⟨l792, hl792, H⟩ := Option.bind_eq_some_iff.1 H
               refine r_storeE (i := 0) (off := 0) (new := x785) (cs' := [.int .i64 x785]) hst hsh trivial sc_3 rfl rfl rfl hx790 rfl (Nat.le_of_ble_eq_true rfl) rfl (fun _ _ _ h => by rw [h]; rfl) (fun _ _ => rfl) ?_; intro a w793 hsh hst
               rw [← upd_some hl792] at hsh
               refine m_turn hsh (sub_sh [] rfl) ?_
               refine m_nil ?_
               intro w794 hsh
               refine qn_normal ?_
               refine block_normal ?_
               refine then_normal ?_
               refine wq_region_lit (.inl rfl) ?_
               refine r_t hst trivial rfl (x_move hst rfl) ?_; intro a hst
               refine r_t hst trivial rfl (x_arI (r := w64 (i_178 - 1)) hst rfl rfl rfl) ?_; intro a hst
               refine r_t hst trivial rfl (x_assign hst rfl) ?_; intro a hst
               refine wpL_nil ?_
               refine then_normal ?_
               exact ⟨k_189, Nat.lt_succ_self _, l792, (w64 (i_178 - 1)), H, hst.keep _ ⟨rfl, rfl, rfl, rfl, rfl, trivial⟩, hsh.pick [0]⟩
             · rw [if_neg c772] at H
               replace c772 := Bool.eq_false_iff.2 c772
               refine wq_condF hst rfl c772 ?_
               refine wq_exit ?_
               refine then_exit ?_
               refine then_exit ?_
               refine block_hit ?_
               refine block_normal ?_
               refine then_normal ?_
               exact ⟨l_177, H, hst.keep _ ⟨rfl, rfl, rfl, rfl, trivial⟩, hsh.pick [0]⟩
           · intro hj
             by_cases c766 : (decide (a1 < i_178)) = true
             · rw [if_pos c766] at H
               refine q_t hst (wt_of 19 rfl rfl c766) rfl (fun _ hsh => x_move hst rfl) ?_; intro a hst
               refine q_t hst (wt_of 19 rfl rfl c766) rfl (fun _ hsh => x_move hst rfl) ?_; intro a hst
               obtain ⟨x795, hx795, H⟩ := Option.bind_eq_some_iff.1 H
               refine q_t hst (wt_of 19 rfl rfl c766) rfl (fun _ hsh => x_indexAddr hst Try.underlying56 el_3 rfl rfl (hsh.row 0 rfl) hx795) ?_; intro a hst
               refine q_t hst (wt_of 19 rfl rfl c766) rfl (fun _ hsh => x_loadEF (j := 0) (cs := [.int .i64 x795]) hst sc_3 rfl (hsh.row 0 rfl) (Same.refl _ _) hx795 rfl (fun _ h => h) rfl) ?_; intro a hst
               refine q_t hst (wt_of 19 rfl rfl c766) rfl (fun _ hsh => x_move hst rfl) ?_; intro a hst
               refine q_t hst (wt_of 19 rfl rfl c766) rfl (fun _ hsh => x_move hst rfl) ?_; intro a hst
               refine q_t hst (wt_of 19 rfl rfl c766) rfl (fun _ hsh => x_arI (r := w64 (i_178 - 1)) hst rfl rfl rfl) ?_; intro a hst
               obtain ⟨x796, hx796, H⟩ := Option.bind_eq_some_iff.1 H
               refine q_t hst (wt_of 19 rfl rfl c766) rfl (fun _ hsh => x_indexAddr hst Try.underlying56 el_3 rfl rfl (hsh.row 0 rfl) hx796) ?_; intro a hst
               refine q_t hst (wt_of 19 rfl rfl c766) rfl (fun _ hsh => x_loadEF (j := 0) (cs := [.int .i64 x796]) hst sc_3 rfl (hsh.row 0 rfl) (Same.refl _ _) hx796 rfl (fun _ h => h) rfl) ?_; intro a hst
               obtain ⟨r797, hr797, H⟩ := Option.bind_eq_some_iff.1 H
               refine q_call hst (wt_of 19 rfl rfl c766) rfl fn_76 rfl (fun w9 hsh => cmp_Less_int.calls _ x795 x796 r797 hr797) ?_; intro a hst
               refine q_t hst trivial rfl (fun _ hsh => x_pickT hst rfl c766 rfl) ?_; intro a hst
               exact hj _ ⟨r797, H, hst.keep _ ⟨rfl, rfl, rfl, rfl, rfl, rfl, trivial⟩⟩
             · rw [if_neg c766] at H
               replace c766 := Bool.eq_false_iff.2 c766
               refine q_not hst 19 rfl rfl c766 rfl ?_; intro a hst
               refine q_not hst 19 rfl rfl c766 rfl ?_; intro a hst
               refine q_not hst 19 rfl rfl c766 rfl ?_; intro a hst
               refine q_not hst 19 rfl rfl c766 rfl ?_; intro a hst
               refine q_not hst 19 rfl rfl c766 rfl ?_; intro a hst
               refine q_not hst 19 rfl rfl c766 rfl ?_; intro a hst
               refine q_not hst 19 rfl rfl c766 rfl ?_; intro a hst
               refine q_not hst 19 rfl rfl c766 rfl ?_; intro a hst
               refine q_not hst 19 rfl rfl c766 rfl ?_; intro a hst
               refine q_not hst 19 rfl rfl c766 rfl ?_; intro a hst
               refine q_t hst trivial rfl (fun _ hsh => x_pickF hst rfl c766 rfl) ?_; intro a hst
               exact hj _ ⟨false, H, hst.keep _ ⟨rfl, rfl, rfl, rfl, rfl, rfl, trivial⟩⟩
    · rw [if_neg c534] at H
      replace c534 := Bool.eq_false_iff.2 c534
      refine wq_condF hst rfl c534 ?_
      refine wq_exit ?_
      refine then_exit ?_
      refine then_exit ?_
      refine block_hit ?_
      obtain rfl := Option.some.inj H
      exact end0 hst rfl ⟨rfl, hsh.pick [0]⟩

set_option maxHeartbeats 4000000 in
set_option maxRecDepth 100000 in
theorem slices_siftDownOrdered_int.calls (k : Nat) (w : World) (GG : Nat → Prop) (va0 : Value) (a0 : (List Int)) (a1 : Int) (a2 : Int) (a3 : Int) (hsep : Sep GG w [Row (Kd.int .i64) 3 va0 a0]) (r : (List Int)) (h : slices_siftDownOrdered_int k a0 a1 a2 a3 = some r) :
    Calls Try.prog 83 ([va0, .int .i64 a1, .int .i64 a2, .int .i64 a3] : List Value).toArray w fun e w' => e = .returned (.tuple #[]) ∧ SH GG w w' [Row (Kd.int .i64) 3 va0 r] := by
 have H := h
 clear h
 unfold slices_siftDownOrdered_int at H
 refine calls_enter Try.func83 rfl rfl ?_
 intro a hst
 have hsh := SH.start hsep
 refine wq_seq ?_
 refine wq_region_lit (.inl rfl) ?_
 refine r_t hst trivial rfl (x_move hst rfl) ?_; intro a hst
 refine r_t hst trivial rfl (x_assign hst rfl) ?_; intro a hst
 refine wpL_nil ?_
 refine then_normal ?_
 refine wq_block ?_
 refine wq_loop_fuel (fun k_32 a w' => ∃ (l_16 : (List Int)), ∃ (i_17 : Int), slices_siftDownOrdered_int.l0 a2 a3 k_32 l_16 i_17 = some r ∧ ST [] Try.f83.ntmps a [(0, va0), (2, .int .i64 a2), (3, .int .i64 a3), (8, .int .i64 i_17)] ∧ SH GG w w' [Row (Kd.int .i64) 3 va0 l_16]) k ?_ ?_
 · exact ⟨a0, a1, H, hst.keep _ ⟨rfl, rfl, rfl, rfl, trivial⟩, hsh.pick [0]⟩
 · rintro k_32 a W_18 ⟨l_16, i_17, H, hst, hsh⟩
   cases k_32 with
   | zero => rw [slices_siftDownOrdered_int.l0] at H; cases H
   | succ k_32 =>
    rw [slices_siftDownOrdered_int.l0] at H
    refine wq_block ?_
    refine wq_seq ?_
    refine wq_region_lit (.inl rfl) ?_
    refine r_t hst trivial rfl (x_move hst rfl) ?_; intro a hst
    refine r_t hst trivial rfl (x_arI (r := w64 (2 * i_17)) hst rfl rfl rfl) ?_; intro a hst
    refine r_t hst trivial rfl (x_arI (r := w64 ((w64 (2 * i_17)) + 1)) hst rfl rfl rfl) ?_; intro a hst
    refine r_t hst trivial rfl (x_assign hst rfl) ?_; intro a hst
    refine wpL_nil ?_
    refine then_normal ?_
    refine wq_seq ?_
    refine wq_seq ?_
    refine wq_region_lit (.inl rfl) ?_
    refine r_t hst trivial rfl (x_move hst rfl) ?_; intro a hst
    refine r_t hst trivial rfl (x_move hst rfl) ?_; intro a hst
    refine r_t hst trivial rfl (x_cmpI (b := decide (a2 ≤ (w64 ((w64 (2 * i_17)) + 1)))) hst rfl rfl rfl) ?_; intro a hst
    refine wpL_nil ?_
    refine then_normal ?_
    by_cases c96 : (decide (a2 ≤ (w64 ((w64 (2 * i_17)) + 1)))) = true
    · rw [if_pos c96] at H
      refine wq_condT hst rfl c96 ?_
      refine wq_exit ?_
      refine then_exit ?_
      refine block_miss rfl ?_
      refine then_exit ?_
      refine block_hit ?_
      obtain rfl := Option.some.inj H
      exact end0 hst rfl ⟨rfl, hsh.pick [0]⟩
    · rw [if_neg c96] at H
      replace c96 := Bool.eq_false_iff.2 c96
      refine wq_condF hst rfl c96 ?_
      refine wq_skip ?_
      refine then_normal ?_
      obtain ⟨J_38, hJ_38, H⟩ := Jn.elim H
      refine wq_cut (fun a w' => ∃ (i_36 : Int), J_38 i_36 = some r ∧ ST [] Try.f83.ntmps a [(0, va0), (2, .int .i64 a2), (3, .int .i64 a3), (8, .int .i64 i_17), (9, .int .i64 i_36)] ∧ SH GG w w' [Row (Kd.int .i64) 3 va0 l_16]) ?_ ?_
      · rintro a W_37 ⟨i_36, H, hst, hsh⟩
        subst hJ_38
        dsimp only at H
        refine wq_seq ?_
        refine wq_seq ?_
        refine wq_region_q (.inl rfl) (fun w' => SH GG w w' [Row (Kd.int .i64) 3 va0 l_16]) (shut_sh _ _ _) hsh.drew fo (by kernel_rfl) ?_
        refine q_t hst trivial rfl (fun _ hsh => x_move hst rfl) ?_; intro a hst
        refine q_t hst trivial rfl (fun _ hsh => x_move hst rfl) ?_; intro a hst
        refine q_t hst trivial rfl (fun _ hsh => x_move hst rfl) ?_; intro a hst
        refine q_t hst trivial rfl (fun _ hsh => x_arI (r := w64 (a3 + i_17)) hst rfl rfl rfl) ?_; intro a hst
        obtain ⟨x114, hx114, H⟩ := Option.bind_eq_some_iff.1 H
        refine q_t hst trivial rfl (fun _ hsh => x_indexAddr hst Try.underlying56 el_3 rfl rfl (hsh.row 0 rfl) hx114) ?_; intro a hst
        refine q_t hst trivial rfl (fun _ hsh => x_loadEF (j := 0) (cs := [.int .i64 x114]) hst sc_3 rfl (hsh.row 0 rfl) (Same.refl _ _) hx114 rfl (fun _ h => h) rfl) ?_; intro a hst
        refine q_t hst trivial rfl (fun _ hsh => x_move hst rfl) ?_; intro a hst
        refine q_t hst trivial rfl (fun _ hsh => x_move hst rfl) ?_; intro a hst
        refine q_t hst trivial rfl (fun _ hsh => x_move hst rfl) ?_; intro a hst
        refine q_t hst trivial rfl (fun _ hsh => x_arI (r := w64 (a3 + i_36)) hst rfl rfl rfl) ?_; intro a hst
        obtain ⟨x115, hx115, H⟩ := Option.bind_eq_some_iff.1 H
        refine q_t hst trivial rfl (fun _ hsh => x_indexAddr hst Try.underlying56 el_3 rfl rfl (hsh.row 0 rfl) hx115) ?_; intro a hst
        refine q_t hst trivial rfl (fun _ hsh => x_loadEF (j := 0) (cs := [.int .i64 x115]) hst sc_3 rfl (hsh.row 0 rfl) (Same.refl _ _) hx115 rfl (fun _ h => h) rfl) ?_; intro a hst
        obtain ⟨r116, hr116, H⟩ := Option.bind_eq_some_iff.1 H
        refine q_call hst trivial rfl fn_76 rfl (fun w9 hsh => cmp_Less_int.calls _ x114 x115 r116 hr116) ?_; intro a hst
        refine q_t hst trivial rfl (fun _ hsh => x_notB hst rfl) ?_; intro a hst
        refine q_nil ?_
        intro w118 hsh
        refine then_normal ?_
        by_cases c119 : (!r116) = true
        · rw [if_pos c119] at H
          refine wq_condT hst rfl c119 ?_
          refine wq_ret ?_
          refine then_ret ?_
          refine block_ret ?_
          refine then_ret ?_
          refine block_ret ?_
          obtain rfl := Option.some.inj H
          exact ret0 hst rfl ⟨rfl, hsh.pick [0]⟩
        · rw [if_neg c119] at H
          replace c119 := Bool.eq_false_iff.2 c119
          refine wq_condF hst rfl c119 ?_
          refine wq_skip ?_
          refine then_normal ?_
          refine wq_seq ?_
          have hw119_0 := hsh.row 0 rfl
          refine wq_region_t (.inl rfl) (.fin [(3, 0), (3, 1), (3, 2), (3, 3), (3, 4), (3, 5), (3, 6), (3, 7), (3, 8), (3, 9), (3, 10), (3, 11), (3, 12), (0, 13), (3, 14), (3, 15), (3, 16), (3, 17), (3, 18), (0, 19), (3, 20), (2, 21), (0, 22), (2, 23)]) (fun w' => SH GG w w' []) (fun w' => SH GG w w' [Row (Kd.int .i64) 3 va0 l_16]) (fun w' => SH GG w w' [Row (Kd.int .i64) 3 va0 l_16]) (shut_sh _ _ _) (shut_sh _ _ _) (shut_sh _ _ _) (sub_sh [] rfl) (sub_sh [0] rfl) hsh.drew fo (by kernel_rfl) ?_
          refine t_fin ?_
          refine m_p hst trivial rfl (fun _ => x_move hst rfl) ?_; intro a hst
          refine m_p hst trivial rfl (fun _ => x_move hst rfl) ?_; intro a hst
          refine m_p hst trivial rfl (fun _ => x_move hst rfl) ?_; intro a hst
          refine m_p hst trivial rfl (fun _ => x_arI (r := w64 (a3 + i_17)) hst rfl rfl rfl) ?_; intro a hst
          refine m_p hst trivial rfl (fun _ => x_move hst rfl) ?_; intro a hst
          refine m_p hst trivial rfl (fun _ => x_move hst rfl) ?_; intro a hst
          refine m_p hst trivial rfl (fun _ => x_move hst rfl) ?_; intro a hst
          refine m_p hst trivial rfl (fun _ => x_arI (r := w64 (a3 + i_36)) hst rfl rfl rfl) ?_; intro a hst
          refine m_p hst trivial rfl (fun _ => x_move hst rfl) ?_; intro a hst
          refine m_p hst trivial rfl (fun _ => x_move hst rfl) ?_; intro a hst
          refine m_p hst trivial rfl (fun _ => x_move hst rfl) ?_; intro a hst
          refine m_p hst trivial rfl (fun _ => x_arI (r := w64 (a3 + i_36)) hst rfl rfl rfl) ?_; intro a hst
          obtain ⟨x120, hx120, H⟩ := Option.bind_eq_some_iff.1 H
          refine m_p hst trivial rfl (fun _ => x_indexAddr hst Try.underlying56 el_3 rfl rfl hw119_0 hx120) ?_; intro a hst
          refine m_t hst trivial rfl (fun _ hsh => x_loadEF (j := 0) (cs := [.int .i64 x120]) hst sc_3 rfl (hsh.row 0 rfl) (Same.refl _ _) hx120 rfl (fun _ h => h) rfl) ?_; intro a hst
          refine m_p hst trivial rfl (fun _ => x_move hst rfl) ?_; intro a hst
          refine m_p hst trivial rfl (fun _ => x_move hst rfl) ?_; intro a hst
          refine m_p hst trivial rfl (fun _ => x_move hst rfl) ?_; intro a hst
          refine m_p hst trivial rfl (fun _ => x_arI (r := w64 (a3 + i_17)) hst rfl rfl rfl) ?_; intro a hst
          obtain ⟨x121, hx121, H⟩ := Option.bind_eq_some_iff.1 H
          refine m_p hst trivial rfl (fun _ => x_indexAddr hst Try.underlying56 el_3 rfl rfl hw119_0 hx121) ?_; intro a hst
          refine m_t hst trivial rfl (fun _ hsh => x_loadEF (j := 0) (cs := [.int .i64 x121]) hst sc_3 rfl (hsh.row 0 rfl) (Same.refl _ _) hx121 rfl (fun _ h => h) rfl) ?_; intro a hst
          obtain ⟨x122, hx122, H⟩ := Option.bind_eq_some_iff.1 H
          refine m_p hst trivial rfl (fun _ => x_indexAddr hst Try.underlying56 el_3 rfl rfl hw119_0 hx122) ?_; intro a hst
          refine m_loud (.inr rfl) ?_
          intro w123 hsh
          obtain ⟨l124, hl124, H⟩ := Option.bind_eq_some_iff.1 H
          refine r_storeE (i := 0) (off := 0) (new := x120) (cs' := [.int .i64 x120]) hst hsh trivial sc_3 rfl rfl rfl hx122 rfl (Nat.le_of_ble_eq_true rfl) rfl (fun _ _ _ h => by rw [h]; rfl) (fun _ _ => rfl) ?_; intro a w125 hsh hst
          rw [← upd_some hl124] at hsh
          refine m_turn hsh (sub_sh [] rfl) ?_
          obtain ⟨x126, hx126, H⟩ := Option.bind_eq_some_iff.1 H
          refine m_t hst trivial rfl (fun _ hsh => x_indexAddr hst Try.underlying56 el_3 rfl rfl (hsh.row 0 rfl) hx126) ?_; intro a hst
          refine m_loud (.inr rfl) ?_
          intro w127 hsh
          obtain ⟨l128, hl128, H⟩ := Option.bind_eq_some_iff.1 H
          refine r_storeE (i := 0) (off := 0) (new := x121) (cs' := [.int .i64 x121]) hst hsh trivial sc_3 rfl rfl rfl hx126 rfl (Nat.le_of_ble_eq_true rfl) rfl (fun _ _ _ h => by rw [h]; rfl) (fun _ _ => rfl) ?_; intro a w129 hsh hst
          rw [← upd_some hl128] at hsh
          refine m_turn hsh (sub_sh [] rfl) ?_
          refine m_nil ?_
          intro w130 hsh
          refine qn_normal ?_
          refine then_normal ?_
          refine wq_region_lit (.inl rfl) ?_
          refine r_t hst trivial rfl (x_move hst rfl) ?_; intro a hst
          refine r_t hst trivial rfl (x_assign hst rfl) ?_; intro a hst
          refine wpL_nil ?_
          refine block_normal ?_
          refine then_normal ?_
          exact ⟨k_32, Nat.lt_succ_self _, l128, i_36, H, hst.keep _ ⟨rfl, rfl, rfl, rfl, trivial⟩, hsh.pick [0]⟩
      · refine wq_seq ?_
        refine wq_region_q (.inl rfl) (fun w' => SH GG w w' [Row (Kd.int .i64) 3 va0 l_16]) (shut_sh _ _ _) hsh.drew fo (by kernel_rfl) ?_
        refine q_t hst trivial rfl (fun _ hsh => x_move hst rfl) ?_; intro a hst
        refine q_t hst trivial rfl (fun _ hsh => x_arI (r := w64 ((w64 ((w64 (2 * i_17)) + 1)) + 1)) hst rfl rfl rfl) ?_; intro a hst
        refine q_t hst trivial rfl (fun _ hsh => x_move hst rfl) ?_; intro a hst
        refine q_t hst trivial rfl (fun _ hsh => x_cmpI (b := decide ((w64 ((w64 ((w64 (2 * i_17)) + 1)) + 1)) < a2)) hst rfl rfl rfl) ?_; intro a hst
        refine q_t hst trivial rfl (fun _ hsh => x_move hst rfl) ?_; intro a hst
        obtain ⟨J_40, hJ_40, H⟩ := Jn.elim H
        refine q_join 20 (fun a => ∃ (b_39 : Bool), J_40 b_39 = some r ∧ ST [] Try.f83.ntmps a [(0, va0), (2, .int .i64 a2), (3, .int .i64 a3), (8, .int .i64 i_17), (9, .int .i64 (w64 ((w64 (2 * i_17)) + 1))), (36, .bool b_39)]) ?_ ?_
        · rintro a ⟨b_39, H, hst⟩
          subst hJ_40
          dsimp only at H
          refine q_nil ?_
          intro w136 hsh
          refine then_normal ?_
          by_cases c137 : b_39 = true
          · rw [if_pos c137] at H
            refine wq_condT hst rfl c137 ?_
            refine wq_region_lit (.inl rfl) ?_
            refine r_t hst trivial rfl (x_move hst rfl) ?_; intro a hst
            refine r_t hst trivial rfl (x_arI (r := w64 ((w64 ((w64 (2 * i_17)) + 1)) + 1)) hst rfl rfl rfl) ?_; intro a hst
            refine r_t hst trivial rfl (x_assign hst rfl) ?_; intro a hst
            refine wpL_nil ?_
            refine then_normal ?_
            exact ⟨(w64 ((w64 ((w64 (2 * i_17)) + 1)) + 1)), H, hst.keep _ ⟨rfl, rfl, rfl, rfl, rfl, trivial⟩, hsh.pick [0]⟩
          · rw [if_neg c137] at H
            replace c137 := Bool.eq_false_iff.2 c137
            refine wq_condF hst rfl c137 ?_
            refine wq_skip ?_
            refine then_normal ?_
            exact ⟨(w64 ((w64 (2 * i_17)) + 1)), H, hst.keep _ ⟨rfl, rfl, rfl, rfl, rfl, trivial⟩, hsh.pick [0]⟩
        · intro hj
          by_cases c131 : (decide ((w64 ((w64 ((w64 (2 * i_17)) + 1)) + 1)) < a2)) = true
          · rw [if_pos c131] at H
            refine q_t hst (wt_of 21 rfl rfl c131) rfl (fun _ hsh => x_move hst rfl) ?_; intro a hst
            refine q_t hst (wt_of 21 rfl rfl c131) rfl (fun _ hsh => x_move hst rfl) ?_; intro a hst
            refine q_t hst (wt_of 21 rfl rfl c131) rfl (fun _ hsh => x_move hst rfl) ?_; intro a hst
            refine q_t hst (wt_of 21 rfl rfl c131) rfl (fun _ hsh => x_arI (r := w64 (a3 + (w64 ((w64 (2 * i_17)) + 1)))) hst rfl rfl rfl) ?_; intro a hst
            obtain ⟨x138, hx138, H⟩ := Option.bind_eq_some_iff.1 H
            refine q_t hst (wt_of 21 rfl rfl c131) rfl (fun _ hsh => x_indexAddr hst Try.underlying56 el_3 rfl rfl (hsh.row 0 rfl) hx138) ?_; intro a hst
            refine q_t hst (wt_of 21 rfl rfl c131) rfl (fun _ hsh => x_loadEF (j := 0) (cs := [.int .i64 x138]) hst sc_3 rfl (hsh.row 0 rfl) (Same.refl _ _) hx138 rfl (fun _ h => h) rfl) ?_; intro a hst
            refine q_t hst (wt_of 21 rfl rfl c131) rfl (fun _ hsh => x_move hst rfl) ?_; intro a hst
            refine q_t hst (wt_of 21 rfl rfl c131) rfl (fun _ hsh => x_move hst rfl) ?_; intro a hst
            refine q_t hst (wt_of 21 rfl rfl c131) rfl (fun _ hsh => x_move hst rfl) ?_; intro a hst
            refine q_t hst (wt_of 21 rfl rfl c131) rfl (fun _ hsh => x_arI (r := w64 (a3 + (w64 ((w64 (2 * i_17)) + 1)))) hst rfl rfl rfl) ?_; intro a hst
            refine q_t hst (wt_of 21 rfl rfl c131) rfl (fun _ hsh => x_arI (r := w64 ((w64 (a3 + (w64 ((w64 (2 * i_17)) + 1)))) + 1)) hst rfl rfl rfl) ?_; intro a hst
            obtain ⟨x139, hx139, H⟩ := Option.bind_eq_some_iff.1 H
            refine q_t hst (wt_of 21 rfl rfl c131) rfl (fun _ hsh => x_indexAddr hst Try.underlying56 el_3 rfl rfl (hsh.row 0 rfl) hx139) ?_; intro a hst
            refine q_t hst (wt_of 21 rfl rfl c131) rfl (fun _ hsh => x_loadEF (j := 0) (cs := [.int .i64 x139]) hst sc_3 rfl (hsh.row 0 rfl) (Same.refl _ _) hx139 rfl (fun _ h => h) rfl) ?_; intro a hst
            obtain ⟨r140, hr140, H⟩ := Option.bind_eq_some_iff.1 H
            refine q_call hst (wt_of 21 rfl rfl c131) rfl fn_76 rfl (fun w9 hsh => cmp_Less_int.calls _ x138 x139 r140 hr140) ?_; intro a hst
            refine q_t hst trivial rfl (fun _ hsh => x_pickT hst rfl c131 rfl) ?_; intro a hst
            exact hj _ ⟨r140, H, hst.keep _ ⟨rfl, rfl, rfl, rfl, rfl, rfl, trivial⟩⟩
          · rw [if_neg c131] at H
            replace c131 := Bool.eq_false_iff.2 c131
            refine q_not hst 21 rfl rfl c131 rfl ?_; intro a hst
            refine q_not hst 21 rfl rfl c131 rfl ?_; intro a hst
            refine q_not hst 21 rfl rfl c131 rfl ?_; intro a hst
            refine q_not hst 21 rfl rfl c131 rfl ?_; intro a hst
            refine q_not hst 21 rfl rfl c131 rfl ?_; intro a hst
            refine q_not hst 21 rfl rfl c131 rfl ?_; intro a hst
            refine q_not hst 21 rfl rfl c131 rfl ?_; intro a hst
            refine q_not hst 21 rfl rfl c131 rfl ?_; intro a hst
            refine q_not hst 21 rfl rfl c131 rfl ?_; intro a hst
            refine q_not hst 21 rfl rfl c131 rfl ?_; intro a hst
            refine q_not hst 21 rfl rfl c131 rfl ?_; intro a hst
            refine q_not hst 21 rfl rfl c131 rfl ?_; intro a hst
            refine q_not hst 21 rfl rfl c131 rfl ?_; intro a hst
            refine q_not hst 21 rfl rfl c131 rfl ?_; intro a hst
            refine q_t hst trivial rfl (fun _ hsh => x_pickF hst rfl c131 rfl) ?_; intro a hst
            exact hj _ ⟨false, H, hst.keep _ ⟨rfl, rfl, rfl, rfl, rfl, rfl, trivial⟩⟩

set_option maxHeartbeats 4000000 in
set_option maxRecDepth 100000 in
theorem slices_heapSortOrdered_int.calls (k : Nat) (w : World) (GG : Nat → Prop) (va0 : Value) (a0 : (List Int)) (a1 : Int) (a2 : Int) (hsep : Sep GG w [Row (Kd.int .i64) 3 va0 a0]) (r : (List Int)) (h : slices_heapSortOrdered_int k a0 a1 a2 = some r) :
    Calls Try.prog 71 ([va0, .int .i64 a1, .int .i64 a2] : List Value).toArray w fun e w' => e = .returned (.tuple #[]) ∧ SH GG w w' [Row (Kd.int .i64) 3 va0 r] := by
 have H := h
 clear h
 unfold slices_heapSortOrdered_int at H
 refine calls_enter Try.func71 rfl rfl ?_
 intro a hst
 have hsh := SH.start hsep
 refine wq_seq ?_
 refine wq_region_lit (.inl rfl) ?_
 refine r_t hst trivial rfl (x_move hst rfl) ?_; intro a hst
 refine r_t hst trivial rfl (x_assign hst rfl) ?_; intro a hst
 refine wpL_nil ?_
 refine then_normal ?_
 refine wq_seq ?_
 refine wq_region_lit (.inl rfl) ?_
 refine r_t hst trivial rfl (x_assign hst rfl) ?_; intro a hst
 refine wpL_nil ?_
 refine then_normal ?_
 refine wq_seq ?_
 refine wq_region_lit (.inl rfl) ?_
 refine r_t hst trivial rfl (x_move hst rfl) ?_; intro a hst
 refine r_t hst trivial rfl (x_move hst rfl) ?_; intro a hst
 refine r_t hst trivial rfl (x_arI (r := w64 (a2 - a1)) hst rfl rfl rfl) ?_; intro a hst
 refine r_t hst trivial rfl (x_assign hst rfl) ?_; intro a hst
 refine wpL_nil ?_
 refine then_normal ?_
 refine wq_seq ?_
 refine wq_seq ?_
 refine wq_region_lit (.inl rfl) ?_
 refine r_t hst trivial rfl (x_move hst rfl) ?_; intro a hst
 refine r_t hst trivial rfl (x_arI (r := w64 ((w64 (a2 - a1)) - 1)) hst rfl rfl rfl) ?_; intro a hst
 refine r_t hst trivial rfl (x_quo hst rfl rfl (by decide)) ?_; intro a hst
 refine r_t hst trivial rfl (x_assign hst rfl) ?_; intro a hst
 refine wpL_nil ?_
 refine then_normal ?_
 refine wq_block ?_
 refine wq_loop_fuel (fun k_32 a w' => ∃ (l_24 : (List Int)), ∃ (i_25 : Int), ∃ (i_26 : Int), slices_heapSortOrdered_int.l0 a1 k_32 l_24 i_25 i_26 = some r ∧ ST [] Try.f71.ntmps a [(0, va0), (6, .int .i64 a1), (7, .int .i64 0), (8, .int .i64 i_25), (9, .int .i64 i_26)] ∧ SH GG w w' [Row (Kd.int .i64) 3 va0 l_24]) k ?_ ?_
 · exact ⟨a0, (w64 (a2 - a1)), (w64 (Int.tdiv (w64 ((w64 (a2 - a1)) - 1)) 2)), H, hst.keep _ ⟨rfl, rfl, rfl, rfl, rfl, trivial⟩, hsh.pick [0]⟩
 · rintro k_32 a W_27 ⟨l_24, i_25, i_26, H, hst, hsh⟩
   cases k_32 with
   | zero => rw [slices_heapSortOrdered_int.l0] at H; cases H
   | succ k_32 =>
    rw [slices_heapSortOrdered_int.l0] at H
    refine wq_seq ?_
    refine wq_seq ?_
    refine wq_region_lit (.inl rfl) ?_
    refine r_t hst trivial rfl (x_move hst rfl) ?_; intro a hst
    refine r_t hst trivial rfl (x_cmpI (b := decide (0 ≤ i_26)) hst rfl rfl rfl) ?_; intro a hst
    refine wpL_nil ?_
    refine then_normal ?_
    by_cases c42 : (decide (0 ≤ i_26)) = true
    · rw [if_pos c42] at H
      refine wq_condT hst rfl c42 ?_
      refine wq_skip ?_
      refine then_normal ?_
      refine wq_seq ?_
      refine wq_block ?_
      refine wq_region_lit (.inl rfl) ?_
      refine r_t hst trivial rfl (x_move hst rfl) ?_; intro a hst
      refine r_t hst trivial rfl (x_move hst rfl) ?_; intro a hst
      refine r_t hst trivial rfl (x_move hst rfl) ?_; intro a hst
      refine r_t hst trivial rfl (x_move hst rfl) ?_; intro a hst
      replace hsh := hsh.pick [0]
      obtain ⟨GG48, hsp, hG, hbx, hfx, hk⟩ := SH.callD (L1 := [Row (Kd.int .i64) 3 va0 l_24]) (L2 := []) hsh
      obtain ⟨r46, hr46, H⟩ := Option.bind_eq_some_iff.1 H
      refine r_callD hst trivial rfl fn_83 rfl (slices_siftDownOrdered_int.calls k_32 _ GG48 _ l_24 i_26 i_25 a1 hsp r46 hr46) ?_
      rintro e w47 ⟨rfl, hc⟩
      replace hsh := hk _ _ hc
      clear hc
      refine ⟨_, rfl, fun a hst => ?_⟩
      refine wpL_nil ?_
      refine block_normal ?_
      refine then_normal ?_
      refine wq_region_lit (.inl rfl) ?_
      refine r_t hst trivial rfl (x_move hst rfl) ?_; intro a hst
      refine r_t hst trivial rfl (x_arI (r := w64 (i_26 - 1)) hst rfl rfl rfl) ?_; intro a hst
      refine r_t hst trivial rfl (x_assign hst rfl) ?_; intro a hst
      refine wpL_nil ?_
      refine then_normal ?_
      exact ⟨k_32, Nat.lt_succ_self _, r46, i_25, (w64 (i_26 - 1)), H, hst.keep _ ⟨rfl, rfl, rfl, rfl, rfl, trivial⟩, hsh.pick [0]⟩
    · rw [if_neg c42] at H
      replace c42 := Bool.eq_false_iff.2 c42
      refine wq_condF hst rfl c42 ?_
      refine wq_exit ?_
      refine then_exit ?_
      refine then_exit ?_
      refine block_hit ?_
      refine then_normal ?_
      refine wq_seq ?_
      refine wq_region_lit (.inl rfl) ?_
      refine r_t hst trivial rfl (x_move hst rfl) ?_; intro a hst
      refine r_t hst trivial rfl (x_arI (r := w64 (i_25 - 1)) hst rfl rfl rfl) ?_; intro a hst
      refine r_t hst trivial rfl (x_assign hst rfl) ?_; intro a hst
      refine wpL_nil ?_
      refine then_normal ?_
      refine wq_block ?_
      refine wq_loop_fuel (fun k_44 a w' => ∃ (l_38 : (List Int)), ∃ (i_39 : Int), slices_heapSortOrdered_int.l1 a1 k_44 l_38 i_39 = some r ∧ ST [] Try.f71.ntmps a [(0, va0), (6, .int .i64 a1), (7, .int .i64 0), (10, .int .i64 i_39)] ∧ SH GG w w' [Row (Kd.int .i64) 3 va0 l_38]) k_32 ?_ ?_
      · exact ⟨l_24, (w64 (i_25 - 1)), H, hst.keep _ ⟨rfl, rfl, rfl, rfl, trivial⟩, hsh.pick [0]⟩
      · rintro k_44 a W_40 ⟨l_38, i_39, H, hst, hsh⟩
        cases k_44 with
        | zero => rw [slices_heapSortOrdered_int.l1] at H; cases H
        | succ k_44 =>
         rw [slices_heapSortOrdered_int.l1] at H
         refine wq_seq ?_
         refine wq_seq ?_
         refine wq_region_lit (.inl rfl) ?_
         refine r_t hst trivial rfl (x_move hst rfl) ?_; intro a hst
         refine r_t hst trivial rfl (x_cmpI (b := decide (0 ≤ i_39)) hst rfl rfl rfl) ?_; intro a hst
         refine wpL_nil ?_
         refine then_normal ?_
         by_cases c110 : (decide (0 ≤ i_39)) = true
         · rw [if_pos c110] at H
           refine wq_condT hst rfl c110 ?_
           refine wq_skip ?_
           refine then_normal ?_
           refine wq_seq ?_
           refine wq_block ?_
           refine wq_seq ?_
           have hw124_0 := hsh.row 0 rfl
           refine wq_region_t (.inl rfl) (.fin [(3, 0), (3, 1), (3, 2), (3, 3), (3, 4), (3, 5), (3, 6), (3, 7), (3, 8), (3, 9), (3, 10), (0, 11), (3, 12), (3, 13), (3, 14), (0, 15), (3, 16), (2, 17), (0, 18), (2, 19)]) (fun w' => SH GG w w' []) (fun w' => SH GG w w' [Row (Kd.int .i64) 3 va0 l_38]) (fun w' => SH GG w w' [Row (Kd.int .i64) 3 va0 l_38]) (shut_sh _ _ _) (shut_sh _ _ _) (shut_sh _ _ _) (sub_sh [] rfl) (sub_sh [0] rfl) hsh.drew fo (by kernel_rfl) ?_
           refine t_fin ?_
           refine m_p hst trivial rfl (fun _ => x_move hst rfl) ?_; intro a hst
           refine m_p hst trivial rfl (fun _ => x_move hst rfl) ?_; intro a hst
           refine m_p hst trivial rfl (fun _ => x_move hst rfl) ?_; intro a hst
           refine m_p hst trivial rfl (fun _ => x_move hst rfl) ?_; intro a hst
           refine m_p hst trivial rfl (fun _ => x_move hst rfl) ?_; intro a hst
           refine m_p hst trivial rfl (fun _ => x_arI (r := w64 (a1 + i_39)) hst rfl rfl rfl) ?_; intro a hst
           refine m_p hst trivial rfl (fun _ => x_move hst rfl) ?_; intro a hst
           refine m_p hst trivial rfl (fun _ => x_move hst rfl) ?_; intro a hst
           refine m_p hst trivial rfl (fun _ => x_move hst rfl) ?_; intro a hst
           refine m_p hst trivial rfl (fun _ => x_arI (r := w64 (a1 + i_39)) hst rfl rfl rfl) ?_; intro a hst
           obtain ⟨x125, hx125, H⟩ := Option.bind_eq_some_iff.1 H
           refine m_p hst trivial rfl (fun _ => x_indexAddr hst Try.underlying56 el_3 rfl rfl hw124_0 hx125) ?_; intro a hst
           refine m_t hst trivial rfl (fun _ hsh => x_loadEF (j := 0) (cs := [.int .i64 x125]) hst sc_3 rfl (hsh.row 0 rfl) (Same.refl _ _) hx125 rfl (fun _ h => h) rfl) ?_; intro a hst
           refine m_p hst trivial rfl (fun _ => x_move hst rfl) ?_; intro a hst
           refine m_p hst trivial rfl (fun _ => x_move hst rfl) ?_; intro a hst
           obtain ⟨x126, hx126, H⟩ := Option.bind_eq_some_iff.1 H
           refine m_p hst trivial rfl (fun _ => x_indexAddr hst Try.underlying56 el_3 rfl rfl hw124_0 hx126) ?_; intro a hst
           refine m_t hst trivial rfl (fun _ hsh => x_loadEF (j := 0) (cs := [.int .i64 x126]) hst sc_3 rfl (hsh.row 0 rfl) (Same.refl _ _) hx126 rfl (fun _ h => h) rfl) ?_; intro a hst
           obtain ⟨x127, hx127, H⟩ := Option.bind_eq_some_iff.1 H
           refine m_p hst trivial rfl (fun _ => x_indexAddr hst Try.underlying56 el_3 rfl rfl hw124_0 hx127) ?_; intro a hst
           refine m_loud (.inr rfl) ?_
           intro w128 hsh
           obtain ⟨l129, hl129, H⟩ := Option.bind_eq_some_iff.1 H
           refine r_storeE (i := 0) (off := 0) (new := x125) (cs' := [.int .i64 x125]) hst hsh trivial sc_3 rfl rfl rfl hx127 rfl (Nat.le_of_ble_eq_true rfl) rfl (fun _ _ _ h => by rw [h]; rfl) (fun _ _ => rfl) ?_; intro a w130 hsh hst
           rw [← upd_some hl129] at hsh
           refine m_turn hsh (sub_sh [] rfl) ?_
           obtain ⟨x131, hx131, H⟩ := Option.bind_eq_some_iff.1 H
           refine m_t hst trivial rfl (fun _ hsh => x_indexAddr hst Try.underlying56 el_3 rfl rfl (hsh.row 0 rfl) hx131) ?_; intro a hst
           refine m_loud (.inr rfl) ?_
           intro w132 hsh
           obtain ⟨l133, hl133, H⟩ := Option.bind_eq_some_iff.1 H
           refine r_storeE (i := 0) (off := 0) (new := x126) (cs' := [.int .i64 x126]) hst hsh trivial sc_3 rfl rfl rfl hx131 rfl (Nat.le_of_ble_eq_true rfl) rfl (fun _ _ _ h => by rw [h]; rfl) (fun _ _ => rfl) ?_; intro a w134 hsh hst
           rw [← upd_some hl133] at hsh
           refine m_turn hsh (sub_sh [] rfl) ?_
           refine m_nil ?_
           intro w135 hsh
           refine qn_normal ?_
           refine then_normal ?_
           refine wq_region_lit (.inl rfl) ?_
           refine r_t hst trivial rfl (x_move hst rfl) ?_; intro a hst
           refine r_t hst trivial rfl (x_move hst rfl) ?_; intro a hst
           refine r_t hst trivial rfl (x_move hst rfl) ?_; intro a hst
           refine r_t hst trivial rfl (x_move hst rfl) ?_; intro a hst
           replace hsh := hsh.pick [0]
           obtain ⟨GG138, hsp, hG, hbx, hfx, hk⟩ := SH.callD (L1 := [Row (Kd.int .i64) 3 va0 l133]) (L2 := []) hsh
           obtain ⟨r136, hr136, H⟩ := Option.bind_eq_some_iff.1 H
           refine r_callD hst trivial rfl fn_83 rfl (slices_siftDownOrdered_int.calls k_44 _ GG138 _ l133 0 i_39 a1 hsp r136 hr136) ?_
           rintro e w137 ⟨rfl, hc⟩
           replace hsh := hk _ _ hc
           clear hc
           refine ⟨_, rfl, fun a hst => ?_⟩
           refine wpL_nil ?_
           refine block_normal ?_
           refine then_normal ?_
           refine wq_region_lit (.inl rfl) ?_
           refine r_t hst trivial rfl (x_move hst rfl) ?_; intro a hst
           refine r_t hst trivial rfl (x_arI (r := w64 (i_39 - 1)) hst rfl rfl rfl) ?_; intro a hst
           refine r_t hst trivial rfl (x_assign hst rfl) ?_; intro a hst
           refine wpL_nil ?_
           refine then_normal ?_
           exact ⟨k_44, Nat.lt_succ_self _, r136, (w64 (i_39 - 1)), H, hst.keep _ ⟨rfl, rfl, rfl, rfl, trivial⟩, hsh.pick [0]⟩
         · rw [if_neg c110] at H
           replace c110 := Bool.eq_false_iff.2 c110
           refine wq_condF hst rfl c110 ?_
           refine wq_exit ?_
           refine then_exit ?_
           refine then_exit ?_
           refine block_hit ?_
           obtain rfl := Option.some.inj H
           exact end0 hst rfl ⟨rfl, hsh.pick [0]⟩

set_option maxHeartbeats 4000000 in
set_option maxRecDepth 100000 in
theorem slices_nextPowerOfTwo.calls (w : World) (a0 : Int) (r : Int) (h : slices_nextPowerOfTwo a0 = some r) :
    Calls Try.prog 84 ([.int .i64 a0] : List Value).toArray w fun e w' => e = .returned (.int .u64 r) ∧ SH (fun _ => False) w w' [] := by
 have H := h
 clear h
 unfold slices_nextPowerOfTwo at H
 refine calls_enter Try.func84 rfl rfl ?_
 intro a hst
 have hsh := SH.zero (fun _ => False) w
 refine wq_seq ?_
 refine wq_region_lit (.inl rfl) ?_
 refine r_t hst trivial rfl (x_assign hst rfl) ?_; intro a hst
 refine wpL_nil ?_
 refine then_normal ?_
 refine wq_seq ?_
 refine wq_region_lit (.inl rfl) ?_
 refine r_t hst trivial rfl (x_move hst rfl) ?_; intro a hst
 refine r_t hst trivial rfl (x_convI hst Try.underlying3 Try.underlying88 rfl) ?_; intro a hst
 obtain ⟨r1, hr1, H⟩ := Option.bind_eq_some_iff.1 H
 refine r_callD hst trivial rfl fn_66 rfl (math_bits_Len.calls _ (wu64 a0) r1 hr1) ?_
 rintro e w2 ⟨rfl, hc⟩
 replace hsh := hsh.call0 hc
 clear hc
 refine ⟨_, rfl, fun a hst => ?_⟩
 obtain ⟨n3, hn4, H⟩ := Option.bind_eq_some_iff.1 H
 refine r_t hst trivial rfl (x_shlO hst rfl rfl hn4) ?_; intro a hst
 refine r_t hst trivial rfl (x_assign hst rfl) ?_; intro a hst
 refine wpL_nil ?_
 refine then_normal ?_
 refine wq_ret ?_
 obtain rfl := Option.some.inj H
 exact ret1 hst rfl rfl ⟨rfl, hsh.pick []⟩

set_option maxHeartbeats 4000000 in
set_option maxRecDepth 100000 in
theorem slices_xorshift_Next.calls (w : World) (GG : Nat → Prop) (ga0 : Nat) (a0 : Int) (hsep : Sep GG w [Box ga0 [.int .u64 a0] 107]) (r : (Int × Int)) (h : slices_xorshift_Next a0 = some r) :
    Calls Try.prog 85 ([.pointer (some ⟨ga0, 0, none⟩)] : List Value).toArray w fun e w' => e = .returned (.int .u64 r.1) ∧ SH GG w w' [Box ga0 [.int .u64 r.2] 107] := by
 have H := h
 clear h
 unfold slices_xorshift_Next at H
 refine calls_enter Try.func85 rfl rfl ?_
 intro a hst
 have hsh := SH.start hsep
 refine wq_seq ?_
 refine wq_region_lit (.inl rfl) ?_
 refine r_t hst trivial rfl (x_assign hst rfl) ?_; intro a hst
 refine wpL_nil ?_
 refine then_normal ?_
 refine wq_seq ?_
 refine wq_region_t (.inl rfl) (.fin [(3, 0), (0, 1), (0, 2), (3, 3), (0, 4), (0, 5), (3, 6), (3, 7), (0, 8), (2, 9)]) (fun w' => SH GG w w' []) (fun w' => SH GG w w' [Box ga0 [.int .u64 a0] 107]) (fun w' => SH GG w w' [Box ga0 [.int .u64 a0] 107]) (shut_sh _ _ _) (shut_sh _ _ _) (shut_sh _ _ _) (sub_sh [] rfl) (sub_sh [0] rfl) hsh.drew fo (by kernel_rfl) ?_
 refine t_fin ?_
 refine m_p hst trivial rfl (fun _ => x_move hst rfl) ?_; intro a hst
 refine m_t hst trivial rfl (fun _ hsh => x_nilCheck hst rfl) ?_; intro a hst
 refine m_t hst trivial rfl (fun _ hsh => x_loadB (i := 0) hst hsh sc_107 rfl rfl rfl) ?_; intro a hst
 refine m_p hst trivial rfl (fun _ => x_move hst rfl) ?_; intro a hst
 refine m_t hst trivial rfl (fun _ hsh => x_nilCheck hst rfl) ?_; intro a hst
 refine m_t hst trivial rfl (fun _ hsh => x_loadB (i := 0) hst hsh sc_107 rfl rfl rfl) ?_; intro a hst
 refine m_p hst trivial rfl (fun _ => x_shl hst rfl rfl (by decide) (by decide)) ?_; intro a hst
 refine m_p hst trivial rfl (fun _ => x_arI (r := (bits .xor .u64 a0 (wu64 (a0 * 2 ^ (Int.toNat 13))))) hst rfl rfl rfl) ?_; intro a hst
 refine m_t hst trivial rfl (fun _ hsh => x_nilCheck hst rfl) ?_; intro a hst
 refine m_loud (.inr rfl) ?_
 intro w1 hsh
 refine r_storeB (i := 0) (cs' := [.int .u64 (bits .xor .u64 a0 (wu64 (a0 * 2 ^ (Int.toNat 13))))]) hst hsh trivial sc_107 rfl rfl rfl rfl rfl rfl ?_; intro a w2 hsh hst
 refine m_turn hsh (sub_sh [] rfl) ?_
 refine m_nil ?_
 intro w3 hsh
 refine qn_normal ?_
 refine then_normal ?_
 refine wq_seq ?_
 refine wq_region_t (.inl rfl) (.fin [(3, 0), (0, 1), (0, 2), (3, 3), (0, 4), (0, 5), (3, 6), (3, 7), (0, 8), (2, 9)]) (fun w' => SH GG w w' []) (fun w' => SH GG w w' [Box ga0 [.int .u64 (bits .xor .u64 a0 (wu64 (a0 * 2 ^ (Int.toNat 13))))] 107]) (fun w' => SH GG w w' [Box ga0 [.int .u64 (bits .xor .u64 a0 (wu64 (a0 * 2 ^ (Int.toNat 13))))] 107]) (shut_sh _ _ _) (shut_sh _ _ _) (shut_sh _ _ _) (sub_sh [] rfl) (sub_sh [0] rfl) hsh.drew fo (by kernel_rfl) ?_
 refine t_fin ?_
 refine m_p hst trivial rfl (fun _ => x_move hst rfl) ?_; intro a hst
 refine m_t hst trivial rfl (fun _ hsh => x_nilCheck hst rfl) ?_; intro a hst
 refine m_t hst trivial rfl (fun _ hsh => x_loadB (i := 0) hst hsh sc_107 rfl rfl rfl) ?_; intro a hst
 refine m_p hst trivial rfl (fun _ => x_move hst rfl) ?_; intro a hst
 refine m_t hst trivial rfl (fun _ hsh => x_nilCheck hst rfl) ?_; intro a hst
 refine m_t hst trivial rfl (fun _ hsh => x_loadB (i := 0) hst hsh sc_107 rfl rfl rfl) ?_; intro a hst
 refine m_p hst trivial rfl (fun _ => x_shr hst rfl rfl (by decide) (by decide)) ?_; intro a hst
 refine m_p hst trivial rfl (fun _ => x_arI (r := (bits .xor .u64 (bits .xor .u64 a0 (wu64 (a0 * 2 ^ (Int.toNat 13)))) ((bits .xor .u64 a0 (wu64 (a0 * 2 ^ (Int.toNat 13)))) / 2 ^ (Int.toNat 7)))) hst rfl rfl rfl) ?_; intro a hst
 refine m_t hst trivial rfl (fun _ hsh => x_nilCheck hst rfl) ?_; intro a hst
 refine m_loud (.inr rfl) ?_
 intro w4 hsh
 refine r_storeB (i := 0) (cs' := [.int .u64 (bits .xor .u64 (bits .xor .u64 a0 (wu64 (a0 * 2 ^ (Int.toNat 13)))) ((bits .xor .u64 a0 (wu64 (a0 * 2 ^ (Int.toNat 13)))) / 2 ^ (Int.toNat 7)))]) hst hsh trivial sc_107 rfl rfl rfl rfl rfl rfl ?_; intro a w5 hsh hst
 refine m_turn hsh (sub_sh [] rfl) ?_
 refine m_nil ?_
 intro w6 hsh
 refine qn_normal ?_
 refine then_normal ?_
 refine wq_seq ?_
 refine wq_region_t (.inl rfl) (.fin [(3, 0), (0, 1), (0, 2), (3, 3), (0, 4), (0, 5), (3, 6), (3, 7), (0, 8), (2, 9)]) (fun w' => SH GG w w' []) (fun w' => SH GG w w' [Box ga0 [.int .u64 (bits .xor .u64 (bits .xor .u64 a0 (wu64 (a0 * 2 ^ (Int.toNat 13)))) ((bits .xor .u64 a0 (wu64 (a0 * 2 ^ (Int.toNat 13)))) / 2 ^ (Int.toNat 7)))] 107]) (fun w' => SH GG w w' [Box ga0 [.int .u64 (bits .xor .u64 (bits .xor .u64 a0 (wu64 (a0 * 2 ^ (Int.toNat 13)))) ((bits .xor .u64 a0 (wu64 (a0 * 2 ^ (Int.toNat 13)))) / 2 ^ (Int.toNat 7)))] 107]) (shut_sh _ _ _) (shut_sh _ _ _) (shut_sh _ _ _) (sub_sh [] rfl) (sub_sh [0] rfl) hsh.drew fo (by kernel_rfl) ?_
 refine t_fin ?_
 refine m_p hst trivial rfl (fun _ => x_move hst rfl) ?_; intro a hst
 refine m_t hst trivial rfl (fun _ hsh => x_nilCheck hst rfl) ?_; intro a hst
 refine m_t hst trivial rfl (fun _ hsh => x_loadB (i := 0) hst hsh sc_107 rfl rfl rfl) ?_; intro a hst
 refine m_p hst trivial rfl (fun _ => x_move hst rfl) ?_; intro a hst
 refine m_t hst trivial rfl (fun _ hsh => x_nilCheck hst rfl) ?_; intro a hst
 refine m_t hst trivial rfl (fun _ hsh => x_loadB (i := 0) hst hsh sc_107 rfl rfl rfl) ?_; intro a hst
 refine m_p hst trivial rfl (fun _ => x_shl hst rfl rfl (by decide) (by decide)) ?_; intro a hst
 refine m_p hst trivial rfl (fun _ => x_arI (r := (bits .xor .u64 (bits .xor .u64 (bits .xor .u64 a0 (wu64 (a0 * 2 ^ (Int.toNat 13)))) ((bits .xor .u64 a0 (wu64 (a0 * 2 ^ (Int.toNat 13)))) / 2 ^ (Int.toNat 7))) (wu64 ((bits .xor .u64 (bits .xor .u64 a0 (wu64 (a0 * 2 ^ (Int.toNat 13)))) ((bits .xor .u64 a0 (wu64 (a0 * 2 ^ (Int.toNat 13)))) / 2 ^ (Int.toNat 7))) * 2 ^ (Int.toNat 17))))) hst rfl rfl rfl) ?_; intro a hst
 refine m_t hst trivial rfl (fun _ hsh => x_nilCheck hst rfl) ?_; intro a hst
 refine m_loud (.inr rfl) ?_
 intro w7 hsh
 refine r_storeB (i := 0) (cs' := [.int .u64 (bits .xor .u64 (bits .xor .u64 (bits .xor .u64 a0 (wu64 (a0 * 2 ^ (Int.toNat 13)))) ((bits .xor .u64 a0 (wu64 (a0 * 2 ^ (Int.toNat 13)))) / 2 ^ (Int.toNat 7))) (wu64 ((bits .xor .u64 (bits .xor .u64 a0 (wu64 (a0 * 2 ^ (Int.toNat 13)))) ((bits .xor .u64 a0 (wu64 (a0 * 2 ^ (Int.toNat 13)))) / 2 ^ (Int.toNat 7))) * 2 ^ (Int.toNat 17))))]) hst hsh trivial sc_107 rfl rfl rfl rfl rfl rfl ?_; intro a w8 hsh hst
 refine m_turn hsh (sub_sh [] rfl) ?_
 refine m_nil ?_
 intro w9 hsh
 refine qn_normal ?_
 refine then_normal ?_
 refine wq_seq ?_
 refine wq_region_lit (.inl rfl) ?_
 refine r_t hst trivial rfl (x_move hst rfl) ?_; intro a hst
 refine r_t hst trivial rfl (x_nilCheck hst rfl) ?_; intro a hst
 refine r_t hst trivial rfl (x_loadB (i := 0) hst hsh sc_107 rfl rfl rfl) ?_; intro a hst
 refine r_t hst trivial rfl (x_assign hst rfl) ?_; intro a hst
 refine wpL_nil ?_
 refine then_normal ?_
 refine wq_ret ?_
 obtain rfl := Option.some.inj H
 exact ret1 hst rfl rfl ⟨rfl, hsh.pick [0]⟩

set_option maxHeartbeats 4000000 in
set_option maxRecDepth 100000 in
theorem slices_breakPatternsOrdered_int.calls (k : Nat) (w : World) (GG : Nat → Prop) (va0 : Value) (a0 : (List Int)) (a1 : Int) (a2 : Int) (hsep : Sep GG w [Row (Kd.int .i64) 3 va0 a0]) (r : (List Int)) (h : slices_breakPatternsOrdered_int k a0 a1 a2 = some r) :
    Calls Try.prog 72 ([va0, .int .i64 a1, .int .i64 a2] : List Value).toArray w fun e w' => e = .returned (.tuple #[]) ∧ SH GG w w' [Row (Kd.int .i64) 3 va0 r] := by
 have H := h
 clear h
 unfold slices_breakPatternsOrdered_int at H
 refine calls_enter Try.func72 rfl rfl ?_
 intro a hst
 have hsh := SH.start hsep
 refine wq_seq ?_
 refine wq_region_lit (.inl rfl) ?_
 refine r_t hst trivial rfl (x_move hst rfl) ?_; intro a hst
 refine r_t hst trivial rfl (x_move hst rfl) ?_; intro a hst
 refine r_t hst trivial rfl (x_arI (r := w64 (a2 - a1)) hst rfl rfl rfl) ?_; intro a hst
 refine r_t hst trivial rfl (x_assign hst rfl) ?_; intro a hst
 refine wpL_nil ?_
 refine then_normal ?_
 refine wq_seq ?_
 refine wq_region_lit (.inl rfl) ?_
 refine r_t hst trivial rfl (x_move hst rfl) ?_; intro a hst
 refine r_t hst trivial rfl (x_cmpI (b := decide (8 ≤ (w64 (a2 - a1)))) hst rfl rfl rfl) ?_; intro a hst
 refine wpL_nil ?_
 refine then_normal ?_
 by_cases c1 : (decide (8 ≤ (w64 (a2 - a1)))) = true
 · rw [if_pos c1] at H
   refine wq_condT hst rfl c1 ?_
   refine wq_seq ?_
   refine wq_region_lit (.inl rfl) ?_
   refine r_t hst trivial rfl (x_move hst rfl) ?_; intro a hst
   refine r_t hst trivial rfl (x_convI hst Try.underlying3 Try.underlying107 rfl) ?_; intro a hst
   refine r_alloc hst hsh trivial rfl zr_107 ?_
   intro g2 a w3 hgg2 hsh hst
   refine r_storeB (i := 0) (cs' := [.int .u64 (wu64 (w64 (a2 - a1)))]) hst hsh trivial sc_107 rfl rfl rfl rfl rfl rfl ?_; intro a w4 hsh hst
   refine wpL_nil ?_
   refine then_normal ?_
   refine wq_seq ?_
   refine wq_region_lit (.inl rfl) ?_
   refine r_t hst trivial rfl (x_move hst rfl) ?_; intro a hst
   obtain ⟨r5, hr5, H⟩ := Option.bind_eq_some_iff.1 H
   refine r_callD hst trivial rfl fn_84 rfl (slices_nextPowerOfTwo.calls _ (w64 (a2 - a1)) r5 hr5) ?_
   rintro e w6 ⟨rfl, hc⟩
   replace hsh := hsh.call0 hc
   clear hc
   refine ⟨_, rfl, fun a hst => ?_⟩
   refine r_t hst trivial rfl (x_assign hst rfl) ?_; intro a hst
   refine wpL_nil ?_
   refine then_normal ?_
   refine wq_seq ?_
   refine wq_region_lit (.inl rfl) ?_
   refine r_t hst trivial rfl (x_move hst rfl) ?_; intro a hst
   refine r_t hst trivial rfl (x_move hst rfl) ?_; intro a hst
   refine r_t hst trivial rfl (x_quo hst rfl rfl (by decide)) ?_; intro a hst
   refine r_t hst trivial rfl (x_arI (r := w64 ((w64 (Int.tdiv (w64 (a2 - a1)) 4)) * 2)) hst rfl rfl rfl) ?_; intro a hst
   refine r_t hst trivial rfl (x_arI (r := w64 (a1 + (w64 ((w64 (Int.tdiv (w64 (a2 - a1)) 4)) * 2)))) hst rfl rfl rfl) ?_; intro a hst
   refine r_t hst trivial rfl (x_arI (r := w64 ((w64 (a1 + (w64 ((w64 (Int.tdiv (w64 (a2 - a1)) 4)) * 2)))) - 1)) hst rfl rfl rfl) ?_; intro a hst
   refine r_t hst trivial rfl (x_assign hst rfl) ?_; intro a hst
   refine wpL_nil ?_
   refine then_normal ?_
   refine wq_block ?_
   refine wq_loop_fuel (fun k_32 a w' => ∃ (l_16 : (List Int)), ∃ (i_17 : Int), ∃ (i_18 : Int), ∃ (i_19 : Int), slices_breakPatternsOrdered_int.l0 a1 r5 k_32 l_16 i_17 i_18 i_19 = some r ∧ ST [] Try.f72.ntmps a [(0, va0), (1, .int .i64 a1), (6, .int .i64 i_17), (7, .pointer (some ⟨g2, 0, none⟩)), (8, .int .u64 r5), (9, .int .i64 i_19)] ∧ SH GG w w' [Row (Kd.int .i64) 3 va0 l_16, Box g2 [.int .u64 i_18] 107]) k ?_ ?_
   · exact ⟨a0, (w64 (a2 - a1)), (wu64 (w64 (a2 - a1))), (w64 ((w64 (a1 + (w64 ((w64 (Int.tdiv (w64 (a2 - a1)) 4)) * 2)))) - 1)), H, hst.keep _ ⟨rfl, rfl, rfl, rfl, rfl, rfl, trivial⟩, hsh.pick [1, 0]⟩
   · rintro k_32 a W_20 ⟨l_16, i_17, i_18, i_19, H, hst, hsh⟩
     cases k_32 with
     | zero => rw [slices_breakPatternsOrdered_int.l0] at H; cases H
     | succ k_32 =>
      rw [slices_breakPatternsOrdered_int.l0] at H
      refine wq_seq ?_
      refine wq_seq ?_
      refine wq_region_lit (.inl rfl) ?_
      refine r_t hst trivial rfl (x_move hst rfl) ?_; intro a hst
      refine r_t hst trivial rfl (x_move hst rfl) ?_; intro a hst
      refine r_t hst trivial rfl (x_move hst rfl) ?_; intro a hst
      refine r_t hst trivial rfl (x_quo hst rfl rfl (by decide)) ?_; intro a hst
      refine r_t hst trivial rfl (x_arI (r := w64 ((w64 (Int.tdiv i_17 4)) * 2)) hst rfl rfl rfl) ?_; intro a hst
      refine r_t hst trivial rfl (x_arI (r := w64 (a1 + (w64 ((w64 (Int.tdiv i_17 4)) * 2)))) hst rfl rfl rfl) ?_; intro a hst
      refine r_t hst trivial rfl (x_arI (r := w64 ((w64 (a1 + (w64 ((w64 (Int.tdiv i_17 4)) * 2)))) + 1)) hst rfl rfl rfl) ?_; intro a hst
      refine r_t hst trivial rfl (x_cmpI (b := decide (i_19 ≤ (w64 ((w64 (a1 + (w64 ((w64 (Int.tdiv i_17 4)) * 2)))) + 1)))) hst rfl rfl rfl) ?_; intro a hst
      refine wpL_nil ?_
      refine then_normal ?_
      by_cases c76 : (decide (i_19 ≤ (w64 ((w64 (a1 + (w64 ((w64 (Int.tdiv i_17 4)) * 2)))) + 1)))) = true
      · rw [if_pos c76] at H
        refine wq_condT hst rfl c76 ?_
        refine wq_skip ?_
        refine then_normal ?_
        refine wq_seq ?_
        refine wq_block ?_
        refine wq_seq ?_
        refine wq_region_lit (.inl rfl) ?_
        replace hsh := hsh.pick [1, 0]
        obtain ⟨GG95, hsp, hG, hbx, hfx, hk⟩ := SH.callD (L1 := [Box g2 [.int .u64 i_18] 107]) (L2 := [Row (Kd.int .i64) 3 va0 l_16]) hsh
        obtain ⟨r93, hr93, H⟩ := Option.bind_eq_some_iff.1 H
        refine r_callD hst trivial rfl fn_85 rfl (slices_xorshift_Next.calls _ GG95 g2 i_18 hsp r93 hr93) ?_
        rintro e w94 ⟨rfl, hc⟩
        replace hsh := hk _ _ hc
        clear hc
        refine ⟨_, rfl, fun a hst => ?_⟩
        refine r_t hst trivial rfl (x_move hst rfl) ?_; intro a hst
        refine r_t hst trivial rfl (x_arI (r := wu64 (r5 - 1)) hst rfl rfl rfl) ?_; intro a hst
        refine r_t hst trivial rfl (x_arI (r := (bits .and .u64 r93.1 (wu64 (r5 - 1)))) hst rfl rfl rfl) ?_; intro a hst
        refine r_t hst trivial rfl (x_convI hst Try.underlying88 Try.underlying3 rfl) ?_; intro a hst
        refine r_t hst trivial rfl (x_assign hst rfl) ?_; intro a hst
        refine wpL_nil ?_
        refine then_normal ?_
        obtain ⟨J_38, hJ_38, H⟩ := Jn.elim H
        refine wq_cut (fun a w' => ∃ (i_36 : Int), J_38 i_36 = some r ∧ ST [] Try.f72.ntmps a [(0, va0), (1, .int .i64 a1), (6, .int .i64 i_17), (7, .pointer (some ⟨g2, 0, none⟩)), (8, .int .u64 r5), (9, .int .i64 i_19), (10, .int .i64 i_36)] ∧ SH GG w w' [Row (Kd.int .i64) 3 va0 l_16, Box g2 [.int .u64 r93.2] 107]) ?_ ?_
        · rintro a W_37 ⟨i_36, H, hst, hsh⟩
          subst hJ_38
          dsimp only at H
          have hw96_0 := hsh.row 0 rfl
          refine wq_region_t (.inl rfl) (.fin [(3, 0), (3, 1), (3, 2), (3, 3), (3, 4), (3, 5), (3, 6), (3, 7), (3, 8), (3, 9), (3, 10), (0, 11), (3, 12), (3, 13), (3, 14), (0, 15), (3, 16), (2, 17), (0, 18), (2, 19)]) (fun w' => SH GG w w' [Box g2 [.int .u64 r93.2] 107]) (fun w' => SH GG w w' [Row (Kd.int .i64) 3 va0 l_16, Box g2 [.int .u64 r93.2] 107]) (fun w' => SH GG w w' [Row (Kd.int .i64) 3 va0 l_16, Box g2 [.int .u64 r93.2] 107]) (shut_sh _ _ _) (shut_sh _ _ _) (shut_sh _ _ _) (sub_sh [1] rfl) (sub_sh [0, 0] rfl) hsh.drew fo (by kernel_rfl) ?_
          refine t_fin ?_
          refine m_p hst trivial rfl (fun _ => x_move hst rfl) ?_; intro a hst
          refine m_p hst trivial rfl (fun _ => x_move hst rfl) ?_; intro a hst
          refine m_p hst trivial rfl (fun _ => x_move hst rfl) ?_; intro a hst
          refine m_p hst trivial rfl (fun _ => x_move hst rfl) ?_; intro a hst
          refine m_p hst trivial rfl (fun _ => x_move hst rfl) ?_; intro a hst
          refine m_p hst trivial rfl (fun _ => x_arI (r := w64 (a1 + i_36)) hst rfl rfl rfl) ?_; intro a hst
          refine m_p hst trivial rfl (fun _ => x_move hst rfl) ?_; intro a hst
          refine m_p hst trivial rfl (fun _ => x_move hst rfl) ?_; intro a hst
          refine m_p hst trivial rfl (fun _ => x_move hst rfl) ?_; intro a hst
          refine m_p hst trivial rfl (fun _ => x_arI (r := w64 (a1 + i_36)) hst rfl rfl rfl) ?_; intro a hst
          obtain ⟨x97, hx97, H⟩ := Option.bind_eq_some_iff.1 H
          refine m_p hst trivial rfl (fun _ => x_indexAddr hst Try.underlying56 el_3 rfl rfl hw96_0 hx97) ?_; intro a hst
          refine m_t hst trivial rfl (fun _ hsh => x_loadEF (j := 0) (cs := [.int .i64 x97]) hst sc_3 rfl (hsh.row 0 rfl) (Same.refl _ _) hx97 rfl (fun _ h => h) rfl) ?_; intro a hst
          refine m_p hst trivial rfl (fun _ => x_move hst rfl) ?_; intro a hst
          refine m_p hst trivial rfl (fun _ => x_move hst rfl) ?_; intro a hst
          obtain ⟨x98, hx98, H⟩ := Option.bind_eq_some_iff.1 H
          refine m_p hst trivial rfl (fun _ => x_indexAddr hst Try.underlying56 el_3 rfl rfl hw96_0 hx98) ?_; intro a hst
          refine m_t hst trivial rfl (fun _ hsh => x_loadEF (j := 0) (cs := [.int .i64 x98]) hst sc_3 rfl (hsh.row 0 rfl) (Same.refl _ _) hx98 rfl (fun _ h => h) rfl) ?_; intro a hst
          obtain ⟨x99, hx99, H⟩ := Option.bind_eq_some_iff.1 H
          refine m_p hst trivial rfl (fun _ => x_indexAddr hst Try.underlying56 el_3 rfl rfl hw96_0 hx99) ?_; intro a hst
          refine m_loud (.inr rfl) ?_
          intro w100 hsh
          obtain ⟨l101, hl101, H⟩ := Option.bind_eq_some_iff.1 H
          refine r_storeE (i := 0) (off := 0) (new := x97) (cs' := [.int .i64 x97]) hst hsh trivial sc_3 rfl rfl rfl hx99 rfl (Nat.le_of_ble_eq_true rfl) rfl (fun _ _ _ h => by rw [h]; rfl) (fun _ _ => rfl) ?_; intro a w102 hsh hst
          rw [← upd_some hl101] at hsh
          refine m_turn hsh (sub_sh [1] rfl) ?_
          obtain ⟨x103, hx103, H⟩ := Option.bind_eq_some_iff.1 H
          refine m_t hst trivial rfl (fun _ hsh => x_indexAddr hst Try.underlying56 el_3 rfl rfl (hsh.row 0 rfl) hx103) ?_; intro a hst
          refine m_loud (.inr rfl) ?_
          intro w104 hsh
          obtain ⟨l105, hl105, H⟩ := Option.bind_eq_some_iff.1 H
          refine r_storeE (i := 0) (off := 0) (new := x98) (cs' := [.int .i64 x98]) hst hsh trivial sc_3 rfl rfl rfl hx103 rfl (Nat.le_of_ble_eq_true rfl) rfl (fun _ _ _ h => by rw [h]; rfl) (fun _ _ => rfl) ?_; intro a w106 hsh hst
          rw [← upd_some hl105] at hsh
          refine m_turn hsh (sub_sh [1] rfl) ?_
          refine m_nil ?_
          intro w107 hsh
          refine qn_normal ?_
          refine block_normal ?_
          refine then_normal ?_
          refine wq_region_lit (.inl rfl) ?_
          refine r_t hst trivial rfl (x_move hst rfl) ?_; intro a hst
          refine r_t hst trivial rfl (x_arI (r := w64 (i_19 + 1)) hst rfl rfl rfl) ?_; intro a hst
          refine r_t hst trivial rfl (x_assign hst rfl) ?_; intro a hst
          refine wpL_nil ?_
          refine then_normal ?_
          exact ⟨k_32, Nat.lt_succ_self _, l105, i_17, r93.2, (w64 (i_19 + 1)), H, hst.keep _ ⟨rfl, rfl, rfl, rfl, rfl, rfl, trivial⟩, hsh.pick [0, 0]⟩
        · refine wq_seq ?_
          refine wq_region_lit (.inl rfl) ?_
          refine r_t hst trivial rfl (x_move hst rfl) ?_; intro a hst
          refine r_t hst trivial rfl (x_move hst rfl) ?_; intro a hst
          refine r_t hst trivial rfl (x_cmpI (b := decide (i_17 ≤ (w64 (bits .and .u64 r93.1 (wu64 (r5 - 1)))))) hst rfl rfl rfl) ?_; intro a hst
          refine wpL_nil ?_
          refine then_normal ?_
          by_cases c108 : (decide (i_17 ≤ (w64 (bits .and .u64 r93.1 (wu64 (r5 - 1)))))) = true
          · rw [if_pos c108] at H
            refine wq_condT hst rfl c108 ?_
            refine wq_region_lit (.inl rfl) ?_
            refine r_t hst trivial rfl (x_move hst rfl) ?_; intro a hst
            refine r_t hst trivial rfl (x_move hst rfl) ?_; intro a hst
            refine r_t hst trivial rfl (x_arI (r := w64 ((w64 (bits .and .u64 r93.1 (wu64 (r5 - 1)))) - i_17)) hst rfl rfl rfl) ?_; intro a hst
            refine r_t hst trivial rfl (x_assign hst rfl) ?_; intro a hst
            refine wpL_nil ?_
            refine then_normal ?_
            exact ⟨(w64 ((w64 (bits .and .u64 r93.1 (wu64 (r5 - 1)))) - i_17)), H, hst.keep _ ⟨rfl, rfl, rfl, rfl, rfl, rfl, rfl, trivial⟩, hsh.pick [1, 0]⟩
          · rw [if_neg c108] at H
            replace c108 := Bool.eq_false_iff.2 c108
            refine wq_condF hst rfl c108 ?_
            refine wq_skip ?_
            refine then_normal ?_
            exact ⟨(w64 (bits .and .u64 r93.1 (wu64 (r5 - 1)))), H, hst.keep _ ⟨rfl, rfl, rfl, rfl, rfl, rfl, rfl, trivial⟩, hsh.pick [1, 0]⟩
      · rw [if_neg c76] at H
        replace c76 := Bool.eq_false_iff.2 c76
        refine wq_condF hst rfl c76 ?_
        refine wq_exit ?_
        refine then_exit ?_
        refine then_exit ?_
        refine block_hit ?_
        obtain rfl := Option.some.inj H
        exact end0 hst rfl ⟨rfl, hsh.pick [0]⟩
 · rw [if_neg c1] at H
   replace c1 := Bool.eq_false_iff.2 c1
   refine wq_condF hst rfl c1 ?_
   refine wq_skip ?_
   obtain rfl := Option.some.inj H
   exact end0 hst rfl ⟨rfl, hsh.pick [0]⟩

set_option maxHeartbeats 4000000 in
set_option maxRecDepth 100000 in
theorem slices_order2Ordered_int.calls (w : World) (GG : Nat → Prop) (va0 : Value) (Za0 : Nat → Prop) (wra0 : World) (hsa0 : Same Za0 wra0 w) (hda0 : ∀ k, Za0 k → k < wra0.heap.size → ¬ GG k) (a0 : (List Int)) (hra0 : RD (Kd.int .i64) Za0 wra0 va0 a0) (a1 : Int) (a2 : Int) (ga3 : Nat) (a3 : Int) (hsep : Sep GG w [Box ga3 [.int .i64 a3] 3]) (r : (Int × Int × Int)) (h : slices_order2Ordered_int a0 a1 a2 a3 = some r) :
    Calls Try.prog 89 ([va0, .int .i64 a1, .int .i64 a2, .pointer (some ⟨ga3, 0, none⟩)] : List Value).toArray w fun e w' => e = .returned (.tuple #[.int .i64 r.1, .int .i64 r.2.1]) ∧ SH GG w w' [Box ga3 [.int .i64 r.2.2] 3] := by
 have H := h
 clear h
 unfold slices_order2Ordered_int at H
 refine calls_enter Try.func89 rfl rfl ?_
 intro a hst
 have hsh := SH.start hsep
 refine wq_seq ?_
 refine wq_region_lit (.inl rfl) ?_
 refine r_t hst trivial rfl (x_assign hst rfl) ?_; intro a hst
 refine r_t hst trivial rfl (x_assign hst rfl) ?_; intro a hst
 refine wpL_nil ?_
 refine then_normal ?_
 refine wq_seq ?_
 refine wq_seq ?_
 refine wq_region_q (.inl rfl) (fun w' => SH GG w w' [Box ga3 [.int .i64 a3] 3]) (shut_sh _ _ _) hsh.drew fo (by kernel_rfl) ?_
 refine q_t hst trivial rfl (fun _ hsh => x_move hst rfl) ?_; intro a hst
 refine q_t hst trivial rfl (fun _ hsh => x_move hst rfl) ?_; intro a hst
 obtain ⟨x8, hx8, H⟩ := Option.bind_eq_some_iff.1 H
 refine q_t hst trivial rfl (fun _ hsh => x_indexAddr hst Try.underlying56 el_3 rfl rfl hra0 hx8) ?_; intro a hst
 refine q_t hst trivial rfl (fun _ hsh => x_loadEF (j := 0) (cs := [.int .i64 x8]) hst sc_3 rfl hra0 (Same.sh2 hsa0 hda0 hsh) hx8 rfl (fun _ h => h) rfl) ?_; intro a hst
 refine q_t hst trivial rfl (fun _ hsh => x_move hst rfl) ?_; intro a hst
 refine q_t hst trivial rfl (fun _ hsh => x_move hst rfl) ?_; intro a hst
 obtain ⟨x9, hx9, H⟩ := Option.bind_eq_some_iff.1 H
 refine q_t hst trivial rfl (fun _ hsh => x_indexAddr hst Try.underlying56 el_3 rfl rfl hra0 hx9) ?_; intro a hst
 refine q_t hst trivial rfl (fun _ hsh => x_loadEF (j := 0) (cs := [.int .i64 x9]) hst sc_3 rfl hra0 (Same.sh2 hsa0 hda0 hsh) hx9 rfl (fun _ h => h) rfl) ?_; intro a hst
 obtain ⟨r10, hr10, H⟩ := Option.bind_eq_some_iff.1 H
 refine q_call hst trivial rfl fn_76 rfl (fun w9 hsh => cmp_Less_int.calls _ x8 x9 r10 hr10) ?_; intro a hst
 refine q_nil ?_
 intro w12 hsh
 refine then_normal ?_
 by_cases c13 : r10 = true
 · rw [if_pos c13] at H
   refine wq_condT hst rfl c13 ?_
   refine wq_seq ?_
   refine wq_region_lit (.inl rfl) ?_
   refine r_t hst trivial rfl (x_move hst rfl) ?_; intro a hst
   refine r_t hst trivial rfl (x_nilCheck hst rfl) ?_; intro a hst
   refine r_t hst trivial rfl (x_loadB (i := 0) hst hsh sc_3 rfl rfl rfl) ?_; intro a hst
   refine r_t hst trivial rfl (x_arI (r := w64 (a3 + 1)) hst rfl rfl rfl) ?_; intro a hst
   refine r_t hst trivial rfl (x_nilCheck hst rfl) ?_; intro a hst
   refine r_storeB (i := 0) (cs' := [.int .i64 (w64 (a3 + 1))]) hst hsh trivial sc_3 rfl rfl rfl rfl rfl rfl ?_; intro a w14 hsh hst
   refine wpL_nil ?_
   refine then_normal ?_
   refine wq_seq ?_
   refine wq_region_lit (.inl rfl) ?_
   refine r_t hst trivial rfl (x_move hst rfl) ?_; intro a hst
   refine r_t hst trivial rfl (x_move hst rfl) ?_; intro a hst
   refine r_t hst trivial rfl (x_assign hst rfl) ?_; intro a hst
   refine r_t hst trivial rfl (x_assign hst rfl) ?_; intro a hst
   refine wpL_nil ?_
   refine then_normal ?_
   refine wq_ret ?_
   refine then_ret ?_
   obtain rfl := Option.some.inj H
   exact ret2 hst rfl rfl rfl ⟨rfl, hsh.pick [0]⟩
 · rw [if_neg c13] at H
   replace c13 := Bool.eq_false_iff.2 c13
   refine wq_condF hst rfl c13 ?_
   refine wq_skip ?_
   refine then_normal ?_
   refine wq_seq ?_
   refine wq_region_lit (.inl rfl) ?_
   refine r_t hst trivial rfl (x_move hst rfl) ?_; intro a hst
   refine r_t hst trivial rfl (x_move hst rfl) ?_; intro a hst
   refine r_t hst trivial rfl (x_assign hst rfl) ?_; intro a hst
   refine r_t hst trivial rfl (x_assign hst rfl) ?_; intro a hst
   refine wpL_nil ?_
   refine then_normal ?_
   refine wq_ret ?_
   obtain rfl := Option.some.inj H
   exact ret2 hst rfl rfl rfl ⟨rfl, hsh.pick [0]⟩

set_option maxHeartbeats 4000000 in
set_option maxRecDepth 100000 in
theorem slices_medianOrdered_int.calls (w : World) (GG : Nat → Prop) (va0 : Value) (Za0 : Nat → Prop) (wra0 : World) (hsa0 : Same Za0 wra0 w) (hda0 : ∀ k, Za0 k → k < wra0.heap.size → ¬ GG k) (a0 : (List Int)) (hra0 : RD (Kd.int .i64) Za0 wra0 va0 a0) (a1 : Int) (a2 : Int) (a3 : Int) (ga4 : Nat) (a4 : Int) (hsep : Sep GG w [Box ga4 [.int .i64 a4] 3]) (r : (Int × Int)) (h : slices_medianOrdered_int a0 a1 a2 a3 a4 = some r) :
    Calls Try.prog 87 ([va0, .int .i64 a1, .int .i64 a2, .int .i64 a3, .pointer (some ⟨ga4, 0, none⟩)] : List Value).toArray w fun e w' => e = .returned (.int .i64 r.1) ∧ SH GG w w' [Box ga4 [.int .i64 r.2] 3] := by
 have H := h
 clear h
 unfold slices_medianOrdered_int at H
 refine calls_enter Try.func87 rfl rfl ?_
 intro a hst
 have hsh := SH.start hsep
 refine wq_seq ?_
 refine wq_region_lit (.inl rfl) ?_
 refine r_t hst trivial rfl (x_assign hst rfl) ?_; intro a hst
 refine wpL_nil ?_
 refine then_normal ?_
 refine wq_seq ?_
 refine wq_region_lit (.inl rfl) ?_
 refine r_t hst trivial rfl (x_move hst rfl) ?_; intro a hst
 refine r_t hst trivial rfl (x_move hst rfl) ?_; intro a hst
 refine r_t hst trivial rfl (x_move hst rfl) ?_; intro a hst
 refine r_t hst trivial rfl (x_move hst rfl) ?_; intro a hst
 replace hsh := hsh.pick [0]
 obtain ⟨GG3, hsp, hG, hbx, hfx, hk⟩ := SH.callD (L1 := [Box ga4 [.int .i64 a4] 3]) (L2 := []) hsh
 obtain ⟨r1, hr1, H⟩ := Option.bind_eq_some_iff.1 H
 refine r_callD hst trivial rfl fn_89 rfl (slices_order2Ordered_int.calls _ GG3 _ _ _ (Same.sh2 hsa0 hda0 hsh) (disj_own hsa0 hda0 hG) _ hra0 a1 a2 ga4 a4 hsp r1 hr1) ?_
 rintro e w2 ⟨rfl, hc⟩
 replace hsh := hk _ _ hc
 clear hc
 refine ⟨_, rfl, fun a hst => ?_⟩
 refine r_t hst trivial rfl (x_move hst rfl) ?_; intro a hst
 refine r_t hst trivial rfl (x_extract hst rfl rfl) ?_; intro a hst
 refine r_t hst trivial rfl (x_extract hst rfl rfl) ?_; intro a hst
 refine r_t hst trivial rfl (x_assign hst rfl) ?_; intro a hst
 refine r_t hst trivial rfl (x_assign hst rfl) ?_; intro a hst
 refine wpL_nil ?_
 refine then_normal ?_
 refine wq_seq ?_
 refine wq_region_lit (.inl rfl) ?_
 refine r_t hst trivial rfl (x_move hst rfl) ?_; intro a hst
 refine r_t hst trivial rfl (x_move hst rfl) ?_; intro a hst
 refine r_t hst trivial rfl (x_move hst rfl) ?_; intro a hst
 refine r_t hst trivial rfl (x_move hst rfl) ?_; intro a hst
 replace hsh := hsh.pick [0]
 obtain ⟨GG6, hsp, hG, hbx, hfx, hk⟩ := SH.callD (L1 := [Box ga4 [.int .i64 r1.2.2] 3]) (L2 := []) hsh
 obtain ⟨r4, hr4, H⟩ := Option.bind_eq_some_iff.1 H
 refine r_callD hst trivial rfl fn_89 rfl (slices_order2Ordered_int.calls _ GG6 _ _ _ (Same.sh2 hsa0 hda0 hsh) (disj_own hsa0 hda0 hG) _ hra0 r1.2.1 a3 ga4 r1.2.2 hsp r4 hr4) ?_
 rintro e w5 ⟨rfl, hc⟩
 replace hsh := hk _ _ hc
 clear hc
 refine ⟨_, rfl, fun a hst => ?_⟩
 refine r_t hst trivial rfl (x_move hst rfl) ?_; intro a hst
 refine r_t hst trivial rfl (x_extract hst rfl rfl) ?_; intro a hst
 refine r_t hst trivial rfl (x_extract hst rfl rfl) ?_; intro a hst
 refine r_t hst trivial rfl (x_assign hst rfl) ?_; intro a hst
 refine r_t hst trivial rfl (x_assign hst rfl) ?_; intro a hst
 refine wpL_nil ?_
 refine then_normal ?_
 refine wq_seq ?_
 refine wq_region_lit (.inl rfl) ?_
 refine r_t hst trivial rfl (x_move hst rfl) ?_; intro a hst
 refine r_t hst trivial rfl (x_move hst rfl) ?_; intro a hst
 refine r_t hst trivial rfl (x_move hst rfl) ?_; intro a hst
 refine r_t hst trivial rfl (x_move hst rfl) ?_; intro a hst
 replace hsh := hsh.pick [0]
 obtain ⟨GG9, hsp, hG, hbx, hfx, hk⟩ := SH.callD (L1 := [Box ga4 [.int .i64 r4.2.2] 3]) (L2 := []) hsh
 obtain ⟨r7, hr7, H⟩ := Option.bind_eq_some_iff.1 H
 refine r_callD hst trivial rfl fn_89 rfl (slices_order2Ordered_int.calls _ GG9 _ _ _ (Same.sh2 hsa0 hda0 hsh) (disj_own hsa0 hda0 hG) _ hra0 r1.1 r4.1 ga4 r4.2.2 hsp r7 hr7) ?_
 rintro e w8 ⟨rfl, hc⟩
 replace hsh := hk _ _ hc
 clear hc
 refine ⟨_, rfl, fun a hst => ?_⟩
 refine r_t hst trivial rfl (x_move hst rfl) ?_; intro a hst
 refine r_t hst trivial rfl (x_extract hst rfl rfl) ?_; intro a hst
 refine r_t hst trivial rfl (x_extract hst rfl rfl) ?_; intro a hst
 refine r_t hst trivial rfl (x_assign hst rfl) ?_; intro a hst
 refine r_t hst trivial rfl (x_assign hst rfl) ?_; intro a hst
 refine wpL_nil ?_
 refine then_normal ?_
 refine wq_seq ?_
 refine wq_region_lit (.inl rfl) ?_
 refine r_t hst trivial rfl (x_move hst rfl) ?_; intro a hst
 refine r_t hst trivial rfl (x_assign hst rfl) ?_; intro a hst
 refine wpL_nil ?_
 refine then_normal ?_
 refine wq_ret ?_
 obtain rfl := Option.some.inj H
 exact ret1 hst rfl rfl ⟨rfl, hsh.pick [0]⟩

set_option maxHeartbeats 4000000 in
set_option maxRecDepth 100000 in
theorem slices_medianAdjacentOrdered_int.calls (w : World) (GG : Nat → Prop) (va0 : Value) (Za0 : Nat → Prop) (wra0 : World) (hsa0 : Same Za0 wra0 w) (hda0 : ∀ k, Za0 k → k < wra0.heap.size → ¬ GG k) (a0 : (List Int)) (hra0 : RD (Kd.int .i64) Za0 wra0 va0 a0) (a1 : Int) (ga2 : Nat) (a2 : Int) (hsep : Sep GG w [Box ga2 [.int .i64 a2] 3]) (r : (Int × Int)) (h : slices_medianAdjacentOrdered_int a0 a1 a2 = some r) :
    Calls Try.prog 86 ([va0, .int .i64 a1, .pointer (some ⟨ga2, 0, none⟩)] : List Value).toArray w fun e w' => e = .returned (.int .i64 r.1) ∧ SH GG w w' [Box ga2 [.int .i64 r.2] 3] := by
 have H := h
 clear h
 unfold slices_medianAdjacentOrdered_int at H
 refine calls_enter Try.func86 rfl rfl ?_
 intro a hst
 have hsh := SH.start hsep
 refine wq_seq ?_
 refine wq_region_lit (.inl rfl) ?_
 refine r_t hst trivial rfl (x_assign hst rfl) ?_; intro a hst
 refine wpL_nil ?_
 refine then_normal ?_
 refine wq_seq ?_
 refine wq_region_lit (.inl rfl) ?_
 refine r_t hst trivial rfl (x_move hst rfl) ?_; intro a hst
 refine r_t hst trivial rfl (x_move hst rfl) ?_; intro a hst
 refine r_t hst trivial rfl (x_arI (r := w64 (a1 - 1)) hst rfl rfl rfl) ?_; intro a hst
 refine r_t hst trivial rfl (x_move hst rfl) ?_; intro a hst
 refine r_t hst trivial rfl (x_move hst rfl) ?_; intro a hst
 refine r_t hst trivial rfl (x_arI (r := w64 (a1 + 1)) hst rfl rfl rfl) ?_; intro a hst
 refine r_t hst trivial rfl (x_move hst rfl) ?_; intro a hst
 replace hsh := hsh.pick [0]
 obtain ⟨GG3, hsp, hG, hbx, hfx, hk⟩ := SH.callD (L1 := [Box ga2 [.int .i64 a2] 3]) (L2 := []) hsh
 obtain ⟨r1, hr1, H⟩ := Option.bind_eq_some_iff.1 H
 refine r_callD hst trivial rfl fn_87 rfl (slices_medianOrdered_int.calls _ GG3 _ _ _ (Same.sh2 hsa0 hda0 hsh) (disj_own hsa0 hda0 hG) _ hra0 (w64 (a1 - 1)) a1 (w64 (a1 + 1)) ga2 a2 hsp r1 hr1) ?_
 rintro e w2 ⟨rfl, hc⟩
 replace hsh := hk _ _ hc
 clear hc
 refine ⟨_, rfl, fun a hst => ?_⟩
 refine r_t hst trivial rfl (x_assign hst rfl) ?_; intro a hst
 refine wpL_nil ?_
 refine then_normal ?_
 refine wq_ret ?_
 obtain rfl := Option.some.inj H
 exact ret1 hst rfl rfl ⟨rfl, hsh.pick [0]⟩

set_option maxHeartbeats 4000000 in
set_option maxRecDepth 100000 in
theorem slices_choosePivotOrdered_int.calls (w : World) (va0 : Value) (Za0 : Nat → Prop) (wra0 : World) (hsa0 : Same Za0 wra0 w) (a0 : (List Int)) (hra0 : RD (Kd.int .i64) Za0 wra0 va0 a0) (a1 : Int) (a2 : Int) (r : (Int × Int)) (h : slices_choosePivotOrdered_int a0 a1 a2 = some r) :
    Calls Try.prog 73 ([va0, .int .i64 a1, .int .i64 a2] : List Value).toArray w fun e w' => e = .returned (.tuple #[.int .i64 r.1, .int .i64 r.2]) ∧ SH (fun _ => False) w w' [] := by
 have H := h
 clear h
 unfold slices_choosePivotOrdered_int at H
 refine calls_enter Try.func73 rfl rfl ?_
 intro a hst
 have hsh := SH.zero (fun _ => False) w
 refine wq_seq ?_
 refine wq_region_lit (.inl rfl) ?_
 refine r_t hst trivial rfl (x_assign hst rfl) ?_; intro a hst
 refine r_t hst trivial rfl (x_assign hst rfl) ?_; intro a hst
 refine wpL_nil ?_
 refine then_normal ?_
 refine wq_seq ?_
 refine wq_region_lit (.inl rfl) ?_
 refine r_t hst trivial rfl (x_move hst rfl) ?_; intro a hst
 refine r_t hst trivial rfl (x_move hst rfl) ?_; intro a hst
 refine r_t hst trivial rfl (x_arI (r := w64 (a2 - a1)) hst rfl rfl rfl) ?_; intro a hst
 refine r_t hst trivial rfl (x_assign hst rfl) ?_; intro a hst
 refine wpL_nil ?_
 refine then_normal ?_
 refine wq_seq ?_
 refine wq_region_lit (.inl rfl) ?_
 refine r_alloc hst hsh trivial rfl zr_3 ?_
 intro g1 a w2 hgg1 hsh hst
 refine wpL_nil ?_
 refine then_normal ?_
 refine wq_seq ?_
 refine wq_region_lit (.inl rfl) ?_
 refine r_t hst trivial rfl (x_move hst rfl) ?_; intro a hst
 refine r_t hst trivial rfl (x_move hst rfl) ?_; intro a hst
 refine r_t hst trivial rfl (x_quo hst rfl rfl (by decide)) ?_; intro a hst
 refine r_t hst trivial rfl (x_arI (r := w64 ((w64 (Int.tdiv (w64 (a2 - a1)) 4)) * 1)) hst rfl rfl rfl) ?_; intro a hst
 refine r_t hst trivial rfl (x_arI (r := w64 (a1 + (w64 ((w64 (Int.tdiv (w64 (a2 - a1)) 4)) * 1)))) hst rfl rfl rfl) ?_; intro a hst
 refine r_t hst trivial rfl (x_assign hst rfl) ?_; intro a hst
 refine wpL_nil ?_
 refine then_normal ?_
 refine wq_seq ?_
 refine wq_region_lit (.inl rfl) ?_
 refine r_t hst trivial rfl (x_move hst rfl) ?_; intro a hst
 refine r_t hst trivial rfl (x_move hst rfl) ?_; intro a hst
 refine r_t hst trivial rfl (x_quo hst rfl rfl (by decide)) ?_; intro a hst
 refine r_t hst trivial rfl (x_arI (r := w64 ((w64 (Int.tdiv (w64 (a2 - a1)) 4)) * 2)) hst rfl rfl rfl) ?_; intro a hst
 refine r_t hst trivial rfl (x_arI (r := w64 (a1 + (w64 ((w64 (Int.tdiv (w64 (a2 - a1)) 4)) * 2)))) hst rfl rfl rfl) ?_; intro a hst
 refine r_t hst trivial rfl (x_assign hst rfl) ?_; intro a hst
 refine wpL_nil ?_
 refine then_normal ?_
 refine wq_seq ?_
 refine wq_region_lit (.inl rfl) ?_
 refine r_t hst trivial rfl (x_move hst rfl) ?_; intro a hst
 refine r_t hst trivial rfl (x_move hst rfl) ?_; intro a hst
 refine r_t hst trivial rfl (x_quo hst rfl rfl (by decide)) ?_; intro a hst
 refine r_t hst trivial rfl (x_arI (r := w64 ((w64 (Int.tdiv (w64 (a2 - a1)) 4)) * 3)) hst rfl rfl rfl) ?_; intro a hst
 refine r_t hst trivial rfl (x_arI (r := w64 (a1 + (w64 ((w64 (Int.tdiv (w64 (a2 - a1)) 4)) * 3)))) hst rfl rfl rfl) ?_; intro a hst
 refine r_t hst trivial rfl (x_assign hst rfl) ?_; intro a hst
 refine wpL_nil ?_
 refine then_normal ?_
 obtain ⟨J_10, hJ_10, H⟩ := Jn.elim H
 refine wq_cut (fun a w' => ∃ (i_7 : Int), ∃ (i_8 : Int), J_10 i_7 i_8 = some r ∧ ST [] Try.f73.ntmps a [(6, .int .i64 0), (7, .int .i64 0), (9, .pointer (some ⟨g1, 0, none⟩)), (11, .int .i64 i_8)] ∧ SH (fun _ => False) w w' [Box g1 [.int .i64 i_7] 3]) ?_ ?_
 · rintro a W_9 ⟨i_7, i_8, H, hst, hsh⟩
   subst hJ_10
   dsimp only at H
   refine wq_seq ?_
   refine wq_region_lit (.inl rfl) ?_
   refine r_t hst trivial rfl (x_loadB (i := 0) hst hsh sc_3 rfl rfl rfl) ?_; intro a hst
   refine wpL_nil ?_
   refine then_normal ?_
   refine wq_block ?_
   refine wq_seq ?_
   refine wq_region_lit (.inl rfl) ?_
   refine r_t hst trivial rfl (x_cmpI (b := (i_7 == 0)) hst rfl rfl rfl) ?_; intro a hst
   refine r_t hst trivial rfl (x_assign hst rfl) ?_; intro a hst
   refine wpL_nil ?_
   refine then_normal ?_
   by_cases c27 : (i_7 == 0) = true
   · rw [if_pos c27] at H
     refine wq_condT hst rfl c27 ?_
     refine wq_seq ?_
     refine wq_region_lit (.inl rfl) ?_
     refine r_t hst trivial rfl (x_move hst rfl) ?_; intro a hst
     refine r_t hst trivial rfl (x_assign hst rfl) ?_; intro a hst
     refine r_t hst trivial rfl (x_assign hst rfl) ?_; intro a hst
     refine wpL_nil ?_
     refine then_normal ?_
     refine wq_ret ?_
     refine block_ret ?_
     obtain rfl := Option.some.inj H
     exact ret2 hst rfl rfl rfl ⟨rfl, hsh.pick []⟩
   · rw [if_neg c27] at H
     replace c27 := Bool.eq_false_iff.2 c27
     refine wq_condF hst rfl c27 ?_
     refine wq_seq ?_
     refine wq_region_lit (.inl rfl) ?_
     refine r_t hst trivial rfl (x_cmpI (b := (i_7 == 12)) hst rfl rfl rfl) ?_; intro a hst
     refine r_t hst trivial rfl (x_assign hst rfl) ?_; intro a hst
     refine wpL_nil ?_
     refine then_normal ?_
     by_cases c28 : (i_7 == 12) = true
     · rw [if_pos c28] at H
       refine wq_condT hst rfl c28 ?_
       refine wq_seq ?_
       refine wq_region_lit (.inl rfl) ?_
       refine r_t hst trivial rfl (x_move hst rfl) ?_; intro a hst
       refine r_t hst trivial rfl (x_assign hst rfl) ?_; intro a hst
       refine r_t hst trivial rfl (x_assign hst rfl) ?_; intro a hst
       refine wpL_nil ?_
       refine then_normal ?_
       refine wq_ret ?_
       refine block_ret ?_
       obtain rfl := Option.some.inj H
       exact ret2 hst rfl rfl rfl ⟨rfl, hsh.pick []⟩
     · rw [if_neg c28] at H
       replace c28 := Bool.eq_false_iff.2 c28
       refine wq_condF hst rfl c28 ?_
       refine wq_seq ?_
       refine wq_region_lit (.inl rfl) ?_
       refine r_t hst trivial rfl (x_move hst rfl) ?_; intro a hst
       refine r_t hst trivial rfl (x_assign hst rfl) ?_; intro a hst
       refine r_t hst trivial rfl (x_assign hst rfl) ?_; intro a hst
       refine wpL_nil ?_
       refine then_normal ?_
       refine wq_ret ?_
       refine block_ret ?_
       obtain rfl := Option.some.inj H
       exact ret2 hst rfl rfl rfl ⟨rfl, hsh.pick []⟩
 · refine wq_seq ?_
   refine wq_region_lit (.inl rfl) ?_
   refine r_t hst trivial rfl (x_move hst rfl) ?_; intro a hst
   refine r_t hst trivial rfl (x_cmpI (b := decide (8 ≤ (w64 (a2 - a1)))) hst rfl rfl rfl) ?_; intro a hst
   refine wpL_nil ?_
   refine then_normal ?_
   by_cases c29 : (decide (8 ≤ (w64 (a2 - a1)))) = true
   · rw [if_pos c29] at H
     refine wq_condT hst rfl c29 ?_
     obtain ⟨J_16, hJ_16, H⟩ := Jn.elim H
     refine wq_cut (fun a w' => ∃ (i_11 : Int), ∃ (i_12 : Int), ∃ (i_13 : Int), ∃ (i_14 : Int), J_16 i_11 i_12 i_13 i_14 = some r ∧ ST [] Try.f73.ntmps a [(0, va0), (6, .int .i64 0), (7, .int .i64 0), (9, .pointer (some ⟨g1, 0, none⟩)), (10, .int .i64 i_12), (11, .int .i64 i_13), (12, .int .i64 i_14)] ∧ SH (fun _ => False) w w' [Box g1 [.int .i64 i_11] 3]) ?_ ?_
     · rintro a W_15 ⟨i_11, i_12, i_13, i_14, H, hst, hsh⟩
       subst hJ_16
       dsimp only at H
       refine wq_region_lit (.inl rfl) ?_
       refine r_t hst trivial rfl (x_move hst rfl) ?_; intro a hst
       refine r_t hst trivial rfl (x_move hst rfl) ?_; intro a hst
       refine r_t hst trivial rfl (x_move hst rfl) ?_; intro a hst
       refine r_t hst trivial rfl (x_move hst rfl) ?_; intro a hst
       replace hsh := hsh.pick [0]
       obtain ⟨GG42, hsp, hG, hbx, hfx, hk⟩ := SH.callD (L1 := [Box g1 [.int .i64 i_11] 3]) (L2 := []) hsh
       obtain ⟨r40, hr40, H⟩ := Option.bind_eq_some_iff.1 H
       refine r_callD hst trivial rfl fn_87 rfl (slices_medianOrdered_int.calls _ GG42 _ _ _ (Same.sh0 hsa0 hsh) (disj_new hsa0 hG) _ hra0 i_12 i_13 i_14 g1 i_11 hsp r40 hr40) ?_
       rintro e w41 ⟨rfl, hc⟩
       replace hsh := hk _ _ hc
       clear hc
       refine ⟨_, rfl, fun a hst => ?_⟩
       refine r_t hst trivial rfl (x_assign hst rfl) ?_; intro a hst
       refine wpL_nil ?_
       refine then_normal ?_
       exact ⟨r40.2, r40.1, H, hst.keep _ ⟨rfl, rfl, rfl, rfl, trivial⟩, hsh.pick [0]⟩
     · refine wq_seq ?_
       refine wq_region_lit (.inl rfl) ?_
       refine r_t hst trivial rfl (x_move hst rfl) ?_; intro a hst
       refine r_t hst trivial rfl (x_cmpI (b := decide (50 ≤ (w64 (a2 - a1)))) hst rfl rfl rfl) ?_; intro a hst
       refine wpL_nil ?_
       refine then_normal ?_
       by_cases c43 : (decide (50 ≤ (w64 (a2 - a1)))) = true
       · rw [if_pos c43] at H
         refine wq_condT hst rfl c43 ?_
         refine wq_seq ?_
         refine wq_region_lit (.inl rfl) ?_
         refine r_t hst trivial rfl (x_move hst rfl) ?_; intro a hst
         refine r_t hst trivial rfl (x_move hst rfl) ?_; intro a hst
         replace hsh := hsh.pick [0]
         obtain ⟨GG46, hsp, hG, hbx, hfx, hk⟩ := SH.callD (L1 := [Box g1 [.int .i64 0] 3]) (L2 := []) hsh
         obtain ⟨r44, hr44, H⟩ := Option.bind_eq_some_iff.1 H
         refine r_callD hst trivial rfl fn_86 rfl (slices_medianAdjacentOrdered_int.calls _ GG46 _ _ _ (Same.sh0 hsa0 hsh) (disj_new hsa0 hG) _ hra0 (w64 (a1 + (w64 ((w64 (Int.tdiv (w64 (a2 - a1)) 4)) * 1)))) g1 0 hsp r44 hr44) ?_
         rintro e w45 ⟨rfl, hc⟩
         replace hsh := hk _ _ hc
         clear hc
         refine ⟨_, rfl, fun a hst => ?_⟩
         refine r_t hst trivial rfl (x_assign hst rfl) ?_; intro a hst
         refine wpL_nil ?_
         refine then_normal ?_
         refine wq_seq ?_
         refine wq_region_lit (.inl rfl) ?_
         refine r_t hst trivial rfl (x_move hst rfl) ?_; intro a hst
         refine r_t hst trivial rfl (x_move hst rfl) ?_; intro a hst
         replace hsh := hsh.pick [0]
         obtain ⟨GG49, hsp, hG, hbx, hfx, hk⟩ := SH.callD (L1 := [Box g1 [.int .i64 r44.2] 3]) (L2 := []) hsh
         obtain ⟨r47, hr47, H⟩ := Option.bind_eq_some_iff.1 H
         refine r_callD hst trivial rfl fn_86 rfl (slices_medianAdjacentOrdered_int.calls _ GG49 _ _ _ (Same.sh0 hsa0 hsh) (disj_new hsa0 hG) _ hra0 (w64 (a1 + (w64 ((w64 (Int.tdiv (w64 (a2 - a1)) 4)) * 2)))) g1 r44.2 hsp r47 hr47) ?_
         rintro e w48 ⟨rfl, hc⟩
         replace hsh := hk _ _ hc
         clear hc
         refine ⟨_, rfl, fun a hst => ?_⟩
         refine r_t hst trivial rfl (x_assign hst rfl) ?_; intro a hst
         refine wpL_nil ?_
         refine then_normal ?_
         refine wq_region_lit (.inl rfl) ?_
         refine r_t hst trivial rfl (x_move hst rfl) ?_; intro a hst
         refine r_t hst trivial rfl (x_move hst rfl) ?_; intro a hst
         replace hsh := hsh.pick [0]
         obtain ⟨GG52, hsp, hG, hbx, hfx, hk⟩ := SH.callD (L1 := [Box g1 [.int .i64 r47.2] 3]) (L2 := []) hsh
         obtain ⟨r50, hr50, H⟩ := Option.bind_eq_some_iff.1 H
         refine r_callD hst trivial rfl fn_86 rfl (slices_medianAdjacentOrdered_int.calls _ GG52 _ _ _ (Same.sh0 hsa0 hsh) (disj_new hsa0 hG) _ hra0 (w64 (a1 + (w64 ((w64 (Int.tdiv (w64 (a2 - a1)) 4)) * 3)))) g1 r47.2 hsp r50 hr50) ?_
         rintro e w51 ⟨rfl, hc⟩
         replace hsh := hk _ _ hc
         clear hc
         refine ⟨_, rfl, fun a hst => ?_⟩
         refine r_t hst trivial rfl (x_assign hst rfl) ?_; intro a hst
         refine wpL_nil ?_
         refine then_normal ?_
         exact ⟨r50.2, r44.1, r47.1, r50.1, H, hst.keep _ ⟨rfl, rfl, rfl, rfl, rfl, rfl, rfl, trivial⟩, hsh.pick [0]⟩
       · rw [if_neg c43] at H
         replace c43 := Bool.eq_false_iff.2 c43
         refine wq_condF hst rfl c43 ?_
         refine wq_skip ?_
         refine then_normal ?_
         exact ⟨0, (w64 (a1 + (w64 ((w64 (Int.tdiv (w64 (a2 - a1)) 4)) * 1)))), (w64 (a1 + (w64 ((w64 (Int.tdiv (w64 (a2 - a1)) 4)) * 2)))), (w64 (a1 + (w64 ((w64 (Int.tdiv (w64 (a2 - a1)) 4)) * 3)))), H, hst.keep _ ⟨rfl, rfl, rfl, rfl, rfl, rfl, rfl, trivial⟩, hsh.pick [0]⟩
   · rw [if_neg c29] at H
     replace c29 := Bool.eq_false_iff.2 c29
     refine wq_condF hst rfl c29 ?_
     refine wq_skip ?_
     refine then_normal ?_
     exact ⟨0, (w64 (a1 + (w64 ((w64 (Int.tdiv (w64 (a2 - a1)) 4)) * 2)))), H, hst.keep _ ⟨rfl, rfl, rfl, rfl, trivial⟩, hsh.pick [0]⟩

set_option maxHeartbeats 4000000 in
set_option maxRecDepth 100000 in
theorem slices_reverseRangeOrdered_int.calls (k : Nat) (w : World) (GG : Nat → Prop) (va0 : Value) (a0 : (List Int)) (a1 : Int) (a2 : Int) (hsep : Sep GG w [Row (Kd.int .i64) 3 va0 a0]) (r : (List Int)) (h : slices_reverseRangeOrdered_int k a0 a1 a2 = some r) :
    Calls Try.prog 74 ([va0, .int .i64 a1, .int .i64 a2] : List Value).toArray w fun e w' => e = .returned (.tuple #[]) ∧ SH GG w w' [Row (Kd.int .i64) 3 va0 r] := by
 have H := h
 clear h
 unfold slices_reverseRangeOrdered_int at H
 refine calls_enter Try.func74 rfl rfl ?_
 intro a hst
 have hsh := SH.start hsep
 refine wq_seq ?_
 refine wq_region_lit (.inl rfl) ?_
 refine r_t hst trivial rfl (x_move hst rfl) ?_; intro a hst
 refine r_t hst trivial rfl (x_assign hst rfl) ?_; intro a hst
 refine wpL_nil ?_
 refine then_normal ?_
 refine wq_seq ?_
 refine wq_region_lit (.inl rfl) ?_
 refine r_t hst trivial rfl (x_move hst rfl) ?_; intro a hst
 refine r_t hst trivial rfl (x_arI (r := w64 (a2 - 1)) hst rfl rfl rfl) ?_; intro a hst
 refine r_t hst trivial rfl (x_assign hst rfl) ?_; intro a hst
 refine wpL_nil ?_
 refine then_normal ?_
 refine wq_block ?_
 refine wq_loop_fuel (fun k_15 a w' => ∃ (l_7 : (List Int)), ∃ (i_8 : Int), ∃ (i_9 : Int), slices_reverseRangeOrdered_int.l0 k_15 l_7 i_8 i_9 = some r ∧ ST [] Try.f74.ntmps a [(0, va0), (6, .int .i64 i_8), (7, .int .i64 i_9)] ∧ SH GG w w' [Row (Kd.int .i64) 3 va0 l_7]) k ?_ ?_
 · exact ⟨a0, a1, (w64 (a2 - 1)), H, hst.keep _ ⟨rfl, rfl, rfl, trivial⟩, hsh.pick [0]⟩
 · rintro k_15 a W_10 ⟨l_7, i_8, i_9, H, hst, hsh⟩
   cases k_15 with
   | zero => rw [slices_reverseRangeOrdered_int.l0] at H; cases H
   | succ k_15 =>
    rw [slices_reverseRangeOrdered_int.l0] at H
    refine wq_seq ?_
    refine wq_seq ?_
    refine wq_region_lit (.inl rfl) ?_
    refine r_t hst trivial rfl (x_move hst rfl) ?_; intro a hst
    refine r_t hst trivial rfl (x_move hst rfl) ?_; intro a hst
    refine r_t hst trivial rfl (x_cmpI (b := decide (i_8 < i_9)) hst rfl rfl rfl) ?_; intro a hst
    refine wpL_nil ?_
    refine then_normal ?_
    by_cases c28 : (decide (i_8 < i_9)) = true
    · rw [if_pos c28] at H
      refine wq_condT hst rfl c28 ?_
      refine wq_skip ?_
      refine then_normal ?_
      refine wq_block ?_
      refine wq_seq ?_
      have hw28_0 := hsh.row 0 rfl
      refine wq_region_t (.inl rfl) (.fin [(3, 0), (3, 1), (3, 2), (3, 3), (3, 4), (3, 5), (3, 6), (0, 7), (3, 8), (3, 9), (3, 10), (0, 11), (3, 12), (2, 13), (0, 14), (2, 15)]) (fun w' => SH GG w w' []) (fun w' => SH GG w w' [Row (Kd.int .i64) 3 va0 l_7]) (fun w' => SH GG w w' [Row (Kd.int .i64) 3 va0 l_7]) (shut_sh _ _ _) (shut_sh _ _ _) (shut_sh _ _ _) (sub_sh [] rfl) (sub_sh [0] rfl) hsh.drew fo (by kernel_rfl) ?_
      refine t_fin ?_
      refine m_p hst trivial rfl (fun _ => x_move hst rfl) ?_; intro a hst
      refine m_p hst trivial rfl (fun _ => x_move hst rfl) ?_; intro a hst
      refine m_p hst trivial rfl (fun _ => x_move hst rfl) ?_; intro a hst
      refine m_p hst trivial rfl (fun _ => x_move hst rfl) ?_; intro a hst
      refine m_p hst trivial rfl (fun _ => x_move hst rfl) ?_; intro a hst
      refine m_p hst trivial rfl (fun _ => x_move hst rfl) ?_; intro a hst
      obtain ⟨x29, hx29, H⟩ := Option.bind_eq_some_iff.1 H
      refine m_p hst trivial rfl (fun _ => x_indexAddr hst Try.underlying56 el_3 rfl rfl hw28_0 hx29) ?_; intro a hst
      refine m_t hst trivial rfl (fun _ hsh => x_loadEF (j := 0) (cs := [.int .i64 x29]) hst sc_3 rfl (hsh.row 0 rfl) (Same.refl _ _) hx29 rfl (fun _ h => h) rfl) ?_; intro a hst
      refine m_p hst trivial rfl (fun _ => x_move hst rfl) ?_; intro a hst
      refine m_p hst trivial rfl (fun _ => x_move hst rfl) ?_; intro a hst
      obtain ⟨x30, hx30, H⟩ := Option.bind_eq_some_iff.1 H
      refine m_p hst trivial rfl (fun _ => x_indexAddr hst Try.underlying56 el_3 rfl rfl hw28_0 hx30) ?_; intro a hst
      refine m_t hst trivial rfl (fun _ hsh => x_loadEF (j := 0) (cs := [.int .i64 x30]) hst sc_3 rfl (hsh.row 0 rfl) (Same.refl _ _) hx30 rfl (fun _ h => h) rfl) ?_; intro a hst
      obtain ⟨x31, hx31, H⟩ := Option.bind_eq_some_iff.1 H
      refine m_p hst trivial rfl (fun _ => x_indexAddr hst Try.underlying56 el_3 rfl rfl hw28_0 hx31) ?_; intro a hst
      refine m_loud (.inr rfl) ?_
      intro w32 hsh
      obtain ⟨l33, hl33, H⟩ := Option.bind_eq_some_iff.1 H
      refine r_storeE (i := 0) (off := 0) (new := x29) (cs' := [.int .i64 x29]) hst hsh trivial sc_3 rfl rfl rfl hx31 rfl (Nat.le_of_ble_eq_true rfl) rfl (fun _ _ _ h => by rw [h]; rfl) (fun _ _ => rfl) ?_; intro a w34 hsh hst
      rw [← upd_some hl33] at hsh
      refine m_turn hsh (sub_sh [] rfl) ?_
      obtain ⟨x35, hx35, H⟩ := Option.bind_eq_some_iff.1 H
      refine m_t hst trivial rfl (fun _ hsh => x_indexAddr hst Try.underlying56 el_3 rfl rfl (hsh.row 0 rfl) hx35) ?_; intro a hst
      refine m_loud (.inr rfl) ?_
      intro w36 hsh
      obtain ⟨l37, hl37, H⟩ := Option.bind_eq_some_iff.1 H
      refine r_storeE (i := 0) (off := 0) (new := x30) (cs' := [.int .i64 x30]) hst hsh trivial sc_3 rfl rfl rfl hx35 rfl (Nat.le_of_ble_eq_true rfl) rfl (fun _ _ _ h => by rw [h]; rfl) (fun _ _ => rfl) ?_; intro a w38 hsh hst
      rw [← upd_some hl37] at hsh
      refine m_turn hsh (sub_sh [] rfl) ?_
      refine m_nil ?_
      intro w39 hsh
      refine qn_normal ?_
      refine then_normal ?_
      refine wq_seq ?_
      refine wq_region_lit (.inl rfl) ?_
      refine r_t hst trivial rfl (x_move hst rfl) ?_; intro a hst
      refine r_t hst trivial rfl (x_arI (r := w64 (i_8 + 1)) hst rfl rfl rfl) ?_; intro a hst
      refine r_t hst trivial rfl (x_assign hst rfl) ?_; intro a hst
      refine wpL_nil ?_
      refine then_normal ?_
      refine wq_region_lit (.inl rfl) ?_
      refine r_t hst trivial rfl (x_move hst rfl) ?_; intro a hst
      refine r_t hst trivial rfl (x_arI (r := w64 (i_9 - 1)) hst rfl rfl rfl) ?_; intro a hst
      refine r_t hst trivial rfl (x_assign hst rfl) ?_; intro a hst
      refine wpL_nil ?_
      refine block_normal ?_
      refine then_normal ?_
      exact ⟨k_15, Nat.lt_succ_self _, l37, (w64 (i_8 + 1)), (w64 (i_9 - 1)), H, hst.keep _ ⟨rfl, rfl, rfl, trivial⟩, hsh.pick [0]⟩
    · rw [if_neg c28] at H
      replace c28 := Bool.eq_false_iff.2 c28
      refine wq_condF hst rfl c28 ?_
      refine wq_exit ?_
      refine then_exit ?_
      refine then_exit ?_
      refine block_hit ?_
      obtain rfl := Option.some.inj H
      exact end0 hst rfl ⟨rfl, hsh.pick [0]⟩

set_option maxHeartbeats 4000000 in
set_option maxRecDepth 100000 in
theorem slices_partialInsertionSortOrdered_int.calls (k : Nat) (w : World) (GG : Nat → Prop) (va0 : Value) (a0 : (List Int)) (a1 : Int) (a2 : Int) (hsep : Sep GG w [Row (Kd.int .i64) 3 va0 a0]) (r : (Bool × (List Int))) (h : slices_partialInsertionSortOrdered_int k a0 a1 a2 = some r) :
    Calls Try.prog 75 ([va0, .int .i64 a1, .int .i64 a2] : List Value).toArray w fun e w' => e = .returned (.bool r.1) ∧ SH GG w w' [Row (Kd.int .i64) 3 va0 r.2] := by
 have H := h
 clear h
 unfold slices_partialInsertionSortOrdered_int at H
 refine calls_enter Try.func75 rfl rfl ?_
 intro a hst
 have hsh := SH.start hsep
 refine wq_seq ?_
 refine wq_region_lit (.inl rfl) ?_
 refine r_t hst trivial rfl (x_assign hst rfl) ?_; intro a hst
 refine wpL_nil ?_
 refine then_normal ?_
 refine wq_seq ?_
 refine wq_region_lit (.inl rfl) ?_
 refine r_t hst trivial rfl (x_move hst rfl) ?_; intro a hst
 refine r_t hst trivial rfl (x_arI (r := w64 (a1 + 1)) hst rfl rfl rfl) ?_; intro a hst
 refine r_t hst trivial rfl (x_assign hst rfl) ?_; intro a hst
 refine wpL_nil ?_
 refine then_normal ?_
 refine wq_seq ?_
 refine wq_seq ?_
 refine wq_region_lit (.inl rfl) ?_
 refine r_t hst trivial rfl (x_assign hst rfl) ?_; intro a hst
 refine wpL_nil ?_
 refine then_normal ?_
 refine wq_block ?_
 refine wq_loop_fuel (fun k_959 a w' => ∃ (l_765 : (List Int)), ∃ (i_766 : Int), ∃ (i_767 : Int), slices_partialInsertionSortOrdered_int.l0 a1 a2 k_959 l_765 i_766 i_767 = some r ∧ ST [] Try.f75.ntmps a [(0, va0), (1, .int .i64 a1), (2, .int .i64 a2), (6, .bool false), (7, .int .i64 i_766), (8, .int .i64 i_767)] ∧ SH GG w w' [Row (Kd.int .i64) 3 va0 l_765]) k ?_ ?_
 · exact ⟨a0, (w64 (a1 + 1)), 0, H, hst.keep _ ⟨rfl, rfl, rfl, rfl, rfl, rfl, trivial⟩, hsh.pick [0]⟩
 · rintro k_959 a W_768 ⟨l_765, i_766, i_767, H, hst, hsh⟩
   cases k_959 with
   | zero => rw [slices_partialInsertionSortOrdered_int.l0] at H; cases H
   | succ k_959 =>
    rw [slices_partialInsertionSortOrdered_int.l0] at H
    refine wq_seq ?_
    refine wq_seq ?_
    refine wq_region_lit (.inl rfl) ?_
    refine r_t hst trivial rfl (x_move hst rfl) ?_; intro a hst
    refine r_t hst trivial rfl (x_cmpI (b := decide (i_767 < 5)) hst rfl rfl rfl) ?_; intro a hst
    refine wpL_nil ?_
    refine then_normal ?_
    by_cases c5832 : (decide (i_767 < 5)) = true
    · rw [if_pos c5832] at H
      refine wq_condT hst rfl c5832 ?_
      refine wq_skip ?_
      refine then_normal ?_
      obtain ⟨J_1054, hJ_1054, H⟩ := Jn.elim H
      refine wq_cut (fun a w' => ∃ (l_1051 : (List Int)), ∃ (i_1052 : Int), J_1054 l_1051 i_1052 = some r ∧ ST [] Try.f75.ntmps a [(0, va0), (1, .int .i64 a1), (2, .int .i64 a2), (6, .bool false), (7, .int .i64 i_1052), (8, .int .i64 i_767)] ∧ SH GG w w' [Row (Kd.int .i64) 3 va0 l_1051]) ?_ ?_
      · rintro a W_1053 ⟨l_1051, i_1052, H, hst, hsh⟩
        subst hJ_1054
        dsimp only at H
        refine wq_region_lit (.inl rfl) ?_
        refine r_t hst trivial rfl (x_move hst rfl) ?_; intro a hst
        refine r_t hst trivial rfl (x_arI (r := w64 (i_767 + 1)) hst rfl rfl rfl) ?_; intro a hst
        refine r_t hst trivial rfl (x_assign hst rfl) ?_; intro a hst
        refine wpL_nil ?_
        refine then_normal ?_
        exact ⟨k_959, Nat.lt_succ_self _, l_1051, i_1052, (w64 (i_767 + 1)), H, hst.keep _ ⟨rfl, rfl, rfl, rfl, rfl, rfl, trivial⟩, hsh.pick [0]⟩
      · refine wq_block ?_
        obtain ⟨J_1083, hJ_1083, H⟩ := Jn.elim H
        refine wq_cut (fun a w' => ∃ (i_1081 : Int), J_1083 i_1081 = some r ∧ ST [] Try.f75.ntmps a [(0, va0), (1, .int .i64 a1), (2, .int .i64 a2), (6, .bool false), (7, .int .i64 i_1081), (8, .int .i64 i_767)] ∧ SH GG w w' [Row (Kd.int .i64) 3 va0 l_765]) ?_ ?_
        · rintro a W_1082 ⟨i_1081, H, hst, hsh⟩
          subst hJ_1083
          dsimp only at H
          refine wq_seq ?_
          refine wq_seq ?_
          refine wq_region_lit (.inl rfl) ?_
          refine r_t hst trivial rfl (x_move hst rfl) ?_; intro a hst
          refine r_t hst trivial rfl (x_move hst rfl) ?_; intro a hst
          refine r_t hst trivial rfl (x_cmpI (b := (i_1081 == a2)) hst rfl rfl rfl) ?_; intro a hst
          refine wpL_nil ?_
          refine then_normal ?_
          by_cases c6482 : (i_1081 == a2) = true
          · rw [if_pos c6482] at H
            refine wq_condT hst rfl c6482 ?_
            refine wq_seq ?_
            refine wq_region_lit (.inl rfl) ?_
            refine r_t hst trivial rfl (x_assign hst rfl) ?_; intro a hst
            refine wpL_nil ?_
            refine then_normal ?_
            refine wq_ret ?_
            refine then_ret ?_
            refine block_ret ?_
            refine then_ret ?_
            refine then_ret ?_
            refine block_ret ?_
            refine then_ret ?_
            obtain rfl := Option.some.inj H
            exact ret1 hst rfl rfl ⟨rfl, hsh.pick [0]⟩
          · rw [if_neg c6482] at H
            replace c6482 := Bool.eq_false_iff.2 c6482
            refine wq_condF hst rfl c6482 ?_
            refine wq_skip ?_
            refine then_normal ?_
            refine wq_seq ?_
            refine wq_seq ?_
            refine wq_region_lit (.inl rfl) ?_
            refine r_t hst trivial rfl (x_move hst rfl) ?_; intro a hst
            refine r_t hst trivial rfl (x_move hst rfl) ?_; intro a hst
            refine r_t hst trivial rfl (x_arI (r := w64 (a2 - a1)) hst rfl rfl rfl) ?_; intro a hst
            refine r_t hst trivial rfl (x_cmpI (b := decide ((w64 (a2 - a1)) < 50)) hst rfl rfl rfl) ?_; intro a hst
            refine wpL_nil ?_
            refine then_normal ?_
            by_cases c6484 : (decide ((w64 (a2 - a1)) < 50)) = true
            · rw [if_pos c6484] at H
              refine wq_condT hst rfl c6484 ?_
              refine wq_seq ?_
              refine wq_region_lit (.inl rfl) ?_
              refine r_t hst trivial rfl (x_assign hst rfl) ?_; intro a hst
              refine wpL_nil ?_
              refine then_normal ?_
              refine wq_ret ?_
              refine then_ret ?_
              refine block_ret ?_
              refine then_ret ?_
              refine then_ret ?_
              refine block_ret ?_
              refine then_ret ?_
              obtain rfl := Option.some.inj H
              exact ret1 hst rfl rfl ⟨rfl, hsh.pick [0]⟩
            · rw [if_neg c6484] at H
              replace c6484 := Bool.eq_false_iff.2 c6484
              refine wq_condF hst rfl c6484 ?_
              refine wq_skip ?_
              refine then_normal ?_
              refine wq_seq ?_
              have hw6484_0 := hsh.row 0 rfl
              refine wq_region_t (.inl rfl) (.fin [(3, 0), (3, 1), (3, 2), (3, 3), (3, 4), (3, 5), (3, 6), (3, 7), (3, 8), (0, 9), (3, 10), (3, 11), (3, 12), (0, 13), (3, 14), (2, 15), (0, 16), (2, 17)]) (fun w' => SH GG w w' []) (fun w' => SH GG w w' [Row (Kd.int .i64) 3 va0 l_765]) (fun w' => SH GG w w' [Row (Kd.int .i64) 3 va0 l_765]) (shut_sh _ _ _) (shut_sh _ _ _) (shut_sh _ _ _) (sub_sh [] rfl) (sub_sh [0] rfl) hsh.drew fo (by kernel_rfl) ?_
              refine t_fin ?_
              refine m_p hst trivial rfl (fun _ => x_move hst rfl) ?_; intro a hst
              refine m_p hst trivial rfl (fun _ => x_move hst rfl) ?_; intro a hst
              refine m_p hst trivial rfl (fun _ => x_move hst rfl) ?_; intro a hst
              refine m_p hst trivial rfl (fun _ => x_move hst rfl) ?_; intro a hst
              refine m_p hst trivial rfl (fun _ => x_arI (r := w64 (i_1081 - 1)) hst rfl rfl rfl) ?_; intro a hst
              refine m_p hst trivial rfl (fun _ => x_move hst rfl) ?_; intro a hst
              refine m_p hst trivial rfl (fun _ => x_move hst rfl) ?_; intro a hst
              refine m_p hst trivial rfl (fun _ => x_arI (r := w64 (i_1081 - 1)) hst rfl rfl rfl) ?_; intro a hst
              obtain ⟨x6485, hx6485, H⟩ := Option.bind_eq_some_iff.1 H
              refine m_p hst trivial rfl (fun _ => x_indexAddr hst Try.underlying56 el_3 rfl rfl hw6484_0 hx6485) ?_; intro a hst
              refine m_t hst trivial rfl (fun _ hsh => x_loadEF (j := 0) (cs := [.int .i64 x6485]) hst sc_3 rfl (hsh.row 0 rfl) (Same.refl _ _) hx6485 rfl (fun _ h => h) rfl) ?_; intro a hst
              refine m_p hst trivial rfl (fun _ => x_move hst rfl) ?_; intro a hst
              refine m_p hst trivial rfl (fun _ => x_move hst rfl) ?_; intro a hst
              obtain ⟨x6486, hx6486, H⟩ := Option.bind_eq_some_iff.1 H
              refine m_p hst trivial rfl (fun _ => x_indexAddr hst Try.underlying56 el_3 rfl rfl hw6484_0 hx6486) ?_; intro a hst
              refine m_t hst trivial rfl (fun _ hsh => x_loadEF (j := 0) (cs := [.int .i64 x6486]) hst sc_3 rfl (hsh.row 0 rfl) (Same.refl _ _) hx6486 rfl (fun _ h => h) rfl) ?_; intro a hst
              obtain ⟨x6487, hx6487, H⟩ := Option.bind_eq_some_iff.1 H
              refine m_p hst trivial rfl (fun _ => x_indexAddr hst Try.underlying56 el_3 rfl rfl hw6484_0 hx6487) ?_; intro a hst
              refine m_loud (.inr rfl) ?_
              intro w6488 hsh
              obtain ⟨l6489, hl6489, H⟩ := Option.bind_eq_some_iff.1 H
              refine r_storeE (i := 0) (off := 0) (new := x6485) (cs' := [.int .i64 x6485]) hst hsh trivial sc_3 rfl rfl rfl hx6487 rfl (Nat.le_of_ble_eq_true rfl) rfl (fun _ _ _ h => by rw [h]; rfl) (fun _ _ => rfl) ?_; intro a w6490 hsh hst
              rw [← upd_some hl6489] at hsh
              refine m_turn hsh (sub_sh [] rfl) ?_
              obtain ⟨x6491, hx6491, H⟩ := Option.bind_eq_some_iff.1 H
              refine m_t hst trivial rfl (fun _ hsh => x_indexAddr hst Try.underlying56 el_3 rfl rfl (hsh.row 0 rfl) hx6491) ?_; intro a hst
              refine m_loud (.inr rfl) ?_
              intro w6492 hsh
              obtain ⟨l6493, hl6493, H⟩ := Option.bind_eq_some_iff.1 H
              refine r_storeE (i := 0) (off := 0) (new := x6486) (cs' := [.int .i64 x6486]) hst hsh trivial sc_3 rfl rfl rfl hx6491 rfl (Nat.le_of_ble_eq_true rfl) rfl (fun _ _ _ h => by rw [h]; rfl) (fun _ _ => rfl) ?_; intro a w6494 hsh hst
              rw [← upd_some hl6493] at hsh
              refine m_turn hsh (sub_sh [] rfl) ?_
              refine m_nil ?_
              intro w6495 hsh
              refine qn_normal ?_
              refine then_normal ?_
              obtain ⟨J_1097, hJ_1097, H⟩ := Jn.elim H
              refine wq_cut (fun a w' => ∃ (l_1095 : (List Int)), J_1097 l_1095 = some r ∧ ST [] Try.f75.ntmps a [(0, va0), (1, .int .i64 a1), (2, .int .i64 a2), (6, .bool false), (7, .int .i64 i_1081), (8, .int .i64 i_767)] ∧ SH GG w w' [Row (Kd.int .i64) 3 va0 l_1095]) ?_ ?_
              · rintro a W_1096 ⟨l_1095, H, hst, hsh⟩
                subst hJ_1097
                dsimp only at H
                refine wq_seq ?_
                refine wq_region_lit (.inl rfl) ?_
                refine r_t hst trivial rfl (x_move hst rfl) ?_; intro a hst
                refine r_t hst trivial rfl (x_move hst rfl) ?_; intro a hst
                refine r_t hst trivial rfl (x_arI (r := w64 (a2 - i_1081)) hst rfl rfl rfl) ?_; intro a hst
                refine r_t hst trivial rfl (x_cmpI (b := decide (2 ≤ (w64 (a2 - i_1081)))) hst rfl rfl rfl) ?_; intro a hst
                refine wpL_nil ?_
                refine then_normal ?_
                by_cases c6641 : (decide (2 ≤ (w64 (a2 - i_1081)))) = true
                · rw [if_pos c6641] at H
                  refine wq_condT hst rfl c6641 ?_
                  refine wq_seq ?_
                  refine wq_region_lit (.inl rfl) ?_
                  refine r_t hst trivial rfl (x_move hst rfl) ?_; intro a hst
                  refine r_t hst trivial rfl (x_arI (r := w64 (i_1081 + 1)) hst rfl rfl rfl) ?_; intro a hst
                  refine r_t hst trivial rfl (x_assign hst rfl) ?_; intro a hst
                  refine wpL_nil ?_
                  refine then_normal ?_
                  refine wq_block ?_
                  refine wq_loop_fuel (fun k_1108 a w' => ∃ (l_1102 : (List Int)), ∃ (i_1103 : Int), slices_partialInsertionSortOrdered_int.l1 a2 J_1054 i_1081 k_1108 l_1102 i_1103 = some r ∧ ST [] Try.f75.ntmps a [(0, va0), (1, .int .i64 a1), (2, .int .i64 a2), (6, .bool false), (7, .int .i64 i_1081), (8, .int .i64 i_767), (10, .int .i64 i_1103)] ∧ SH GG w w' [Row (Kd.int .i64) 3 va0 l_1102]) k_959 ?_ ?_
                  · exact ⟨l_1095, (w64 (i_1081 + 1)), H, hst.keep _ ⟨rfl, rfl, rfl, rfl, rfl, rfl, rfl, trivial⟩, hsh.pick [0]⟩
                  · rintro k_1108 a W_1104 ⟨l_1102, i_1103, H, hst, hsh⟩
                    cases k_1108 with
                    | zero => rw [slices_partialInsertionSortOrdered_int.l1] at H; cases H
                    | succ k_1108 =>
                     rw [slices_partialInsertionSortOrdered_int.l1] at H
                     refine wq_seq ?_
                     refine wq_seq ?_
                     refine wq_region_lit (.inl rfl) ?_
                     refine r_t hst trivial rfl (x_move hst rfl) ?_; intro a hst
                     refine r_t hst trivial rfl (x_move hst rfl) ?_; intro a hst
                     refine r_t hst trivial rfl (x_cmpI (b := decide (i_1103 < a2)) hst rfl rfl rfl) ?_; intro a hst
                     refine wpL_nil ?_
                     refine then_normal ?_
                     by_cases c6739 : (decide (i_1103 < a2)) = true
                     · rw [if_pos c6739] at H
                       refine wq_condT hst rfl c6739 ?_
                       refine wq_skip ?_
                       refine then_normal ?_
                       refine wq_seq ?_
                       refine wq_block ?_
                       refine wq_seq ?_
                       refine wq_seq ?_
                       refine wq_region_q (.inl rfl) (fun w' => SH GG w w' [Row (Kd.int .i64) 3 va0 l_1102]) (shut_sh _ _ _) hsh.drew fo (by kernel_rfl) ?_
                       refine q_t hst trivial rfl (fun _ hsh => x_move hst rfl) ?_; intro a hst
                       refine q_t hst trivial rfl (fun _ hsh => x_move hst rfl) ?_; intro a hst
                       obtain ⟨x6769, hx6769, H⟩ := Option.bind_eq_some_iff.1 H
                       refine q_t hst trivial rfl (fun _ hsh => x_indexAddr hst Try.underlying56 el_3 rfl rfl (hsh.row 0 rfl) hx6769) ?_; intro a hst
                       refine q_t hst trivial rfl (fun _ hsh => x_loadEF (j := 0) (cs := [.int .i64 x6769]) hst sc_3 rfl (hsh.row 0 rfl) (Same.refl _ _) hx6769 rfl (fun _ h => h) rfl) ?_; intro a hst
                       refine q_t hst trivial rfl (fun _ hsh => x_move hst rfl) ?_; intro a hst
                       refine q_t hst trivial rfl (fun _ hsh => x_move hst rfl) ?_; intro a hst
                       refine q_t hst trivial rfl (fun _ hsh => x_arI (r := w64 (i_1103 - 1)) hst rfl rfl rfl) ?_; intro a hst
                       obtain ⟨x6770, hx6770, H⟩ := Option.bind_eq_some_iff.1 H
                       refine q_t hst trivial rfl (fun _ hsh => x_indexAddr hst Try.underlying56 el_3 rfl rfl (hsh.row 0 rfl) hx6770) ?_; intro a hst
                       refine q_t hst trivial rfl (fun _ hsh => x_loadEF (j := 0) (cs := [.int .i64 x6770]) hst sc_3 rfl (hsh.row 0 rfl) (Same.refl _ _) hx6770 rfl (fun _ h => h) rfl) ?_; intro a hst
                       obtain ⟨r6771, hr6771, H⟩ := Option.bind_eq_some_iff.1 H
                       refine q_call hst trivial rfl fn_76 rfl (fun w9 hsh => cmp_Less_int.calls _ x6769 x6770 r6771 hr6771) ?_; intro a hst
                       refine q_t hst trivial rfl (fun _ hsh => x_notB hst rfl) ?_; intro a hst
                       refine q_nil ?_
                       intro w6773 hsh
                       refine then_normal ?_
                       by_cases c6774 : (!r6771) = true
                       · rw [if_pos c6774] at H
                         refine wq_condT hst rfl c6774 ?_
                         refine wq_exit ?_
                         refine then_exit ?_
                         refine block_miss rfl ?_
                         refine then_exit ?_
                         refine then_exit ?_
                         refine block_hit ?_
                         refine block_normal ?_
                         refine then_normal ?_
                         exact ⟨l_1102, i_1081, H, hst.keep _ ⟨rfl, rfl, rfl, rfl, rfl, rfl, trivial⟩, hsh.pick [0]⟩
                       · rw [if_neg c6774] at H
                         replace c6774 := Bool.eq_false_iff.2 c6774
                         refine wq_condF hst rfl c6774 ?_
                         refine wq_skip ?_
                         refine then_normal ?_
                         have hw6774_0 := hsh.row 0 rfl
                         refine wq_region_t (.inl rfl) (.fin [(3, 0), (3, 1), (3, 2), (3, 3), (3, 4), (3, 5), (3, 6), (3, 7), (3, 8), (0, 9), (3, 10), (3, 11), (3, 12), (0, 13), (3, 14), (2, 15), (0, 16), (2, 17)]) (fun w' => SH GG w w' []) (fun w' => SH GG w w' [Row (Kd.int .i64) 3 va0 l_1102]) (fun w' => SH GG w w' [Row (Kd.int .i64) 3 va0 l_1102]) (shut_sh _ _ _) (shut_sh _ _ _) (shut_sh _ _ _) (sub_sh [] rfl) (sub_sh [0] rfl) hsh.drew fo (by kernel_rfl) ?_
                         refine t_fin ?_
                         refine m_p hst trivial rfl (fun _ => x_move hst rfl) ?_; intro a hst
                         refine m_p hst trivial rfl (fun _ => x_move hst rfl) ?_; intro a hst
                         refine m_p hst trivial rfl (fun _ => x_move hst rfl) ?_; intro a hst
                         refine m_p hst trivial rfl (fun _ => x_move hst rfl) ?_; intro a hst
                         refine m_p hst trivial rfl (fun _ => x_arI (r := w64 (i_1103 - 1)) hst rfl rfl rfl) ?_; intro a hst
                         refine m_p hst trivial rfl (fun _ => x_move hst rfl) ?_; intro a hst
                         refine m_p hst trivial rfl (fun _ => x_move hst rfl) ?_; intro a hst
                         refine m_p hst trivial rfl (fun _ => x_arI (r := w64 (i_1103 - 1)) hst rfl rfl rfl) ?_; intro a hst
                         obtain ⟨x6775, hx6775, H⟩ := Option.bind_eq_some_iff.1 H
                         refine m_p hst trivial rfl (fun _ => x_indexAddr hst Try.underlying56 el_3 rfl rfl hw6774_0 hx6775) ?_; intro a hst
                         refine m_t hst trivial rfl (fun _ hsh => x_loadEF (j := 0) (cs := [.int .i64 x6775]) hst sc_3 rfl (hsh.row 0 rfl) (Same.refl _ _) hx6775 rfl (fun _ h => h) rfl) ?_; intro a hst
                         refine m_p hst trivial rfl (fun _ => x_move hst rfl) ?_; intro a hst
                         refine m_p hst trivial rfl (fun _ => x_move hst rfl) ?_; intro a hst
                         obtain ⟨x6776, hx6776, H⟩ := Option.bind_eq_some_iff.1 H
                         refine m_p hst trivial rfl (fun _ => x_indexAddr hst Try.underlying56 el_3 rfl rfl hw6774_0 hx6776) ?_; intro a hst
                         refine m_t hst trivial rfl (fun _ hsh => x_loadEF (j := 0) (cs := [.int .i64 x6776]) hst sc_3 rfl (hsh.row 0 rfl) (Same.refl _ _) hx6776 rfl (fun _ h => h) rfl) ?_; intro a hst
                         obtain ⟨x6777, hx6777, H⟩ := Option.bind_eq_some_iff.1 H
                         refine m_p hst trivial rfl (fun _ => x_indexAddr hst Try.underlying56 el_3 rfl rfl hw6774_0 hx6777) ?_; intro a hst
                         refine m_loud (.inr rfl) ?_
                         intro w6778 hsh
                         obtain ⟨l6779, hl6779, H⟩ := Option.bind_eq_some_iff.1 H
                         refine r_storeE (i := 0) (off := 0) (new := x6775) (cs' := [.int .i64 x6775]) hst hsh trivial sc_3 rfl rfl rfl hx6777 rfl (Nat.le_of_ble_eq_true rfl) rfl (fun _ _ _ h => by rw [h]; rfl) (fun _ _ => rfl) ?_; intro a w6780 hsh hst
                         rw [← upd_some hl6779] at hsh
                         refine m_turn hsh (sub_sh [] rfl) ?_
                         obtain ⟨x6781, hx6781, H⟩ := Option.bind_eq_some_iff.1 H
                         refine m_t hst trivial rfl (fun _ hsh => x_indexAddr hst Try.underlying56 el_3 rfl rfl (hsh.row 0 rfl) hx6781) ?_; intro a hst
                         refine m_loud (.inr rfl) ?_
                         intro w6782 hsh
                         obtain ⟨l6783, hl6783, H⟩ := Option.bind_eq_some_iff.1 H
                         refine r_storeE (i := 0) (off := 0) (new := x6776) (cs' := [.int .i64 x6776]) hst hsh trivial sc_3 rfl rfl rfl hx6781 rfl (Nat.le_of_ble_eq_true rfl) rfl (fun _ _ _ h => by rw [h]; rfl) (fun _ _ => rfl) ?_; intro a w6784 hsh hst
                         rw [← upd_some hl6783] at hsh
                         refine m_turn hsh (sub_sh [] rfl) ?_
                         refine m_nil ?_
                         intro w6785 hsh
                         refine qn_normal ?_
                         refine block_normal ?_
                         refine then_normal ?_
                         refine wq_region_lit (.inl rfl) ?_
                         refine r_t hst trivial rfl (x_move hst rfl) ?_; intro a hst
                         refine r_t hst trivial rfl (x_arI (r := w64 (i_1103 + 1)) hst rfl rfl rfl) ?_; intro a hst
                         refine r_t hst trivial rfl (x_assign hst rfl) ?_; intro a hst
                         refine wpL_nil ?_
                         refine then_normal ?_
                         exact ⟨k_1108, Nat.lt_succ_self _, l6783, (w64 (i_1103 + 1)), H, hst.keep _ ⟨rfl, rfl, rfl, rfl, rfl, rfl, rfl, trivial⟩, hsh.pick [0]⟩
                     · rw [if_neg c6739] at H
                       replace c6739 := Bool.eq_false_iff.2 c6739
                       refine wq_condF hst rfl c6739 ?_
                       refine wq_exit ?_
                       refine then_exit ?_
                       refine then_exit ?_
                       refine block_hit ?_
                       refine block_normal ?_
                       refine then_normal ?_
                       exact ⟨l_1102, i_1081, H, hst.keep _ ⟨rfl, rfl, rfl, rfl, rfl, rfl, trivial⟩, hsh.pick [0]⟩
                · rw [if_neg c6641] at H
                  replace c6641 := Bool.eq_false_iff.2 c6641
                  refine wq_condF hst rfl c6641 ?_
                  refine wq_skip ?_
                  refine block_normal ?_
                  refine then_normal ?_
                  exact ⟨l_1095, i_1081, H, hst.keep _ ⟨rfl, rfl, rfl, rfl, rfl, rfl, trivial⟩, hsh.pick [0]⟩
              · refine wq_seq ?_
                refine wq_region_lit (.inl rfl) ?_
                refine r_t hst trivial rfl (x_move hst rfl) ?_; intro a hst
                refine r_t hst trivial rfl (x_move hst rfl) ?_; intro a hst
                refine r_t hst trivial rfl (x_arI (r := w64 (i_1081 - a1)) hst rfl rfl rfl) ?_; intro a hst
                refine r_t hst trivial rfl (x_cmpI (b := decide (2 ≤ (w64 (i_1081 - a1)))) hst rfl rfl rfl) ?_; intro a hst
                refine wpL_nil ?_
                refine then_normal ?_
                by_cases c6786 : (decide (2 ≤ (w64 (i_1081 - a1)))) = true
                · rw [if_pos c6786] at H
                  refine wq_condT hst rfl c6786 ?_
                  refine wq_seq ?_
                  refine wq_region_lit (.inl rfl) ?_
                  refine r_t hst trivial rfl (x_move hst rfl) ?_; intro a hst
                  refine r_t hst trivial rfl (x_arI (r := w64 (i_1081 - 1)) hst rfl rfl rfl) ?_; intro a hst
                  refine r_t hst trivial rfl (x_assign hst rfl) ?_; intro a hst
                  refine wpL_nil ?_
                  refine then_normal ?_
                  refine wq_block ?_
                  refine wq_loop_fuel (fun k_1119 a w' => ∃ (l_1113 : (List Int)), ∃ (i_1114 : Int), slices_partialInsertionSortOrdered_int.l2 J_1097 k_1119 l_1113 i_1114 = some r ∧ ST [] Try.f75.ntmps a [(0, va0), (1, .int .i64 a1), (2, .int .i64 a2), (6, .bool false), (7, .int .i64 i_1081), (8, .int .i64 i_767), (9, .int .i64 i_1114)] ∧ SH GG w w' [Row (Kd.int .i64) 3 va0 l_1113]) k_959 ?_ ?_
                  · exact ⟨l6493, (w64 (i_1081 - 1)), H, hst.keep _ ⟨rfl, rfl, rfl, rfl, rfl, rfl, rfl, trivial⟩, hsh.pick [0]⟩
                  · rintro k_1119 a W_1115 ⟨l_1113, i_1114, H, hst, hsh⟩
                    cases k_1119 with
                    | zero => rw [slices_partialInsertionSortOrdered_int.l2] at H; cases H
                    | succ k_1119 =>
                     rw [slices_partialInsertionSortOrdered_int.l2] at H
                     refine wq_seq ?_
                     refine wq_seq ?_
                     refine wq_region_lit (.inl rfl) ?_
                     refine r_t hst trivial rfl (x_move hst rfl) ?_; intro a hst
                     refine r_t hst trivial rfl (x_cmpI (b := decide (1 ≤ i_1114)) hst rfl rfl rfl) ?_; intro a hst
                     refine wpL_nil ?_
                     refine then_normal ?_
                     by_cases c6884 : (decide (1 ≤ i_1114)) = true
                     · rw [if_pos c6884] at H
                       refine wq_condT hst rfl c6884 ?_
                       refine wq_skip ?_
                       refine then_normal ?_
                       refine wq_seq ?_
                       refine wq_block ?_
                       refine wq_seq ?_
                       refine wq_seq ?_
                       refine wq_region_q (.inl rfl) (fun w' => SH GG w w' [Row (Kd.int .i64) 3 va0 l_1113]) (shut_sh _ _ _) hsh.drew fo (by kernel_rfl) ?_
                       refine q_t hst trivial rfl (fun _ hsh => x_move hst rfl) ?_; intro a hst
                       refine q_t hst trivial rfl (fun _ hsh => x_move hst rfl) ?_; intro a hst
                       obtain ⟨x6914, hx6914, H⟩ := Option.bind_eq_some_iff.1 H
                       refine q_t hst trivial rfl (fun _ hsh => x_indexAddr hst Try.underlying56 el_3 rfl rfl (hsh.row 0 rfl) hx6914) ?_; intro a hst
                       refine q_t hst trivial rfl (fun _ hsh => x_loadEF (j := 0) (cs := [.int .i64 x6914]) hst sc_3 rfl (hsh.row 0 rfl) (Same.refl _ _) hx6914 rfl (fun _ h => h) rfl) ?_; intro a hst
                       refine q_t hst trivial rfl (fun _ hsh => x_move hst rfl) ?_; intro a hst
                       refine q_t hst trivial rfl (fun _ hsh => x_move hst rfl) ?_; intro a hst
                       refine q_t hst trivial rfl (fun _ hsh => x_arI (r := w64 (i_1114 - 1)) hst rfl rfl rfl) ?_; intro a hst
                       obtain ⟨x6915, hx6915, H⟩ := Option.bind_eq_some_iff.1 H
                       refine q_t hst trivial rfl (fun _ hsh => x_indexAddr hst Try.underlying56 el_3 rfl rfl (hsh.row 0 rfl) hx6915) ?_; intro a hst
                       refine q_t hst trivial rfl (fun _ hsh => x_loadEF (j := 0) (cs := [.int .i64 x6915]) hst sc_3 rfl (hsh.row 0 rfl) (Same.refl _ _) hx6915 rfl (fun _ h => h) rfl) ?_; intro a hst
                       obtain ⟨r6916, hr6916, H⟩ := Option.bind_eq_some_iff.1 H
                       refine q_call hst trivial rfl fn_76 rfl (fun w9 hsh => cmp_Less_int.calls _ x6914 x6915 r6916 hr6916) ?_; intro a hst
                       refine q_t hst trivial rfl (fun _ hsh => x_notB hst rfl) ?_; intro a hst
                       refine q_nil ?_
                       intro w6918 hsh
                       refine then_normal ?_
                       by_cases c6919 : (!r6916) = true
                       · rw [if_pos c6919] at H
                         refine wq_condT hst rfl c6919 ?_
                         refine wq_exit ?_
                         refine then_exit ?_
                         refine block_miss rfl ?_
                         refine then_exit ?_
                         refine then_exit ?_
                         refine block_hit ?_
                         refine then_normal ?_
                         exact ⟨l_1113, H, hst.keep _ ⟨rfl, rfl, rfl, rfl, rfl, rfl, trivial⟩, hsh.pick [0]⟩
                       · rw [if_neg c6919] at H
                         replace c6919 := Bool.eq_false_iff.2 c6919
                         refine wq_condF hst rfl c6919 ?_
                         refine wq_skip ?_
                         refine then_normal ?_
                         have hw6919_0 := hsh.row 0 rfl
                         refine wq_region_t (.inl rfl) (.fin [(3, 0), (3, 1), (3, 2), (3, 3), (3, 4), (3, 5), (3, 6), (3, 7), (3, 8), (0, 9), (3, 10), (3, 11), (3, 12), (0, 13), (3, 14), (2, 15), (0, 16), (2, 17)]) (fun w' => SH GG w w' []) (fun w' => SH GG w w' [Row (Kd.int .i64) 3 va0 l_1113]) (fun w' => SH GG w w' [Row (Kd.int .i64) 3 va0 l_1113]) (shut_sh _ _ _) (shut_sh _ _ _) (shut_sh _ _ _) (sub_sh [] rfl) (sub_sh [0] rfl) hsh.drew fo (by kernel_rfl) ?_
                         refine t_fin ?_
                         refine m_p hst trivial rfl (fun _ => x_move hst rfl) ?_; intro a hst
                         refine m_p hst trivial rfl (fun _ => x_move hst rfl) ?_; intro a hst
                         refine m_p hst trivial rfl (fun _ => x_move hst rfl) ?_; intro a hst
                         refine m_p hst trivial rfl (fun _ => x_move hst rfl) ?_; intro a hst
                         refine m_p hst trivial rfl (fun _ => x_arI (r := w64 (i_1114 - 1)) hst rfl rfl rfl) ?_; intro a hst
                         refine m_p hst trivial rfl (fun _ => x_move hst rfl) ?_; intro a hst
                         refine m_p hst trivial rfl (fun _ => x_move hst rfl) ?_; intro a hst
                         refine m_p hst trivial rfl (fun _ => x_arI (r := w64 (i_1114 - 1)) hst rfl rfl rfl) ?_; intro a hst
                         obtain ⟨x6920, hx6920, H⟩ := Option.bind_eq_some_iff.1 H
                         refine m_p hst trivial rfl (fun _ => x_indexAddr hst Try.underlying56 el_3 rfl rfl hw6919_0 hx6920) ?_; intro a hst
                         refine m_t hst trivial rfl (fun _ hsh => x_loadEF (j := 0) (cs := [.int .i64 x6920]) hst sc_3 rfl (hsh.row 0 rfl) (Same.refl _ _) hx6920 rfl (fun _ h => h) rfl) ?_; intro a hst
                         refine m_p hst trivial rfl (fun _ => x_move hst rfl) ?_; intro a hst
                         refine m_p hst trivial rfl (fun _ => x_move hst rfl) ?_; intro a hst
                         obtain ⟨x6921, hx6921, H⟩ := Option.bind_eq_some_iff.1 H
                         refine m_p hst trivial rfl (fun _ => x_indexAddr hst Try.underlying56 el_3 rfl rfl hw6919_0 hx6921) ?_; intro a hst
                         refine m_t hst trivial rfl (fun _ hsh => x_loadEF (j := 0) (cs := [.int .i64 x6921]) hst sc_3 rfl (hsh.row 0 rfl) (Same.refl _ _) hx6921 rfl (fun _ h => h) rfl) ?_; intro a hst
                         obtain ⟨x6922, hx6922, H⟩ := Option.bind_eq_some_iff.1 H
                         refine m_p hst trivial rfl (fun _ => x_indexAddr hst Try.underlying56 el_3 rfl rfl hw6919_0 hx6922) ?_; intro a hst
                         refine m_loud (.inr rfl) ?_
                         intro w6923 hsh
                         obtain ⟨l6924, hl6924, H⟩ := Option.bind_eq_some_iff.1 H
                         refine r_storeE (i := 0) (off := 0) (new := x6920) (cs' := [.int .i64 x6920]) hst hsh trivial sc_3 rfl rfl rfl hx6922 rfl (Nat.le_of_ble_eq_true rfl) rfl (fun _ _ _ h => by rw [h]; rfl) (fun _ _ => rfl) ?_; intro a w6925 hsh hst
                         rw [← upd_some hl6924] at hsh
                         refine m_turn hsh (sub_sh [] rfl) ?_
                         obtain ⟨x6926, hx6926, H⟩ := Option.bind_eq_some_iff.1 H
                         refine m_t hst trivial rfl (fun _ hsh => x_indexAddr hst Try.underlying56 el_3 rfl rfl (hsh.row 0 rfl) hx6926) ?_; intro a hst
                         refine m_loud (.inr rfl) ?_
                         intro w6927 hsh
                         obtain ⟨l6928, hl6928, H⟩ := Option.bind_eq_some_iff.1 H
                         refine r_storeE (i := 0) (off := 0) (new := x6921) (cs' := [.int .i64 x6921]) hst hsh trivial sc_3 rfl rfl rfl hx6926 rfl (Nat.le_of_ble_eq_true rfl) rfl (fun _ _ _ h => by rw [h]; rfl) (fun _ _ => rfl) ?_; intro a w6929 hsh hst
                         rw [← upd_some hl6928] at hsh
                         refine m_turn hsh (sub_sh [] rfl) ?_
                         refine m_nil ?_
                         intro w6930 hsh
                         refine qn_normal ?_
                         refine block_normal ?_
                         refine then_normal ?_
                         refine wq_region_lit (.inl rfl) ?_
                         refine r_t hst trivial rfl (x_move hst rfl) ?_; intro a hst
                         refine r_t hst trivial rfl (x_arI (r := w64 (i_1114 - 1)) hst rfl rfl rfl) ?_; intro a hst
                         refine r_t hst trivial rfl (x_assign hst rfl) ?_; intro a hst
                         refine wpL_nil ?_
                         refine then_normal ?_
                         exact ⟨k_1119, Nat.lt_succ_self _, l6928, (w64 (i_1114 - 1)), H, hst.keep _ ⟨rfl, rfl, rfl, rfl, rfl, rfl, rfl, trivial⟩, hsh.pick [0]⟩
                     · rw [if_neg c6884] at H
                       replace c6884 := Bool.eq_false_iff.2 c6884
                       refine wq_condF hst rfl c6884 ?_
                       refine wq_exit ?_
                       refine then_exit ?_
                       refine then_exit ?_
                       refine block_hit ?_
                       refine then_normal ?_
                       exact ⟨l_1113, H, hst.keep _ ⟨rfl, rfl, rfl, rfl, rfl, rfl, trivial⟩, hsh.pick [0]⟩
                · rw [if_neg c6786] at H
                  replace c6786 := Bool.eq_false_iff.2 c6786
                  refine wq_condF hst rfl c6786 ?_
                  refine wq_skip ?_
                  refine then_normal ?_
                  exact ⟨l6493, H, hst.keep _ ⟨rfl, rfl, rfl, rfl, rfl, rfl, trivial⟩, hsh.pick [0]⟩
        · refine wq_block ?_
          refine wq_loop_fuel (fun k_1139 a w' => ∃ (i_1129 : Int), slices_partialInsertionSortOrdered_int.l3 a2 l_765 J_1083 k_1139 i_1129 = some r ∧ ST [] Try.f75.ntmps a [(0, va0), (1, .int .i64 a1), (2, .int .i64 a2), (6, .bool false), (7, .int .i64 i_1129), (8, .int .i64 i_767)] ∧ SH GG w w' [Row (Kd.int .i64) 3 va0 l_765]) k_959 ?_ ?_
          · exact ⟨i_766, H, hst.keep _ ⟨rfl, rfl, rfl, rfl, rfl, rfl, trivial⟩, hsh.pick [0]⟩
          · rintro k_1139 a W_1130 ⟨i_1129, H, hst, hsh⟩
            cases k_1139 with
            | zero => rw [slices_partialInsertionSortOrdered_int.l3] at H; cases H
            | succ k_1139 =>
             rw [slices_partialInsertionSortOrdered_int.l3] at H
             refine wq_seq ?_
             refine wq_seq ?_
             refine wq_region_q (.inl rfl) (fun w' => SH GG w w' [Row (Kd.int .i64) 3 va0 l_765]) (shut_sh _ _ _) hsh.drew fo (by kernel_rfl) ?_
             refine q_t hst trivial rfl (fun _ hsh => x_move hst rfl) ?_; intro a hst
             refine q_t hst trivial rfl (fun _ hsh => x_move hst rfl) ?_; intro a hst
             refine q_t hst trivial rfl (fun _ hsh => x_cmpI (b := decide (i_1129 < a2)) hst rfl rfl rfl) ?_; intro a hst
             refine q_t hst trivial rfl (fun _ hsh => x_move hst rfl) ?_; intro a hst
             obtain ⟨J_1144, hJ_1144, H⟩ := Jn.elim H
             refine q_join 16 (fun a => ∃ (b_1143 : Bool), J_1144 b_1143 = some r ∧ ST [] Try.f75.ntmps a [(0, va0), (1, .int .i64 a1), (2, .int .i64 a2), (6, .bool false), (7, .int .i64 i_1129), (8, .int .i64 i_767), (32, .bool b_1143)]) ?_ ?_
             · rintro a ⟨b_1143, H, hst⟩
               subst hJ_1144
               dsimp only at H
               refine q_nil ?_
               intro w6991 hsh
               refine then_normal ?_
               by_cases c6992 : b_1143 = true
               · rw [if_pos c6992] at H
                 refine wq_condT hst rfl c6992 ?_
                 refine wq_skip ?_
                 refine then_normal ?_
                 refine wq_block ?_
                 refine wq_region_lit (.inl rfl) ?_
                 refine r_t hst trivial rfl (x_move hst rfl) ?_; intro a hst
                 refine r_t hst trivial rfl (x_arI (r := w64 (i_1129 + 1)) hst rfl rfl rfl) ?_; intro a hst
                 refine r_t hst trivial rfl (x_assign hst rfl) ?_; intro a hst
                 refine wpL_nil ?_
                 refine block_normal ?_
                 refine then_normal ?_
                 exact ⟨k_1139, Nat.lt_succ_self _, (w64 (i_1129 + 1)), H, hst.keep _ ⟨rfl, rfl, rfl, rfl, rfl, rfl, trivial⟩, hsh.pick [0]⟩
               · rw [if_neg c6992] at H
                 replace c6992 := Bool.eq_false_iff.2 c6992
                 refine wq_condF hst rfl c6992 ?_
                 refine wq_exit ?_
                 refine then_exit ?_
                 refine then_exit ?_
                 refine block_hit ?_
                 refine then_normal ?_
                 exact ⟨i_1129, H, hst.keep _ ⟨rfl, rfl, rfl, rfl, rfl, rfl, trivial⟩, hsh.pick [0]⟩
             · intro hj
               by_cases c6986 : (decide (i_1129 < a2)) = true
               · rw [if_pos c6986] at H
                 refine q_t hst (wt_of 20 rfl rfl c6986) rfl (fun _ hsh => x_move hst rfl) ?_; intro a hst
                 refine q_t hst (wt_of 20 rfl rfl c6986) rfl (fun _ hsh => x_move hst rfl) ?_; intro a hst
                 obtain ⟨x6993, hx6993, H⟩ := Option.bind_eq_some_iff.1 H
                 refine q_t hst (wt_of 20 rfl rfl c6986) rfl (fun _ hsh => x_indexAddr hst Try.underlying56 el_3 rfl rfl (hsh.row 0 rfl) hx6993) ?_; intro a hst
                 refine q_t hst (wt_of 20 rfl rfl c6986) rfl (fun _ hsh => x_loadEF (j := 0) (cs := [.int .i64 x6993]) hst sc_3 rfl (hsh.row 0 rfl) (Same.refl _ _) hx6993 rfl (fun _ h => h) rfl) ?_; intro a hst
                 refine q_t hst (wt_of 20 rfl rfl c6986) rfl (fun _ hsh => x_move hst rfl) ?_; intro a hst
                 refine q_t hst (wt_of 20 rfl rfl c6986) rfl (fun _ hsh => x_move hst rfl) ?_; intro a hst
                 refine q_t hst (wt_of 20 rfl rfl c6986) rfl (fun _ hsh => x_arI (r := w64 (i_1129 - 1)) hst rfl rfl rfl) ?_; intro a hst
                 obtain ⟨x6994, hx6994, H⟩ := Option.bind_eq_some_iff.1 H
                 refine q_t hst (wt_of 20 rfl rfl c6986) rfl (fun _ hsh => x_indexAddr hst Try.underlying56 el_3 rfl rfl (hsh.row 0 rfl) hx6994) ?_; intro a hst
                 refine q_t hst (wt_of 20 rfl rfl c6986) rfl (fun _ hsh => x_loadEF (j := 0) (cs := [.int .i64 x6994]) hst sc_3 rfl (hsh.row 0 rfl) (Same.refl _ _) hx6994 rfl (fun _ h => h) rfl) ?_; intro a hst
                 obtain ⟨r6995, hr6995, H⟩ := Option.bind_eq_some_iff.1 H
                 refine q_call hst (wt_of 20 rfl rfl c6986) rfl fn_76 rfl (fun w9 hsh => cmp_Less_int.calls _ x6993 x6994 r6995 hr6995) ?_; intro a hst
                 refine q_t hst (wt_of 20 rfl rfl c6986) rfl (fun _ hsh => x_notB hst rfl) ?_; intro a hst
                 refine q_t hst trivial rfl (fun _ hsh => x_pickT hst rfl c6986 rfl) ?_; intro a hst
                 exact hj _ ⟨(!r6995), H, hst.keep _ ⟨rfl, rfl, rfl, rfl, rfl, rfl, rfl, trivial⟩⟩
               · rw [if_neg c6986] at H
                 replace c6986 := Bool.eq_false_iff.2 c6986
                 refine q_not hst 20 rfl rfl c6986 rfl ?_; intro a hst
                 refine q_not hst 20 rfl rfl c6986 rfl ?_; intro a hst
                 refine q_not hst 20 rfl rfl c6986 rfl ?_; intro a hst
                 refine q_not hst 20 rfl rfl c6986 rfl ?_; intro a hst
                 refine q_not hst 20 rfl rfl c6986 rfl ?_; intro a hst
                 refine q_not hst 20 rfl rfl c6986 rfl ?_; intro a hst
                 refine q_not hst 20 rfl rfl c6986 rfl ?_; intro a hst
                 refine q_not hst 20 rfl rfl c6986 rfl ?_; intro a hst
                 refine q_not hst 20 rfl rfl c6986 rfl ?_; intro a hst
                 refine q_not hst 20 rfl rfl c6986 rfl ?_; intro a hst
                 refine q_not hst 20 rfl rfl c6986 rfl ?_; intro a hst
                 refine q_t hst trivial rfl (fun _ hsh => x_pickF hst rfl c6986 rfl) ?_; intro a hst
                 exact hj _ ⟨false, H, hst.keep _ ⟨rfl, rfl, rfl, rfl, rfl, rfl, rfl, trivial⟩⟩
    · rw [if_neg c5832] at H
      replace c5832 := Bool.eq_false_iff.2 c5832
      refine wq_condF hst rfl c5832 ?_
      refine wq_exit ?_
      refine then_exit ?_
      refine then_exit ?_
      refine block_hit ?_
      refine then_normal ?_
      refine wq_seq ?_
      refine wq_region_lit (.inl rfl) ?_
      refine r_t hst trivial rfl (x_assign hst rfl) ?_; intro a hst
      refine wpL_nil ?_
      refine then_normal ?_
      refine wq_ret ?_
      obtain rfl := Option.some.inj H
      exact ret1 hst rfl rfl ⟨rfl, hsh.pick [0]⟩
end Go.Proofs.Ytbbepmmelpabbaa.Mo
