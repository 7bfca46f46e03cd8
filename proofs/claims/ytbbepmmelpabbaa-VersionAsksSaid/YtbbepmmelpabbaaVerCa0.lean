/- Printed by gen.py: contracts. -/
import Derived.Test.YtbbepmmelpabbaaVerKd
set_option linter.unusedVariables false
set_option linter.unusedSectionVars false
set_option linter.unusedSimpArgs false
set_option maxRecDepth 100000
namespace Go.Proofs.Ytbbepmmelpabbaa.Mo
open Go Go.Proofs.Ytbbepmmelpabbaa.Sy
open Go.Proofs
set_option maxHeartbeats 4000000 in
set_option maxRecDepth 100000 in
theorem l16_copied.calls (k : Nat) (w : World) (va0 : Value) (Za0 : Nat → Prop) (wra0 : World) (hsa0 : Same Za0 wra0 w) (a0 : (List (List File))) (hra0 : RD (Kd.slice 43 k_File) Za0 wra0 va0 a0) (r : (List (List File))) (h : l16_copied k a0 = some r) :
    Calls Try.prog 11 ([va0] : List Value).toArray w fun e w' => ∃ v0_ : Value, e = .returned (v0_) ∧ SH (fun _ => False) w w' [Row (Kd.slice 43 k_File) 39 v0_ r] := by
 have H := h
 clear h
 unfold l16_copied at H
 refine calls_enter Try.func11 rfl rfl ?_
 intro a hst
 have hsh := SH.zero (fun _ => False) w
 refine wq_seq ?_
 refine wq_region_lit (.inl rfl) ?_
 refine r_t hst trivial rfl (x_assign hst rfl) ?_; intro a hst
 refine wpL_nil ?_
 refine then_normal ?_
 refine wq_seq ?_
 refine wq_region_lit (.inl rfl) ?_
 refine r_buildSlice (vs := []) (cs := []) hst hsh trivial rfl Try.underlying23 el_39 rfl rfl (by simp [Value.cells]) rfl rfl ?_
 intro g1 a w2 hgg1 hsh hst
 replace hsh := hsh.pick [0]
 replace hsh : SH (fun _ => False) w w2 [Row (Kd.slice 43 k_File) 39 (.slice (some ⟨g1, 0, none⟩) 0 0) ([])] := SH.boxRowM (C := []) ([] : List (List File)) hsh ef_nil rfl rfl (by decide)
 refine r_t hst trivial rfl (x_assign hst rfl) ?_; intro a hst
 refine wpL_nil ?_
 refine then_normal ?_
 refine wq_seq ?_
 refine wq_seq ?_
 refine wq_region_lit (.inl rfl) ?_
 refine r_t hst trivial rfl (x_assign hst rfl) ?_; intro a hst
 refine wpL_nil ?_
 refine then_normal ?_
 refine wq_block ?_
 refine wq_loop_fuel (fun k_28 a w' => ∃ (v_20 : Value), ∃ (l_21 : (List (List File))), ∃ (i_22 : Int), l16_copied.l0 a0 k_28 l_21 i_22 = some r ∧ ST [] Try.f11.ntmps a [(0, va0), (2, (.slice none 0 0)), (3, v_20), (4, .int .i64 i_22)] ∧ SH (fun _ => False) w w' [Row (Kd.slice 43 k_File) 39 v_20 l_21]) k ?_ ?_
 · exact ⟨(.slice (some ⟨g1, 0, none⟩) 0 0), ([]), 0, H, hst.keep _ ⟨rfl, rfl, rfl, rfl, trivial⟩, hsh.pick [0]⟩
 · rintro k_28 a W_23 ⟨v_20, l_21, i_22, H, hst, hsh⟩
   cases k_28 with
   | zero => rw [l16_copied.l0] at H; cases H
   | succ k_28 =>
    rw [l16_copied.l0] at H
    refine wq_seq ?_
    refine wq_seq ?_
    refine wq_region_lit (.inl rfl) ?_
    refine r_t hst trivial rfl (x_move hst rfl) ?_; intro a hst
    refine r_t hst trivial rfl (x_move hst rfl) ?_; intro a hst
    refine r_t hst trivial rfl (x_lenSl hst Try.underlying23 rfl hra0.slen) ?_; intro a hst
    refine r_t hst trivial rfl (x_cmpI (b := decide (i_22 < (a0.length : Int))) hst rfl rfl rfl) ?_; intro a hst
    refine wpL_nil ?_
    refine then_normal ?_
    by_cases c175 : (decide (i_22 < (a0.length : Int))) = true
    · rw [if_pos c175] at H
      refine wq_condT hst rfl c175 ?_
      refine wq_skip ?_
      refine then_normal ?_
      refine wq_seq ?_
      refine wq_block ?_
      refine wq_region_lit (.inl rfl) ?_
      refine r_t hst trivial rfl (x_move hst rfl) ?_; intro a hst
      refine r_buildSlice (vs := []) (cs := []) hst hsh trivial rfl Try.underlying39 el_43 rfl rfl (by simp [Value.cells]) rfl rfl ?_
      intro g192 a w193 hgg192 hsh hst
      replace hsh := hsh.pick [0, 0]
      replace hsh : SH (fun _ => False) w w193 [Row k_File 43 (.slice (some ⟨g192, 0, none⟩) 0 0) ([]), Row (Kd.slice 43 k_File) 39 v_20 l_21] := SH.boxRow ([] : List File) hsh rfl rfl rfl
      refine r_t hst trivial rfl (x_move hst rfl) ?_; intro a hst
      refine r_t hst trivial rfl (x_move hst rfl) ?_; intro a hst
      obtain ⟨x195, hx195, H⟩ := Option.bind_eq_some_iff.1 H
      refine r_t hst trivial rfl (x_indexAddr hst Try.underlying23 el_39 rfl rfl hra0 hx195) ?_; intro a hst
      obtain ⟨_, hk196, hc197⟩ := RD.cells2 hra0 hx195
      obtain ⟨v198, rfl, hr199⟩ := hk196
      refine r_t hst trivial rfl (x_loadC hst sc_39 rfl (hc197 _ (Same.sh0 hsa0 hsh) 0 _ rfl)) ?_; intro a hst
      replace hsh := hsh.pick [0, 0]
      obtain ⟨l200, hl200, H⟩ := Option.bind_eq_some_iff.1 H
      refine r_appendN (M := [Row (Kd.slice 43 k_File) 39 v_20 l_21]) hst hsh trivial rfl Try.underlying39 el_43 (by decide) (by decide) (by decide) rfl rfl (flat_flat _ _ _ _) hr199 (Same.sh0 hsa0 hsh) hl200 ?_
      intro v201 a w202 hsh hst
      refine r_buildSlice (vs := [v201]) (cs := [v201]) hst hsh trivial rfl Try.underlying23 el_39 rfl rfl (by simp [cells_sl, cells_slen (hsh.row 0 rfl).slen]) rfl (by simp [cells_sl, cells_slen (hsh.row 0 rfl).slen]) ?_
      intro g203 a w204 hgg203 hsh hst
      replace hsh := hsh.pick [2, 0, 0]
      obtain ⟨l205, hl205, H⟩ := Option.bind_eq_some_iff.1 H
      refine r_append1 (xx := l200) (C := [Row k_File 43 v201 l200]) (M := []) hst hsh trivial rfl Try.underlying23 el_39 (by decide) (by decide) (by decide) rfl rfl mf_slice hl205 ?_
      intro v206 a w207 hsh hst
      refine r_t hst trivial rfl (x_assign hst rfl) ?_; intro a hst
      refine wpL_nil ?_
      refine block_normal ?_
      refine then_normal ?_
      refine wq_region_lit (.inl rfl) ?_
      refine r_t hst trivial rfl (x_move hst rfl) ?_; intro a hst
      refine r_t hst trivial rfl (x_arI (r := w64 (i_22 + 1)) hst rfl rfl rfl) ?_; intro a hst
      refine r_t hst trivial rfl (x_assign hst rfl) ?_; intro a hst
      refine wpL_nil ?_
      refine then_normal ?_
      exact ⟨k_28, Nat.lt_succ_self _, v206, l205, (w64 (i_22 + 1)), H, hst.keep _ ⟨rfl, rfl, rfl, rfl, trivial⟩, hsh.pick [0]⟩
    · rw [if_neg c175] at H
      replace c175 := Bool.eq_false_iff.2 c175
      refine wq_condF hst rfl c175 ?_
      refine wq_exit ?_
      refine then_exit ?_
      refine then_exit ?_
      refine block_hit ?_
      refine then_normal ?_
      refine wq_seq ?_
      refine wq_region_lit (.inl rfl) ?_
      refine r_t hst trivial rfl (x_move hst rfl) ?_; intro a hst
      refine r_t hst trivial rfl (x_assign hst rfl) ?_; intro a hst
      refine wpL_nil ?_
      refine then_normal ?_
      refine wq_ret ?_
      obtain rfl := Option.some.inj H
      exact ret1 hst rfl rfl ⟨v_20, rfl, hsh.pick [0]⟩

set_option maxHeartbeats 4000000 in
set_option maxRecDepth 100000 in
theorem version_may.calls (w : World) (a0 : File) (r : Bool) (h : version_may a0 = some r) :
    Calls Try.prog 37 ([.agg #[.int .i64 a0.Number, .int .i64 a0.Size, .string a0.Least, .string a0.Limit, .int .u64 a0.Low, .int .u64 a0.High]] : List Value).toArray w fun e w' => e = .returned (.bool r) ∧ SH (fun _ => False) w w' [] := by
 have H := h
 clear h
 unfold version_may at H
 refine calls_enter Try.func37 rfl rfl ?_
 intro a hst
 have hsh := SH.zero (fun _ => False) w
 refine wq_seq ?_
 refine wq_region_lit (.inl rfl) ?_
 refine r_box hst hsh trivial rfl rfl rfl ?_
 intro g1 a w2 hgg1 hsh hst
 refine r_t hst trivial rfl (x_assign hst rfl) ?_; intro a hst
 refine wpL_nil ?_
 refine then_normal ?_
 refine wq_seq ?_
 refine wq_region_lit (.inl rfl) ?_
 refine r_t hst trivial rfl (x_fieldAddr (j' := 0) hst fa_43_0 rfl rfl) ?_; intro a hst
 refine r_t hst trivial rfl (x_loadB (i := 0) hst hsh sc_3 rfl rfl rfl) ?_; intro a hst
 refine r_t hst trivial rfl (x_cmpI (b := decide (1 ≤ a0.Number)) hst rfl rfl rfl) ?_; intro a hst
 refine r_t hst trivial rfl (x_move hst rfl) ?_; intro a hst
 refine wl_join0 (Δ := []) (N := Try.f37.ntmps) 8 [(1, .pointer (some ⟨g1, 0, none⟩)), (2, .bool false), (10, .bool ((decide (1 ≤ a0.Number)) && (decide (a0.Number ≤ 2147483647))))] ?_ ?_
 · intro a hst
   refine r_t hst trivial rfl (x_move hst rfl) ?_; intro a hst
   refine wl_join0 (Δ := []) (N := Try.f37.ntmps) 13 [(1, .pointer (some ⟨g1, 0, none⟩)), (2, .bool false), (15, .bool (((decide (1 ≤ a0.Number)) && (decide (a0.Number ≤ 2147483647))) && (decide (1 ≤ a0.Size))))] ?_ ?_
   · intro a hst
     refine r_t hst trivial rfl (x_move hst rfl) ?_; intro a hst
     refine wl_join0 (Δ := []) (N := Try.f37.ntmps) 18 [(1, .pointer (some ⟨g1, 0, none⟩)), (2, .bool false), (20, .bool ((((decide (1 ≤ a0.Number)) && (decide (a0.Number ≤ 2147483647))) && (decide (1 ≤ a0.Size))) && (decide (a0.Size ≤ 268435456))))] ?_ ?_
     · intro a hst
       refine r_t hst trivial rfl (x_move hst rfl) ?_; intro a hst
       refine wl_join0 (Δ := []) (N := Try.f37.ntmps) 24 [(1, .pointer (some ⟨g1, 0, none⟩)), (2, .bool false), (26, .bool (((((decide (1 ≤ a0.Number)) && (decide (a0.Number ≤ 2147483647))) && (decide (1 ≤ a0.Size))) && (decide (a0.Size ≤ 268435456))) && (decide (1 ≤ (a0.Least.size : Int)))))] ?_ ?_
       · intro a hst
         refine r_t hst trivial rfl (x_move hst rfl) ?_; intro a hst
         refine wl_join0 (Δ := []) (N := Try.f37.ntmps) 30 [(1, .pointer (some ⟨g1, 0, none⟩)), (2, .bool false), (32, .bool ((((((decide (1 ≤ a0.Number)) && (decide (a0.Number ≤ 2147483647))) && (decide (1 ≤ a0.Size))) && (decide (a0.Size ≤ 268435456))) && (decide (1 ≤ (a0.Least.size : Int)))) && (decide ((a0.Least.size : Int) ≤ 1024))))] ?_ ?_
         · intro a hst
           refine r_t hst trivial rfl (x_move hst rfl) ?_; intro a hst
           refine wl_join0 (Δ := []) (N := Try.f37.ntmps) 37 [(1, .pointer (some ⟨g1, 0, none⟩)), (2, .bool false), (39, .bool (((((((decide (1 ≤ a0.Number)) && (decide (a0.Number ≤ 2147483647))) && (decide (1 ≤ a0.Size))) && (decide (a0.Size ≤ 268435456))) && (decide (1 ≤ (a0.Least.size : Int)))) && (decide ((a0.Least.size : Int) ≤ 1024))) && (sLt a0.Least a0.Limit)))] ?_ ?_
           · intro a hst
             refine r_t hst trivial rfl (x_move hst rfl) ?_; intro a hst
             refine wl_join0 (Δ := []) (N := Try.f37.ntmps) 43 [(1, .pointer (some ⟨g1, 0, none⟩)), (2, .bool false), (45, .bool ((((((((decide (1 ≤ a0.Number)) && (decide (a0.Number ≤ 2147483647))) && (decide (1 ≤ a0.Size))) && (decide (a0.Size ≤ 268435456))) && (decide (1 ≤ (a0.Least.size : Int)))) && (decide ((a0.Least.size : Int) ≤ 1024))) && (sLt a0.Least a0.Limit)) && (decide ((a0.Limit.size : Int) ≤ 1025))))] ?_ ?_
             · intro a hst
               refine r_t hst trivial rfl (x_move hst rfl) ?_; intro a hst
               refine wl_join0 (Δ := []) (N := Try.f37.ntmps) 48 [(1, .pointer (some ⟨g1, 0, none⟩)), (2, .bool false), (50, .bool (((((((((decide (1 ≤ a0.Number)) && (decide (a0.Number ≤ 2147483647))) && (decide (1 ≤ a0.Size))) && (decide (a0.Size ≤ 268435456))) && (decide (1 ≤ (a0.Least.size : Int)))) && (decide ((a0.Least.size : Int) ≤ 1024))) && (sLt a0.Least a0.Limit)) && (decide ((a0.Limit.size : Int) ≤ 1025))) && (decide (1 ≤ a0.Low))))] ?_ ?_
               · intro a hst
                 refine r_t hst trivial rfl (x_move hst rfl) ?_; intro a hst
                 refine wl_join0 (Δ := []) (N := Try.f37.ntmps) 55 [(1, .pointer (some ⟨g1, 0, none⟩)), (2, .bool false), (57, .bool ((((((((((decide (1 ≤ a0.Number)) && (decide (a0.Number ≤ 2147483647))) && (decide (1 ≤ a0.Size))) && (decide (a0.Size ≤ 268435456))) && (decide (1 ≤ (a0.Least.size : Int)))) && (decide ((a0.Least.size : Int) ≤ 1024))) && (sLt a0.Least a0.Limit)) && (decide ((a0.Limit.size : Int) ≤ 1025))) && (decide (1 ≤ a0.Low))) && (decide (a0.Low ≤ a0.High))))] ?_ ?_
                 · intro a hst
                   refine r_t hst trivial rfl (x_move hst rfl) ?_; intro a hst
                   refine wl_join0 (Δ := []) (N := Try.f37.ntmps) 60 [(2, .bool false), (62, .bool (((((((((((decide (1 ≤ a0.Number)) && (decide (a0.Number ≤ 2147483647))) && (decide (1 ≤ a0.Size))) && (decide (a0.Size ≤ 268435456))) && (decide (1 ≤ (a0.Least.size : Int)))) && (decide ((a0.Least.size : Int) ≤ 1024))) && (sLt a0.Least a0.Limit)) && (decide ((a0.Limit.size : Int) ≤ 1025))) && (decide (1 ≤ a0.Low))) && (decide (a0.Low ≤ a0.High))) && (decide (a0.High ≤ 72057594037927935))))] ?_ ?_
                   · intro a hst
                     refine r_t hst trivial rfl (x_assign hst rfl) ?_; intro a hst
                     refine wpL_nil ?_
                     refine then_normal ?_
                     refine wq_ret ?_
                     obtain rfl := Option.some.inj H
                     exact ret1 hst rfl rfl ⟨rfl, hsh.pick []⟩
                   · intro hj
                     by_cases c12 : ((((((((((decide (1 ≤ a0.Number)) && (decide (a0.Number ≤ 2147483647))) && (decide (1 ≤ a0.Size))) && (decide (a0.Size ≤ 268435456))) && (decide (1 ≤ (a0.Least.size : Int)))) && (decide ((a0.Least.size : Int) ≤ 1024))) && (sLt a0.Least a0.Limit)) && (decide ((a0.Limit.size : Int) ≤ 1025))) && (decide (1 ≤ a0.Low))) && (decide (a0.Low ≤ a0.High))) = true
                     · refine r_t hst (wt_of 58 rfl rfl c12) rfl (x_fieldAddr (j' := 5) hst fa_43_5 rfl rfl) ?_; intro a hst
                       refine r_t hst (wt_of 58 rfl rfl c12) rfl (x_loadB (i := 0) hst hsh sc_24 rfl rfl rfl) ?_; intro a hst
                       refine r_t hst (wt_of 58 rfl rfl c12) rfl (x_cmpI (b := decide (a0.High ≤ 72057594037927935)) hst rfl rfl rfl) ?_; intro a hst
                       refine r_t hst trivial rfl (x_andT hst rfl c12 rfl) ?_; intro a hst
                       exact hj _ (hst.keep _ ⟨rfl, rfl, trivial⟩)
                     · replace c12 := Bool.eq_false_iff.2 c12
                       refine r_not hst 58 rfl rfl c12 rfl ?_; intro a hst
                       refine r_not hst 58 rfl rfl c12 rfl ?_; intro a hst
                       refine r_not hst 58 rfl rfl c12 rfl ?_; intro a hst
                       refine r_t hst trivial rfl (x_andF (decide (a0.High ≤ 72057594037927935)) hst rfl c12 rfl) ?_; intro a hst
                       exact hj _ (hst.keep _ ⟨rfl, rfl, trivial⟩)
                 · intro hj
                   by_cases c11 : (((((((((decide (1 ≤ a0.Number)) && (decide (a0.Number ≤ 2147483647))) && (decide (1 ≤ a0.Size))) && (decide (a0.Size ≤ 268435456))) && (decide (1 ≤ (a0.Least.size : Int)))) && (decide ((a0.Least.size : Int) ≤ 1024))) && (sLt a0.Least a0.Limit)) && (decide ((a0.Limit.size : Int) ≤ 1025))) && (decide (1 ≤ a0.Low))) = true
                   · refine r_t hst (wt_of 51 rfl rfl c11) rfl (x_fieldAddr (j' := 4) hst fa_43_4 rfl rfl) ?_; intro a hst
                     refine r_t hst (wt_of 51 rfl rfl c11) rfl (x_loadB (i := 0) hst hsh sc_24 rfl rfl rfl) ?_; intro a hst
                     refine r_t hst (wt_of 51 rfl rfl c11) rfl (x_fieldAddr (j' := 5) hst fa_43_5 rfl rfl) ?_; intro a hst
                     refine r_t hst (wt_of 51 rfl rfl c11) rfl (x_loadB (i := 0) hst hsh sc_24 rfl rfl rfl) ?_; intro a hst
                     refine r_t hst (wt_of 51 rfl rfl c11) rfl (x_cmpI (b := decide (a0.Low ≤ a0.High)) hst rfl rfl rfl) ?_; intro a hst
                     refine r_t hst trivial rfl (x_andT hst rfl c11 rfl) ?_; intro a hst
                     exact hj _ (hst.keep _ ⟨rfl, rfl, rfl, trivial⟩)
                   · replace c11 := Bool.eq_false_iff.2 c11
                     refine r_not hst 51 rfl rfl c11 rfl ?_; intro a hst
                     refine r_not hst 51 rfl rfl c11 rfl ?_; intro a hst
                     refine r_not hst 51 rfl rfl c11 rfl ?_; intro a hst
                     refine r_not hst 51 rfl rfl c11 rfl ?_; intro a hst
                     refine r_not hst 51 rfl rfl c11 rfl ?_; intro a hst
                     refine r_t hst trivial rfl (x_andF (decide (a0.Low ≤ a0.High)) hst rfl c11 rfl) ?_; intro a hst
                     exact hj _ (hst.keep _ ⟨rfl, rfl, rfl, trivial⟩)
               · intro hj
                 by_cases c10 : ((((((((decide (1 ≤ a0.Number)) && (decide (a0.Number ≤ 2147483647))) && (decide (1 ≤ a0.Size))) && (decide (a0.Size ≤ 268435456))) && (decide (1 ≤ (a0.Least.size : Int)))) && (decide ((a0.Least.size : Int) ≤ 1024))) && (sLt a0.Least a0.Limit)) && (decide ((a0.Limit.size : Int) ≤ 1025))) = true
                 · refine r_t hst (wt_of 46 rfl rfl c10) rfl (x_fieldAddr (j' := 4) hst fa_43_4 rfl rfl) ?_; intro a hst
                   refine r_t hst (wt_of 46 rfl rfl c10) rfl (x_loadB (i := 0) hst hsh sc_24 rfl rfl rfl) ?_; intro a hst
                   refine r_t hst (wt_of 46 rfl rfl c10) rfl (x_cmpI (b := decide (1 ≤ a0.Low)) hst rfl rfl rfl) ?_; intro a hst
                   refine r_t hst trivial rfl (x_andT hst rfl c10 rfl) ?_; intro a hst
                   exact hj _ (hst.keep _ ⟨rfl, rfl, rfl, trivial⟩)
                 · replace c10 := Bool.eq_false_iff.2 c10
                   refine r_not hst 46 rfl rfl c10 rfl ?_; intro a hst
                   refine r_not hst 46 rfl rfl c10 rfl ?_; intro a hst
                   refine r_not hst 46 rfl rfl c10 rfl ?_; intro a hst
                   refine r_t hst trivial rfl (x_andF (decide (1 ≤ a0.Low)) hst rfl c10 rfl) ?_; intro a hst
                   exact hj _ (hst.keep _ ⟨rfl, rfl, rfl, trivial⟩)
             · intro hj
               by_cases c9 : (((((((decide (1 ≤ a0.Number)) && (decide (a0.Number ≤ 2147483647))) && (decide (1 ≤ a0.Size))) && (decide (a0.Size ≤ 268435456))) && (decide (1 ≤ (a0.Least.size : Int)))) && (decide ((a0.Least.size : Int) ≤ 1024))) && (sLt a0.Least a0.Limit)) = true
               · refine r_t hst (wt_of 40 rfl rfl c9) rfl (x_fieldAddr (j' := 3) hst fa_43_3 rfl rfl) ?_; intro a hst
                 refine r_t hst (wt_of 40 rfl rfl c9) rfl (x_loadB (i := 0) hst hsh sc_9 rfl rfl rfl) ?_; intro a hst
                 refine r_t hst (wt_of 40 rfl rfl c9) rfl (x_lenStr hst Try.underlying9 rfl) ?_; intro a hst
                 refine r_t hst (wt_of 40 rfl rfl c9) rfl (x_cmpI (b := decide ((a0.Limit.size : Int) ≤ 1025)) hst rfl rfl rfl) ?_; intro a hst
                 refine r_t hst trivial rfl (x_andT hst rfl c9 rfl) ?_; intro a hst
                 exact hj _ (hst.keep _ ⟨rfl, rfl, rfl, trivial⟩)
               · replace c9 := Bool.eq_false_iff.2 c9
                 refine r_not hst 40 rfl rfl c9 rfl ?_; intro a hst
                 refine r_not hst 40 rfl rfl c9 rfl ?_; intro a hst
                 refine r_not hst 40 rfl rfl c9 rfl ?_; intro a hst
                 refine r_not hst 40 rfl rfl c9 rfl ?_; intro a hst
                 refine r_t hst trivial rfl (x_andF (decide ((a0.Limit.size : Int) ≤ 1025)) hst rfl c9 rfl) ?_; intro a hst
                 exact hj _ (hst.keep _ ⟨rfl, rfl, rfl, trivial⟩)
           · intro hj
             by_cases c8 : ((((((decide (1 ≤ a0.Number)) && (decide (a0.Number ≤ 2147483647))) && (decide (1 ≤ a0.Size))) && (decide (a0.Size ≤ 268435456))) && (decide (1 ≤ (a0.Least.size : Int)))) && (decide ((a0.Least.size : Int) ≤ 1024))) = true
             · refine r_t hst (wt_of 33 rfl rfl c8) rfl (x_fieldAddr (j' := 2) hst fa_43_2 rfl rfl) ?_; intro a hst
               refine r_t hst (wt_of 33 rfl rfl c8) rfl (x_loadB (i := 0) hst hsh sc_9 rfl rfl rfl) ?_; intro a hst
               refine r_t hst (wt_of 33 rfl rfl c8) rfl (x_fieldAddr (j' := 3) hst fa_43_3 rfl rfl) ?_; intro a hst
               refine r_t hst (wt_of 33 rfl rfl c8) rfl (x_loadB (i := 0) hst hsh sc_9 rfl rfl rfl) ?_; intro a hst
               refine r_t hst (wt_of 33 rfl rfl c8) rfl (x_cmpS (b := sLt a0.Least a0.Limit) hst rfl rfl rfl) ?_; intro a hst
               refine r_t hst trivial rfl (x_andT hst rfl c8 rfl) ?_; intro a hst
               exact hj _ (hst.keep _ ⟨rfl, rfl, rfl, trivial⟩)
             · replace c8 := Bool.eq_false_iff.2 c8
               refine r_not hst 33 rfl rfl c8 rfl ?_; intro a hst
               refine r_not hst 33 rfl rfl c8 rfl ?_; intro a hst
               refine r_not hst 33 rfl rfl c8 rfl ?_; intro a hst
               refine r_not hst 33 rfl rfl c8 rfl ?_; intro a hst
               refine r_not hst 33 rfl rfl c8 rfl ?_; intro a hst
               refine r_t hst trivial rfl (x_andF (sLt a0.Least a0.Limit) hst rfl c8 rfl) ?_; intro a hst
               exact hj _ (hst.keep _ ⟨rfl, rfl, rfl, trivial⟩)
         · intro hj
           by_cases c7 : (((((decide (1 ≤ a0.Number)) && (decide (a0.Number ≤ 2147483647))) && (decide (1 ≤ a0.Size))) && (decide (a0.Size ≤ 268435456))) && (decide (1 ≤ (a0.Least.size : Int)))) = true
           · refine r_t hst (wt_of 27 rfl rfl c7) rfl (x_fieldAddr (j' := 2) hst fa_43_2 rfl rfl) ?_; intro a hst
             refine r_t hst (wt_of 27 rfl rfl c7) rfl (x_loadB (i := 0) hst hsh sc_9 rfl rfl rfl) ?_; intro a hst
             refine r_t hst (wt_of 27 rfl rfl c7) rfl (x_lenStr hst Try.underlying9 rfl) ?_; intro a hst
             refine r_t hst (wt_of 27 rfl rfl c7) rfl (x_cmpI (b := decide ((a0.Least.size : Int) ≤ 1024)) hst rfl rfl rfl) ?_; intro a hst
             refine r_t hst trivial rfl (x_andT hst rfl c7 rfl) ?_; intro a hst
             exact hj _ (hst.keep _ ⟨rfl, rfl, rfl, trivial⟩)
           · replace c7 := Bool.eq_false_iff.2 c7
             refine r_not hst 27 rfl rfl c7 rfl ?_; intro a hst
             refine r_not hst 27 rfl rfl c7 rfl ?_; intro a hst
             refine r_not hst 27 rfl rfl c7 rfl ?_; intro a hst
             refine r_not hst 27 rfl rfl c7 rfl ?_; intro a hst
             refine r_t hst trivial rfl (x_andF (decide ((a0.Least.size : Int) ≤ 1024)) hst rfl c7 rfl) ?_; intro a hst
             exact hj _ (hst.keep _ ⟨rfl, rfl, rfl, trivial⟩)
       · intro hj
         by_cases c6 : ((((decide (1 ≤ a0.Number)) && (decide (a0.Number ≤ 2147483647))) && (decide (1 ≤ a0.Size))) && (decide (a0.Size ≤ 268435456))) = true
         · refine r_t hst (wt_of 21 rfl rfl c6) rfl (x_fieldAddr (j' := 2) hst fa_43_2 rfl rfl) ?_; intro a hst
           refine r_t hst (wt_of 21 rfl rfl c6) rfl (x_loadB (i := 0) hst hsh sc_9 rfl rfl rfl) ?_; intro a hst
           refine r_t hst (wt_of 21 rfl rfl c6) rfl (x_lenStr hst Try.underlying9 rfl) ?_; intro a hst
           refine r_t hst (wt_of 21 rfl rfl c6) rfl (x_cmpI (b := decide (1 ≤ (a0.Least.size : Int))) hst rfl rfl rfl) ?_; intro a hst
           refine r_t hst trivial rfl (x_andT hst rfl c6 rfl) ?_; intro a hst
           exact hj _ (hst.keep _ ⟨rfl, rfl, rfl, trivial⟩)
         · replace c6 := Bool.eq_false_iff.2 c6
           refine r_not hst 21 rfl rfl c6 rfl ?_; intro a hst
           refine r_not hst 21 rfl rfl c6 rfl ?_; intro a hst
           refine r_not hst 21 rfl rfl c6 rfl ?_; intro a hst
           refine r_not hst 21 rfl rfl c6 rfl ?_; intro a hst
           refine r_t hst trivial rfl (x_andF (decide (1 ≤ (a0.Least.size : Int))) hst rfl c6 rfl) ?_; intro a hst
           exact hj _ (hst.keep _ ⟨rfl, rfl, rfl, trivial⟩)
     · intro hj
       by_cases c5 : (((decide (1 ≤ a0.Number)) && (decide (a0.Number ≤ 2147483647))) && (decide (1 ≤ a0.Size))) = true
       · refine r_t hst (wt_of 16 rfl rfl c5) rfl (x_fieldAddr (j' := 1) hst fa_43_1 rfl rfl) ?_; intro a hst
         refine r_t hst (wt_of 16 rfl rfl c5) rfl (x_loadB (i := 0) hst hsh sc_3 rfl rfl rfl) ?_; intro a hst
         refine r_t hst (wt_of 16 rfl rfl c5) rfl (x_cmpI (b := decide (a0.Size ≤ 268435456)) hst rfl rfl rfl) ?_; intro a hst
         refine r_t hst trivial rfl (x_andT hst rfl c5 rfl) ?_; intro a hst
         exact hj _ (hst.keep _ ⟨rfl, rfl, rfl, trivial⟩)
       · replace c5 := Bool.eq_false_iff.2 c5
         refine r_not hst 16 rfl rfl c5 rfl ?_; intro a hst
         refine r_not hst 16 rfl rfl c5 rfl ?_; intro a hst
         refine r_not hst 16 rfl rfl c5 rfl ?_; intro a hst
         refine r_t hst trivial rfl (x_andF (decide (a0.Size ≤ 268435456)) hst rfl c5 rfl) ?_; intro a hst
         exact hj _ (hst.keep _ ⟨rfl, rfl, rfl, trivial⟩)
   · intro hj
     by_cases c4 : ((decide (1 ≤ a0.Number)) && (decide (a0.Number ≤ 2147483647))) = true
     · refine r_t hst (wt_of 11 rfl rfl c4) rfl (x_fieldAddr (j' := 1) hst fa_43_1 rfl rfl) ?_; intro a hst
       refine r_t hst (wt_of 11 rfl rfl c4) rfl (x_loadB (i := 0) hst hsh sc_3 rfl rfl rfl) ?_; intro a hst
       refine r_t hst (wt_of 11 rfl rfl c4) rfl (x_cmpI (b := decide (1 ≤ a0.Size)) hst rfl rfl rfl) ?_; intro a hst
       refine r_t hst trivial rfl (x_andT hst rfl c4 rfl) ?_; intro a hst
       exact hj _ (hst.keep _ ⟨rfl, rfl, rfl, trivial⟩)
     · replace c4 := Bool.eq_false_iff.2 c4
       refine r_not hst 11 rfl rfl c4 rfl ?_; intro a hst
       refine r_not hst 11 rfl rfl c4 rfl ?_; intro a hst
       refine r_not hst 11 rfl rfl c4 rfl ?_; intro a hst
       refine r_t hst trivial rfl (x_andF (decide (1 ≤ a0.Size)) hst rfl c4 rfl) ?_; intro a hst
       exact hj _ (hst.keep _ ⟨rfl, rfl, rfl, trivial⟩)
 · intro hj
   by_cases c3 : (decide (1 ≤ a0.Number)) = true
   · refine r_t hst (wt_of 6 rfl rfl c3) rfl (x_fieldAddr (j' := 0) hst fa_43_0 rfl rfl) ?_; intro a hst
     refine r_t hst (wt_of 6 rfl rfl c3) rfl (x_loadB (i := 0) hst hsh sc_3 rfl rfl rfl) ?_; intro a hst
     refine r_t hst (wt_of 6 rfl rfl c3) rfl (x_cmpI (b := decide (a0.Number ≤ 2147483647)) hst rfl rfl rfl) ?_; intro a hst
     refine r_t hst trivial rfl (x_andT hst rfl c3 rfl) ?_; intro a hst
     exact hj _ (hst.keep _ ⟨rfl, rfl, rfl, trivial⟩)
   · replace c3 := Bool.eq_false_iff.2 c3
     refine r_not hst 6 rfl rfl c3 rfl ?_; intro a hst
     refine r_not hst 6 rfl rfl c3 rfl ?_; intro a hst
     refine r_not hst 6 rfl rfl c3 rfl ?_; intro a hst
     refine r_t hst trivial rfl (x_andF (decide (a0.Number ≤ 2147483647)) hst rfl c3 rfl) ?_; intro a hst
     exact hj _ (hst.keep _ ⟨rfl, rfl, rfl, trivial⟩)

set_option maxHeartbeats 4000000 in
set_option maxRecDepth 100000 in
theorem version_Valid.calls (k : Nat) (w : World) (va0 : Value) (Za0 : Nat → Prop) (wra0 : World) (hsa0 : Same Za0 wra0 w) (a0 : (List (List File))) (hra0 : RD (Kd.slice 43 k_File) Za0 wra0 va0 a0) (r : Bool) (h : version_Valid k a0 = some r) :
    Calls Try.prog 12 ([va0] : List Value).toArray w fun e w' => e = .returned (.bool r) ∧ SH (fun _ => False) w w' [] := by
 have H := h
 clear h
 unfold version_Valid at H
 refine calls_enter Try.func12 rfl rfl ?_
 intro a hst
 have hsh := SH.zero (fun _ => False) w
 refine wq_seq ?_
 refine wq_region_lit (.inl rfl) ?_
 refine r_t hst trivial rfl (x_assign hst rfl) ?_; intro a hst
 refine wpL_nil ?_
 refine then_normal ?_
 refine wq_seq ?_
 refine wq_seq ?_
 refine wq_region_lit (.inl rfl) ?_
 refine r_t hst trivial rfl (x_move hst rfl) ?_; intro a hst
 refine r_t hst trivial rfl (x_lenSl hst Try.underlying23 rfl hra0.slen) ?_; intro a hst
 refine r_t hst trivial rfl (x_cmpI (b := decide ((a0.length : Int) < 1)) hst rfl rfl rfl) ?_; intro a hst
 refine r_t hst trivial rfl (x_move hst rfl) ?_; intro a hst
 refine wl_join0 (Δ := []) (N := Try.f12.ntmps) 8 [(0, va0), (2, .bool false), (15, .bool ((decide ((a0.length : Int) < 1)) || (decide (7 < (a0.length : Int)))))] ?_ ?_
 · intro a hst
   refine wpL_nil ?_
   refine then_normal ?_
   by_cases c4 : ((decide ((a0.length : Int) < 1)) || (decide (7 < (a0.length : Int)))) = true
   · rw [if_pos c4] at H
     refine wq_condT hst rfl c4 ?_
     refine wq_seq ?_
     refine wq_region_lit (.inl rfl) ?_
     refine r_t hst trivial rfl (x_assign hst rfl) ?_; intro a hst
     refine wpL_nil ?_
     refine then_normal ?_
     refine wq_ret ?_
     refine then_ret ?_
     obtain rfl := Option.some.inj H
     exact ret1 hst rfl rfl ⟨rfl, hsh.pick []⟩
   · rw [if_neg c4] at H
     replace c4 := Bool.eq_false_iff.2 c4
     refine wq_condF hst rfl c4 ?_
     refine wq_skip ?_
     refine then_normal ?_
     refine wq_seq ?_
     refine wq_region_lit (.inl rfl) ?_
     refine r_makeMap (q := .i64) (r := .i64) 3 3 hst hsh trivial rfl ?_
     intro g5 a w6 hgg5 hsh hst
     refine r_t hst trivial rfl (x_assign hst rfl) ?_; intro a hst
     refine wpL_nil ?_
     refine then_normal ?_
     refine wq_seq ?_
     refine wq_seq ?_
     refine wq_region_lit (.inl rfl) ?_
     refine r_t hst trivial rfl (x_move hst rfl) ?_; intro a hst
     refine r_t hst trivial rfl (x_lenSl hst Try.underlying23 rfl hra0.slen) ?_; intro a hst
     refine r_t hst trivial rfl (x_move hst rfl) ?_; intro a hst
     refine wpL_nil ?_
     refine then_normal ?_
     refine wq_block ?_
     refine wq_loop_fuel (fun k_237 a w' => ∃ (l_188 : (List (Int × Int))), ∃ (i_189 : Int), version_Valid.l0 a0 k_237 l_188 i_189 = some r ∧ ST [] Try.f12.ntmps a [(2, .bool false), (3, .map (some g5)), (17, va0), (18, .int .i64 (a0.length : Int)), (19, .int .i64 i_189)] ∧ SH (fun _ => False) w w' [MapI Try.prog .i64 .i64 3 3 g5 l_188]) k ?_ ?_
     · exact ⟨([]), 0, H, hst.keep _ ⟨rfl, rfl, rfl, rfl, rfl, trivial⟩, hsh.pick [0]⟩
     · rintro k_237 a W_190 ⟨l_188, i_189, H, hst, hsh⟩
       cases k_237 with
       | zero => rw [version_Valid.l0] at H; cases H
       | succ k_237 =>
        rw [version_Valid.l0] at H
        refine wq_seq ?_
        refine wq_region_lit (.inl rfl) ?_
        refine r_t hst trivial rfl (x_cmpI (b := decide (i_189 < (a0.length : Int))) hst rfl rfl rfl) ?_; intro a hst
        refine wpL_nil ?_
        refine then_normal ?_
        refine wq_seq ?_
        by_cases c2168 : (decide (i_189 < (a0.length : Int))) = true
        · rw [if_pos c2168] at H
          refine wq_condT hst rfl c2168 ?_
          refine wq_skip ?_
          refine then_normal ?_
          obtain ⟨J_260, hJ_260, H⟩ := Jn.elim H
          refine wq_cut (fun a w' => ∃ (l_258 : (List (Int × Int))), J_260 l_258 = some r ∧ ST [] Try.f12.ntmps a [(2, .bool false), (3, .map (some g5)), (17, va0), (18, .int .i64 (a0.length : Int)), (19, .int .i64 i_189)] ∧ SH (fun _ => False) w w' [MapI Try.prog .i64 .i64 3 3 g5 l_258]) ?_ ?_
          · rintro a W_259 ⟨l_258, H, hst, hsh⟩
            subst hJ_260
            dsimp only at H
            refine wq_region_lit (.inl rfl) ?_
            refine r_t hst trivial rfl (x_arI (r := w64 (i_189 + 1)) hst rfl rfl rfl) ?_; intro a hst
            refine r_t hst trivial rfl (x_move hst rfl) ?_; intro a hst
            refine wpL_nil ?_
            refine then_normal ?_
            exact ⟨k_237, Nat.lt_succ_self _, l_258, (w64 (i_189 + 1)), H, hst.keep _ ⟨rfl, rfl, rfl, rfl, rfl, trivial⟩, hsh.pick [0]⟩
          · refine wq_block ?_
            refine wq_seq ?_
            refine wq_region_lit (.inl rfl) ?_
            refine r_t hst trivial rfl (x_move hst rfl) ?_; intro a hst
            obtain ⟨x2384, hx2384, H⟩ := Option.bind_eq_some_iff.1 H
            refine r_t hst trivial rfl (x_indexAddr hst Try.underlying23 el_39 rfl rfl hra0 hx2384) ?_; intro a hst
            obtain ⟨_, hk2385, hc2386⟩ := RD.cells2 hra0 hx2384
            obtain ⟨v2387, rfl, hr2388⟩ := hk2385
            refine r_t hst trivial rfl (x_loadC hst sc_39 rfl (hc2386 _ (Same.sh0 hsa0 hsh) 0 _ rfl)) ?_; intro a hst
            refine r_t hst trivial rfl (x_assign hst rfl) ?_; intro a hst
            refine r_t hst trivial rfl (x_assign hst rfl) ?_; intro a hst
            refine wpL_nil ?_
            refine then_normal ?_
            refine wq_seq ?_
            refine wq_region_lit (.inl rfl) ?_
            refine r_t hst trivial rfl (x_move hst rfl) ?_; intro a hst
            refine r_t hst trivial rfl (x_lenSl hst Try.underlying39 rfl hr2388.slen) ?_; intro a hst
            refine r_t hst trivial rfl (x_move hst rfl) ?_; intro a hst
            refine wpL_nil ?_
            refine then_normal ?_
            refine wq_block ?_
            refine wq_loop_fuel (fun k_277 a w' => ∃ (l_268 : (List (Int × Int))), ∃ (i_269 : Int), version_Valid.l1 i_189 J_260 x2384 k_277 l_268 i_269 = some r ∧ ST [] Try.f12.ntmps a [(2, .bool false), (3, .map (some g5)), (4, .int .i64 i_189), (5, v2387), (17, va0), (18, .int .i64 (a0.length : Int)), (19, .int .i64 i_189), (24, v2387), (25, .int .i64 (x2384.length : Int)), (26, .int .i64 i_269)] ∧ SH (fun _ => False) w w' [MapI Try.prog .i64 .i64 3 3 g5 l_268]) k_237 ?_ ?_
            · exact ⟨l_188, 0, H, hst.keep _ ⟨rfl, rfl, rfl, rfl, rfl, rfl, rfl, rfl, rfl, rfl, trivial⟩, hsh.pick [0]⟩
            · rintro k_277 a W_270 ⟨l_268, i_269, H, hst, hsh⟩
              cases k_277 with
              | zero => rw [version_Valid.l1] at H; cases H
              | succ k_277 =>
               rw [version_Valid.l1] at H
               refine wq_seq ?_
               refine wq_region_lit (.inl rfl) ?_
               refine r_t hst trivial rfl (x_cmpI (b := decide (i_269 < (x2384.length : Int))) hst rfl rfl rfl) ?_; intro a hst
               refine wpL_nil ?_
               refine then_normal ?_
               refine wq_seq ?_
               by_cases c2530 : (decide (i_269 < (x2384.length : Int))) = true
               · rw [if_pos c2530] at H
                 refine wq_condT hst rfl c2530 ?_
                 refine wq_skip ?_
                 refine then_normal ?_
                 obtain ⟨J_280, hJ_280, H⟩ := Jn.elim H
                 refine wq_cut (fun a w' => ∃ (l_278 : (List (Int × Int))), J_280 l_278 = some r ∧ ST [] Try.f12.ntmps a [(2, .bool false), (3, .map (some g5)), (4, .int .i64 i_189), (5, v2387), (17, va0), (18, .int .i64 (a0.length : Int)), (19, .int .i64 i_189), (24, v2387), (25, .int .i64 (x2384.length : Int)), (26, .int .i64 i_269)] ∧ SH (fun _ => False) w w' [MapI Try.prog .i64 .i64 3 3 g5 l_278]) ?_ ?_
                 · rintro a W_279 ⟨l_278, H, hst, hsh⟩
                   subst hJ_280
                   dsimp only at H
                   refine wq_region_lit (.inl rfl) ?_
                   refine r_t hst trivial rfl (x_arI (r := w64 (i_269 + 1)) hst rfl rfl rfl) ?_; intro a hst
                   refine r_t hst trivial rfl (x_move hst rfl) ?_; intro a hst
                   refine wpL_nil ?_
                   refine then_normal ?_
                   exact ⟨k_277, Nat.lt_succ_self _, l_278, (w64 (i_269 + 1)), H, hst.keep _ ⟨rfl, rfl, rfl, rfl, rfl, rfl, rfl, rfl, rfl, rfl, trivial⟩, hsh.pick [0]⟩
                 · refine wq_block ?_
                   refine wq_seq ?_
                   refine wq_region_lit (.inl rfl) ?_
                   refine r_t hst trivial rfl (x_move hst rfl) ?_; intro a hst
                   obtain ⟨x2565, hx2565, H⟩ := Option.bind_eq_some_iff.1 H
                   refine r_t hst trivial rfl (x_indexAddr hst Try.underlying39 el_43 rfl rfl hr2388 hx2565) ?_; intro a hst
                   refine r_t hst trivial rfl (x_loadEsF (j := 0) (cs := [.int .i64 x2565.Number, .int .i64 x2565.Size, .string x2565.Least, .string x2565.Limit, .int .u64 x2565.Low, .int .u64 x2565.High]) (ps := [.int .i64 x2565.Number, .int .i64 x2565.Size, .string x2565.Least, .string x2565.Limit, .int .u64 x2565.Low, .int .u64 x2565.High]) hst ag_43 rfl hr2388 (Same.sh0 hsa0 hsh) hx2565 rfl (fun _ h => h) rfl) ?_; intro a hst
                   refine r_alloc hst hsh trivial rfl zr_43 ?_
                   intro g2566 a w2567 hgg2566 hsh hst
                   refine r_t hst trivial rfl (x_assign hst rfl) ?_; intro a hst
                   refine r_storeBs (i := 0) (cs' := [.int .i64 x2565.Number, .int .i64 x2565.Size, .string x2565.Least, .string x2565.Limit, .int .u64 x2565.Low, .int .u64 x2565.High]) (vs := [.int .i64 x2565.Number, .int .i64 x2565.Size, .string x2565.Least, .string x2565.Limit, .int .u64 x2565.Low, .int .u64 x2565.High]) hst hsh trivial ag_43 rfl rfl rfl rfl rfl rfl ?_; intro a w2568 hsh hst
                   refine wpL_nil ?_
                   refine then_normal ?_
                   refine wq_seq ?_
                   refine wq_region_lit (.inl rfl) ?_
                   refine r_t hst trivial rfl (x_move hst rfl) ?_; intro a hst
                   refine r_t hst trivial rfl (x_fieldAddr (j' := 0) hst fa_43_0 rfl rfl) ?_; intro a hst
                   refine r_t hst trivial rfl (x_loadB (i := 0) hst hsh sc_3 rfl rfl rfl) ?_; intro a hst
                   by_cases c2569 : wfi .i64 x2565.Number = true
                   · rw [if_pos c2569] at H
                     refine r_t hst trivial rfl (x_lookupI (i := 1) hst hsh Try.underlying66 Try.underlying3 Try.underlying3 (fun _ => by kernel_rfl) rfl rfl rfl c2569) ?_; intro a hst
                     refine r_t hst trivial rfl (x_arI (r := w64 ((mget l_268 x2565.Number) + 1)) hst rfl rfl rfl) ?_; intro a hst
                     obtain ⟨l2570, hl2570, H⟩ := Option.bind_eq_some_iff.1 H
                     refine r_mapUpdateI (i := 1) hst hsh trivial Try.underlying66 Try.underlying3 Try.underlying3 rfl rfl rfl rfl c2569 hl2570 ?_; intro a w2571 hsh hst
                     refine wpL_nil ?_
                     refine then_normal ?_
                     refine wq_seq ?_
                     refine wq_seq ?_
                     refine wq_region_lit (.inl rfl) ?_
                     refine r_t hst trivial rfl (x_loadBs (i := 1) (ps := [.int .i64 x2565.Number, .int .i64 x2565.Size, .string x2565.Least, .string x2565.Limit, .int .u64 x2565.Low, .int .u64 x2565.High]) hst hsh ag_43 rfl rfl rfl) ?_; intro a hst
                     obtain ⟨r2576, hr2576, H⟩ := Option.bind_eq_some_iff.1 H
                     refine r_callD hst trivial rfl fn_37 rfl (version_may.calls _ x2565 r2576 hr2576) ?_
                     rintro e w2577 ⟨rfl, hc⟩
                     replace hsh := hsh.call0 hc
                     clear hc
                     refine ⟨_, rfl, fun a hst => ?_⟩
                     refine r_t hst trivial rfl (x_notB hst rfl) ?_; intro a hst
                     refine r_t hst trivial rfl (x_move hst rfl) ?_; intro a hst
                     refine wl_join0 (Δ := []) (N := Try.f12.ntmps) 10 [(2, .bool false), (3, .map (some g5)), (4, .int .i64 i_189), (5, v2387), (6, .int .i64 i_269), (7, .pointer (some ⟨g2566, 0, none⟩)), (17, va0), (18, .int .i64 (a0.length : Int)), (19, .int .i64 i_189), (24, v2387), (25, .int .i64 (x2384.length : Int)), (26, .int .i64 i_269), (45, .bool ((!r2576) || (decide (1 < (mget l2570 x2565.Number)))))] ?_ ?_
                     · intro a hst
                       refine wpL_nil ?_
                       refine then_normal ?_
                       by_cases c2579 : ((!r2576) || (decide (1 < (mget l2570 x2565.Number)))) = true
                       · rw [if_pos c2579] at H
                         refine wq_condT hst rfl c2579 ?_
                         refine wq_seq ?_
                         refine wq_region_lit (.inl rfl) ?_
                         refine r_t hst trivial rfl (x_assign hst rfl) ?_; intro a hst
                         refine wpL_nil ?_
                         refine then_normal ?_
                         refine wq_ret ?_
                         refine then_ret ?_
                         refine block_ret ?_
                         refine then_ret ?_
                         refine then_ret ?_
                         refine block_ret ?_
                         refine block_ret ?_
                         refine then_ret ?_
                         refine then_ret ?_
                         refine block_ret ?_
                         refine then_ret ?_
                         obtain rfl := Option.some.inj H
                         exact ret1 hst rfl rfl ⟨rfl, hsh.pick []⟩
                       · rw [if_neg c2579] at H
                         replace c2579 := Bool.eq_false_iff.2 c2579
                         refine wq_condF hst rfl c2579 ?_
                         refine wq_skip ?_
                         refine then_normal ?_
                         refine wq_seq ?_
                         refine wq_seq ?_
                         refine wq_region_lit (.inl rfl) ?_
                         refine r_t hst trivial rfl (x_move hst rfl) ?_; intro a hst
                         refine r_t hst trivial rfl (x_cmpI (b := (i_269 == 0)) hst rfl rfl rfl) ?_; intro a hst
                         refine wpL_nil ?_
                         refine then_normal ?_
                         by_cases c2581 : (i_269 == 0) = true
                         · rw [if_pos c2581] at H
                           refine wq_condT hst rfl c2581 ?_
                           refine wq_exit ?_
                           refine then_exit ?_
                           refine block_hit ?_
                           refine then_normal ?_
                           exact ⟨l2570, H, hst.keep _ ⟨rfl, rfl, rfl, rfl, rfl, rfl, rfl, rfl, rfl, rfl, trivial⟩, hsh.pick [0]⟩
                         · rw [if_neg c2581] at H
                           replace c2581 := Bool.eq_false_iff.2 c2581
                           refine wq_condF hst rfl c2581 ?_
                           refine wq_skip ?_
                           refine then_normal ?_
                           refine wq_seq ?_
                           refine wq_seq ?_
                           refine wq_region_lit (.inl rfl) ?_
                           refine r_t hst trivial rfl (x_move hst rfl) ?_; intro a hst
                           refine r_t hst trivial rfl (x_cmpI (b := (i_189 == 0)) hst rfl rfl rfl) ?_; intro a hst
                           refine wpL_nil ?_
                           refine then_normal ?_
                           by_cases c2589 : (i_189 == 0) = true
                           · rw [if_pos c2589] at H
                             refine wq_condT hst rfl c2589 ?_
                             refine wq_seq ?_
                             refine wq_seq ?_
                             refine wq_region_q (.inl rfl) (fun w' => SH (fun _ => False) w w' [MapI Try.prog .i64 .i64 3 3 g5 l2570, Box g2566 [.int .i64 x2565.Number, .int .i64 x2565.Size, .string x2565.Least, .string x2565.Limit, .int .u64 x2565.Low, .int .u64 x2565.High] 43]) (shut_sh _ _ _) hsh.drew fo (by kernel_rfl) ?_
                             refine q_t hst trivial rfl (fun _ hsh => x_move hst rfl) ?_; intro a hst
                             refine q_t hst trivial rfl (fun _ hsh => x_move hst rfl) ?_; intro a hst
                             refine q_t hst trivial rfl (fun _ hsh => x_arI (r := w64 (i_269 - 1)) hst rfl rfl rfl) ?_; intro a hst
                             obtain ⟨x2593, hx2593, H⟩ := Option.bind_eq_some_iff.1 H
                             refine q_t hst trivial rfl (fun _ hsh => x_indexAddr hst Try.underlying39 el_43 rfl rfl hr2388 hx2593) ?_; intro a hst
                             refine q_t hst trivial rfl (fun _ hsh => x_fieldAddrE (n' := Int.toNat (w64 (i_269 - 1)) * k_File.sz) hst fa_43_0 rfl rfl) ?_; intro a hst
                             refine q_t hst trivial rfl (fun _ hsh => x_loadEF (j := 0) (cs := [.int .i64 x2593.Number, .int .i64 x2593.Size, .string x2593.Least, .string x2593.Limit, .int .u64 x2593.Low, .int .u64 x2593.High]) hst sc_3 rfl hr2388 (Same.sh0 hsa0 hsh) hx2593 rfl (fun _ h => h) rfl) ?_; intro a hst
                             refine q_t hst trivial rfl (fun _ hsh => x_fieldAddr (j' := 0) hst fa_43_0 rfl rfl) ?_; intro a hst
                             refine q_t hst trivial rfl (fun _ hsh => x_loadB (i := 1) hst hsh sc_3 rfl rfl rfl) ?_; intro a hst
                             refine q_t hst trivial rfl (fun _ hsh => x_cmpI (b := decide (x2565.Number ≤ x2593.Number)) hst rfl rfl rfl) ?_; intro a hst
                             refine q_nil ?_
                             intro w2594 hsh
                             refine then_normal ?_
                             by_cases c2595 : (decide (x2565.Number ≤ x2593.Number)) = true
                             · rw [if_pos c2595] at H
                               refine wq_condT hst rfl c2595 ?_
                               refine wq_seq ?_
                               refine wq_region_lit (.inl rfl) ?_
                               refine r_t hst trivial rfl (x_assign hst rfl) ?_; intro a hst
                               refine wpL_nil ?_
                               refine then_normal ?_
                               refine wq_ret ?_
                               refine then_ret ?_
                               refine then_ret ?_
                               refine block_ret ?_
                               refine then_ret ?_
                               refine then_ret ?_
                               refine block_ret ?_
                               refine block_ret ?_
                               refine then_ret ?_
                               refine then_ret ?_
                               refine block_ret ?_
                               refine then_ret ?_
                               obtain rfl := Option.some.inj H
                               exact ret1 hst rfl rfl ⟨rfl, hsh.pick []⟩
                             · rw [if_neg c2595] at H
                               replace c2595 := Bool.eq_false_iff.2 c2595
                               refine wq_condF hst rfl c2595 ?_
                               refine wq_skip ?_
                               refine then_normal ?_
                               refine wq_exit ?_
                               refine then_exit ?_
                               refine block_hit ?_
                               refine then_normal ?_
                               exact ⟨l2570, H, hst.keep _ ⟨rfl, rfl, rfl, rfl, rfl, rfl, rfl, rfl, rfl, rfl, trivial⟩, hsh.pick [0]⟩
                           · rw [if_neg c2589] at H
                             replace c2589 := Bool.eq_false_iff.2 c2589
                             refine wq_condF hst rfl c2589 ?_
                             refine wq_skip ?_
                             refine then_normal ?_
                             refine wq_seq ?_
                             refine wq_region_q (.inl rfl) (fun w' => SH (fun _ => False) w w' [MapI Try.prog .i64 .i64 3 3 g5 l2570, Box g2566 [.int .i64 x2565.Number, .int .i64 x2565.Size, .string x2565.Least, .string x2565.Limit, .int .u64 x2565.Low, .int .u64 x2565.High] 43]) (shut_sh _ _ _) hsh.drew fo (by kernel_rfl) ?_
                             refine q_t hst trivial rfl (fun _ hsh => x_move hst rfl) ?_; intro a hst
                             refine q_t hst trivial rfl (fun _ hsh => x_move hst rfl) ?_; intro a hst
                             refine q_t hst trivial rfl (fun _ hsh => x_arI (r := w64 (i_269 - 1)) hst rfl rfl rfl) ?_; intro a hst
                             obtain ⟨x2596, hx2596, H⟩ := Option.bind_eq_some_iff.1 H
                             refine q_t hst trivial rfl (fun _ hsh => x_indexAddr hst Try.underlying39 el_43 rfl rfl hr2388 hx2596) ?_; intro a hst
                             refine q_t hst trivial rfl (fun _ hsh => x_fieldAddrE (n' := Int.toNat (w64 (i_269 - 1)) * k_File.sz + 3) hst fa_43_3 rfl rfl) ?_; intro a hst
                             refine q_t hst trivial rfl (fun _ hsh => x_loadEF (j := 3) (cs := [.int .i64 x2596.Number, .int .i64 x2596.Size, .string x2596.Least, .string x2596.Limit, .int .u64 x2596.Low, .int .u64 x2596.High]) hst sc_9 rfl hr2388 (Same.sh0 hsa0 hsh) hx2596 rfl (fun _ h => h) rfl) ?_; intro a hst
                             refine q_t hst trivial rfl (fun _ hsh => x_fieldAddr (j' := 2) hst fa_43_2 rfl rfl) ?_; intro a hst
                             refine q_t hst trivial rfl (fun _ hsh => x_loadB (i := 1) hst hsh sc_9 rfl rfl rfl) ?_; intro a hst
                             refine q_t hst trivial rfl (fun _ hsh => x_cmpS (b := (!(sLt x2596.Limit x2565.Least || sEq x2596.Limit x2565.Least))) hst rfl rfl rfl) ?_; intro a hst
                             refine q_nil ?_
                             intro w2597 hsh
                             refine then_normal ?_
                             by_cases c2598 : (!(sLt x2596.Limit x2565.Least || sEq x2596.Limit x2565.Least)) = true
                             · rw [if_pos c2598] at H
                               refine wq_condT hst rfl c2598 ?_
                               refine wq_seq ?_
                               refine wq_region_lit (.inl rfl) ?_
                               refine r_t hst trivial rfl (x_assign hst rfl) ?_; intro a hst
                               refine wpL_nil ?_
                               refine then_normal ?_
                               refine wq_ret ?_
                               refine block_ret ?_
                               refine then_ret ?_
                               refine then_ret ?_
                               refine block_ret ?_
                               refine block_ret ?_
                               refine then_ret ?_
                               refine then_ret ?_
                               refine block_ret ?_
                               refine then_ret ?_
                               obtain rfl := Option.some.inj H
                               exact ret1 hst rfl rfl ⟨rfl, hsh.pick []⟩
                             · rw [if_neg c2598] at H
                               replace c2598 := Bool.eq_false_iff.2 c2598
                               refine wq_condF hst rfl c2598 ?_
                               refine wq_skip ?_
                               refine block_normal ?_
                               refine then_normal ?_
                               exact ⟨l2570, H, hst.keep _ ⟨rfl, rfl, rfl, rfl, rfl, rfl, rfl, rfl, rfl, rfl, trivial⟩, hsh.pick [0]⟩
                     · intro hj
                       by_cases c2578 : (!r2576) = true
                       · refine r_not hst 39 rfl rfl c2578 rfl ?_; intro a hst
                         refine r_not hst 39 rfl rfl c2578 rfl ?_; intro a hst
                         refine r_not hst 39 rfl rfl c2578 rfl ?_; intro a hst
                         refine r_not hst 39 rfl rfl c2578 rfl ?_; intro a hst
                         refine r_not hst 39 rfl rfl c2578 rfl ?_; intro a hst
                         refine r_t hst trivial rfl (x_orT (decide (1 < (mget l2570 x2565.Number))) hst rfl c2578 rfl) ?_; intro a hst
                         exact hj _ (hst.keep _ ⟨rfl, rfl, rfl, rfl, rfl, rfl, rfl, rfl, rfl, rfl, rfl, rfl, rfl, trivial⟩)
                       · replace c2578 := Bool.eq_false_iff.2 c2578
                         refine r_t hst (wt_of 39 rfl rfl c2578) rfl (x_move hst rfl) ?_; intro a hst
                         refine r_t hst (wt_of 39 rfl rfl c2578) rfl (x_fieldAddr (j' := 0) hst fa_43_0 rfl rfl) ?_; intro a hst
                         refine r_t hst (wt_of 39 rfl rfl c2578) rfl (x_loadB (i := 1) hst hsh sc_3 rfl rfl rfl) ?_; intro a hst
                         refine r_t hst (wt_of 39 rfl rfl c2578) rfl (x_lookupI (i := 0) hst hsh Try.underlying66 Try.underlying3 Try.underlying3 (fun _ => by kernel_rfl) rfl rfl rfl c2569) ?_; intro a hst
                         refine r_t hst (wt_of 39 rfl rfl c2578) rfl (x_cmpI (b := decide (1 < (mget l2570 x2565.Number))) hst rfl rfl rfl) ?_; intro a hst
                         refine r_t hst trivial rfl (x_orF hst rfl c2578 rfl) ?_; intro a hst
                         exact hj _ (hst.keep _ ⟨rfl, rfl, rfl, rfl, rfl, rfl, rfl, rfl, rfl, rfl, rfl, rfl, rfl, trivial⟩)
                   · rw [if_neg c2569] at H; cases H
               · rw [if_neg c2530] at H
                 replace c2530 := Bool.eq_false_iff.2 c2530
                 refine wq_condF hst rfl c2530 ?_
                 refine wq_exit ?_
                 refine then_exit ?_
                 refine then_exit ?_
                 refine block_hit ?_
                 refine block_normal ?_
                 refine then_normal ?_
                 exact ⟨l_268, H, hst.keep _ ⟨rfl, rfl, rfl, rfl, rfl, trivial⟩, hsh.pick [0]⟩
        · rw [if_neg c2168] at H
          replace c2168 := Bool.eq_false_iff.2 c2168
          refine wq_condF hst rfl c2168 ?_
          refine wq_exit ?_
          refine then_exit ?_
          refine then_exit ?_
          refine block_hit ?_
          refine then_normal ?_
          refine wq_seq ?_
          refine wq_region_lit (.inl rfl) ?_
          refine r_t hst trivial rfl (x_assign hst rfl) ?_; intro a hst
          refine wpL_nil ?_
          refine then_normal ?_
          refine wq_ret ?_
          obtain rfl := Option.some.inj H
          exact ret1 hst rfl rfl ⟨rfl, hsh.pick []⟩
 · intro hj
   by_cases c3 : (decide ((a0.length : Int) < 1)) = true
   · refine r_not hst 11 rfl rfl c3 rfl ?_; intro a hst
     refine r_not hst 11 rfl rfl c3 rfl ?_; intro a hst
     refine r_not hst 11 rfl rfl c3 rfl ?_; intro a hst
     refine r_t hst trivial rfl (x_orT (decide (7 < (a0.length : Int))) hst rfl c3 rfl) ?_; intro a hst
     exact hj _ (hst.keep _ ⟨rfl, rfl, rfl, trivial⟩)
   · replace c3 := Bool.eq_false_iff.2 c3
     refine r_t hst (wt_of 11 rfl rfl c3) rfl (x_move hst rfl) ?_; intro a hst
     refine r_t hst (wt_of 11 rfl rfl c3) rfl (x_lenSl hst Try.underlying23 rfl hra0.slen) ?_; intro a hst
     refine r_t hst (wt_of 11 rfl rfl c3) rfl (x_cmpI (b := decide (7 < (a0.length : Int))) hst rfl rfl rfl) ?_; intro a hst
     refine r_t hst trivial rfl (x_orF hst rfl c3 rfl) ?_; intro a hst
     exact hj _ (hst.keep _ ⟨rfl, rfl, rfl, trivial⟩)

set_option maxHeartbeats 4000000 in
set_option maxRecDepth 100000 in
theorem version_of.calls (k : Nat) (w : World) (va0 : Value) (Za0 : Nat → Prop) (wra0 : World) (hsa0 : Same Za0 wra0 w) (a0 : (List (List File))) (hra0 : RD (Kd.slice 43 k_File) Za0 wra0 va0 a0) (a1 : Int) (r : (List File)) (h : version_of k a0 a1 = some r) :
    Calls Try.prog 46 ([va0, .int .i64 a1] : List Value).toArray w fun e w' => ∃ v0_ : Value, e = .returned (v0_) ∧ SH (fun _ => False) w w' [] ∧ RD k_File Za0 wra0 v0_ r := by
 have H := h
 clear h
 unfold version_of at H
 refine calls_enter Try.func46 rfl rfl ?_
 intro a hst
 have hsh := SH.zero (fun _ => False) w
 refine wq_seq ?_
 refine wq_region_lit (.inl rfl) ?_
 refine r_t hst trivial rfl (x_assign hst rfl) ?_; intro a hst
 refine wpL_nil ?_
 refine then_normal ?_
 refine wq_seq ?_
 refine wq_seq ?_
 refine wq_region_lit (.inl rfl) ?_
 refine r_t hst trivial rfl (x_move hst rfl) ?_; intro a hst
 obtain ⟨r6, hr6, H⟩ := Option.bind_eq_some_iff.1 H
 refine r_callD hst trivial rfl fn_12 rfl (version_Valid.calls k _ _ _ _ (Same.sh0 hsa0 hsh) _ hra0 r6 hr6) ?_
 rintro e w7 ⟨rfl, hc⟩
 replace hsh := hsh.call0 hc
 clear hc
 refine ⟨_, rfl, fun a hst => ?_⟩
 refine r_t hst trivial rfl (x_notB hst rfl) ?_; intro a hst
 refine r_t hst trivial rfl (x_move hst rfl) ?_; intro a hst
 refine wl_join0 (Δ := []) (N := Try.f46.ntmps) 7 [(0, va0), (1, .int .i64 a1), (4, (.slice none 0 0)), (11, .bool ((!r6) || (decide (a1 < 0))))] ?_ ?_
 · intro a hst
   refine r_t hst trivial rfl (x_move hst rfl) ?_; intro a hst
   refine wl_join0 (Δ := []) (N := Try.f46.ntmps) 13 [(0, va0), (1, .int .i64 a1), (4, (.slice none 0 0)), (17, .bool (((!r6) || (decide (a1 < 0))) || (decide ((a0.length : Int) ≤ a1))))] ?_ ?_
   · intro a hst
     refine wpL_nil ?_
     refine then_normal ?_
     by_cases c10 : (((!r6) || (decide (a1 < 0))) || (decide ((a0.length : Int) ≤ a1))) = true
     · rw [if_pos c10] at H
       refine wq_condT hst rfl c10 ?_
       refine wq_seq ?_
       refine wq_region_lit (.inl rfl) ?_
       refine r_t hst trivial rfl (x_assign hst rfl) ?_; intro a hst
       refine wpL_nil ?_
       refine then_normal ?_
       refine wq_ret ?_
       refine then_ret ?_
       obtain rfl := Option.some.inj H
       exact ret1 hst rfl rfl ⟨(.slice none 0 0), rfl, hsh.pick [], (RD.nil _ _ _)⟩
     · rw [if_neg c10] at H
       replace c10 := Bool.eq_false_iff.2 c10
       refine wq_condF hst rfl c10 ?_
       refine wq_skip ?_
       refine then_normal ?_
       refine wq_seq ?_
       refine wq_region_lit (.inl rfl) ?_
       refine r_t hst trivial rfl (x_move hst rfl) ?_; intro a hst
       refine r_t hst trivial rfl (x_move hst rfl) ?_; intro a hst
       obtain ⟨x11, hx11, H⟩ := Option.bind_eq_some_iff.1 H
       refine r_t hst trivial rfl (x_indexAddr hst Try.underlying23 el_39 rfl rfl hra0 hx11) ?_; intro a hst
       obtain ⟨_, hk12, hc13⟩ := RD.cells2 hra0 hx11
       obtain ⟨v14, rfl, hr15⟩ := hk12
       refine r_t hst trivial rfl (x_loadC hst sc_39 rfl (hc13 _ (Same.sh0 hsa0 hsh) 0 _ rfl)) ?_; intro a hst
       refine r_t hst trivial rfl (x_assign hst rfl) ?_; intro a hst
       refine wpL_nil ?_
       refine then_normal ?_
       refine wq_ret ?_
       obtain rfl := Option.some.inj H
       exact ret1 hst rfl rfl ⟨v14, rfl, hsh.pick [], hr15⟩
   · intro hj
     by_cases c9 : ((!r6) || (decide (a1 < 0))) = true
     · refine r_not hst 12 rfl rfl c9 rfl ?_; intro a hst
       refine r_not hst 12 rfl rfl c9 rfl ?_; intro a hst
       refine r_not hst 12 rfl rfl c9 rfl ?_; intro a hst
       refine r_not hst 12 rfl rfl c9 rfl ?_; intro a hst
       refine r_t hst trivial rfl (x_orT (decide ((a0.length : Int) ≤ a1)) hst rfl c9 rfl) ?_; intro a hst
       exact hj _ (hst.keep _ ⟨rfl, rfl, rfl, rfl, trivial⟩)
     · replace c9 := Bool.eq_false_iff.2 c9
       refine r_t hst (wt_of 12 rfl rfl c9) rfl (x_move hst rfl) ?_; intro a hst
       refine r_t hst (wt_of 12 rfl rfl c9) rfl (x_move hst rfl) ?_; intro a hst
       refine r_t hst (wt_of 12 rfl rfl c9) rfl (x_lenSl hst Try.underlying23 rfl hra0.slen) ?_; intro a hst
       refine r_t hst (wt_of 12 rfl rfl c9) rfl (x_cmpI (b := decide ((a0.length : Int) ≤ a1)) hst rfl rfl rfl) ?_; intro a hst
       refine r_t hst trivial rfl (x_orF hst rfl c9 rfl) ?_; intro a hst
       exact hj _ (hst.keep _ ⟨rfl, rfl, rfl, rfl, trivial⟩)
 · intro hj
   by_cases c8 : (!r6) = true
   · refine r_not hst 8 rfl rfl c8 rfl ?_; intro a hst
     refine r_not hst 8 rfl rfl c8 rfl ?_; intro a hst
     refine r_t hst trivial rfl (x_orT (decide (a1 < 0)) hst rfl c8 rfl) ?_; intro a hst
     exact hj _ (hst.keep _ ⟨rfl, rfl, rfl, rfl, trivial⟩)
   · replace c8 := Bool.eq_false_iff.2 c8
     refine r_t hst (wt_of 8 rfl rfl c8) rfl (x_move hst rfl) ?_; intro a hst
     refine r_t hst (wt_of 8 rfl rfl c8) rfl (x_cmpI (b := decide (a1 < 0)) hst rfl rfl rfl) ?_; intro a hst
     refine r_t hst trivial rfl (x_orF hst rfl c8 rfl) ?_; intro a hst
     exact hj _ (hst.keep _ ⟨rfl, rfl, rfl, rfl, trivial⟩)

set_option maxHeartbeats 4000000 in
set_option maxRecDepth 100000 in
theorem version_overlaps.calls (w : World) (a0 : File) (a1 : ByteArray) (a2 : ByteArray) (r : Bool) (h : version_overlaps a0 a1 a2 = some r) :
    Calls Try.prog 47 ([.agg #[.int .i64 a0.Number, .int .i64 a0.Size, .string a0.Least, .string a0.Limit, .int .u64 a0.Low, .int .u64 a0.High], .string a1, .string a2] : List Value).toArray w fun e w' => e = .returned (.bool r) ∧ SH (fun _ => False) w w' [] := by
 have H := h
 clear h
 unfold version_overlaps at H
 refine calls_enter Try.func47 rfl rfl ?_
 intro a hst
 have hsh := SH.zero (fun _ => False) w
 refine wq_seq ?_
 refine wq_region_lit (.inl rfl) ?_
 refine r_box hst hsh trivial rfl rfl rfl ?_
 intro g1 a w2 hgg1 hsh hst
 refine r_t hst trivial rfl (x_assign hst rfl) ?_; intro a hst
 refine wpL_nil ?_
 refine then_normal ?_
 refine wq_seq ?_
 refine wq_region_lit (.inl rfl) ?_
 refine r_t hst trivial rfl (x_fieldAddr (j' := 3) hst fa_43_3 rfl rfl) ?_; intro a hst
 refine r_t hst trivial rfl (x_loadB (i := 0) hst hsh sc_9 rfl rfl rfl) ?_; intro a hst
 refine r_t hst trivial rfl (x_move hst rfl) ?_; intro a hst
 refine r_t hst trivial rfl (x_cmpS (b := (!(sLt a0.Limit a1 || sEq a0.Limit a1))) hst rfl rfl rfl) ?_; intro a hst
 refine r_t hst trivial rfl (x_move hst rfl) ?_; intro a hst
 refine wl_join0 (Δ := []) (N := Try.f47.ntmps) 19 [(6, .bool false), (25, .bool ((!(sLt a0.Limit a1 || sEq a0.Limit a1)) && ((sEq a2 (ByteArray.mk #[])) || ((sLt a0.Least a2) && (!(sLt a2 a1 || sEq a2 a1))))))] ?_ ?_
 · intro a hst
   refine r_t hst trivial rfl (x_assign hst rfl) ?_; intro a hst
   refine wpL_nil ?_
   refine then_normal ?_
   refine wq_ret ?_
   obtain rfl := Option.some.inj H
   exact ret1 hst rfl rfl ⟨rfl, hsh.pick []⟩
 · intro hj
   by_cases c3 : (!(sLt a0.Limit a1 || sEq a0.Limit a1)) = true
   · refine r_t hst (wt_of 11 rfl rfl c3) rfl (x_move hst rfl) ?_; intro a hst
     refine r_t hst (wt_of 11 rfl rfl c3) rfl (x_cmpS (b := sEq a2 (ByteArray.mk #[])) hst rfl rfl rfl) ?_; intro a hst
     refine r_t hst (wt_of 11 rfl rfl c3) rfl (x_move hst rfl) ?_; intro a hst
     refine wl_join0 (Δ := []) (N := Try.f47.ntmps) 18 [(6, .bool false), (11, .bool (!(sLt a0.Limit a1 || sEq a0.Limit a1))), (24, .bool ((sEq a2 (ByteArray.mk #[])) || ((sLt a0.Least a2) && (!(sLt a2 a1 || sEq a2 a1)))))] ?_ ?_
     · intro a hst
       refine r_t hst trivial rfl (x_andT hst rfl c3 rfl) ?_; intro a hst
       exact hj _ (hst.keep _ ⟨rfl, rfl, trivial⟩)
     · intro hj
       by_cases c4 : (sEq a2 (ByteArray.mk #[])) = true
       · refine r_not hst 14 rfl rfl c4 rfl ?_; intro a hst
         refine r_not hst 14 rfl rfl c4 rfl ?_; intro a hst
         refine r_not hst 14 rfl rfl c4 rfl ?_; intro a hst
         refine r_not hst 14 rfl rfl c4 rfl ?_; intro a hst
         refine r_not hst 14 rfl rfl c4 rfl ?_; intro a hst
         refine r_notU hst 19 rfl rfl rfl ?_; intro a hst
         refine r_notU hst 19 rfl rfl rfl ?_; intro a hst
         refine r_notU hst 19 rfl rfl rfl ?_; intro a hst
         refine r_not hst 14 rfl rfl c4 rfl ?_; intro a hst
         refine r_t hst (wt_of 11 rfl rfl c3) rfl (x_orT ((sLt a0.Least a2) && (!(sLt a2 a1 || sEq a2 a1))) hst rfl c4 rfl) ?_; intro a hst
         exact hj _ (hst.keep _ ⟨rfl, rfl, rfl, trivial⟩)
       · replace c4 := Bool.eq_false_iff.2 c4
         refine r_t hst (wt_of 14 rfl rfl c4) rfl (x_fieldAddr (j' := 2) hst fa_43_2 rfl rfl) ?_; intro a hst
         refine r_t hst (wt_of 14 rfl rfl c4) rfl (x_loadB (i := 0) hst hsh sc_9 rfl rfl rfl) ?_; intro a hst
         refine r_t hst (wt_of 14 rfl rfl c4) rfl (x_move hst rfl) ?_; intro a hst
         refine r_t hst (wt_of 14 rfl rfl c4) rfl (x_cmpS (b := sLt a0.Least a2) hst rfl rfl rfl) ?_; intro a hst
         refine r_t hst (wt_of 14 rfl rfl c4) rfl (x_move hst rfl) ?_; intro a hst
         refine wl_join0 (Δ := []) (N := Try.f47.ntmps) 17 [(6, .bool false), (11, .bool (!(sLt a0.Limit a1 || sEq a0.Limit a1))), (14, .bool (sEq a2 (ByteArray.mk #[]))), (23, .bool ((sLt a0.Least a2) && (!(sLt a2 a1 || sEq a2 a1))))] ?_ ?_
         · intro a hst
           refine r_t hst (wt_of 11 rfl rfl c3) rfl (x_orF hst rfl c4 rfl) ?_; intro a hst
           exact hj _ (hst.keep _ ⟨rfl, rfl, rfl, trivial⟩)
         · intro hj
           by_cases c5 : (sLt a0.Least a2) = true
           · refine r_t hst (wt_of 19 rfl rfl c5) rfl (x_move hst rfl) ?_; intro a hst
             refine r_t hst (wt_of 19 rfl rfl c5) rfl (x_move hst rfl) ?_; intro a hst
             refine r_t hst (wt_of 19 rfl rfl c5) rfl (x_cmpS (b := (!(sLt a2 a1 || sEq a2 a1))) hst rfl rfl rfl) ?_; intro a hst
             refine r_t hst (wt_of 14 rfl rfl c4) rfl (x_andT hst rfl c5 rfl) ?_; intro a hst
             exact hj _ (hst.keep _ ⟨rfl, rfl, rfl, rfl, trivial⟩)
           · replace c5 := Bool.eq_false_iff.2 c5
             refine r_not hst 19 rfl rfl c5 rfl ?_; intro a hst
             refine r_not hst 19 rfl rfl c5 rfl ?_; intro a hst
             refine r_not hst 19 rfl rfl c5 rfl ?_; intro a hst
             refine r_t hst (wt_of 14 rfl rfl c4) rfl (x_andF (!(sLt a2 a1 || sEq a2 a1)) hst rfl c5 rfl) ?_; intro a hst
             exact hj _ (hst.keep _ ⟨rfl, rfl, rfl, rfl, trivial⟩)
   · replace c3 := Bool.eq_false_iff.2 c3
     refine r_not hst 11 rfl rfl c3 rfl ?_; intro a hst
     refine r_not hst 11 rfl rfl c3 rfl ?_; intro a hst
     refine r_not hst 11 rfl rfl c3 rfl ?_; intro a hst
     refine r_notU hst 14 rfl rfl rfl ?_; intro a hst
     refine r_notU hst 14 rfl rfl rfl ?_; intro a hst
     refine r_notU hst 14 rfl rfl rfl ?_; intro a hst
     refine r_notU hst 14 rfl rfl rfl ?_; intro a hst
     refine r_notU hst 14 rfl rfl rfl ?_; intro a hst
     refine r_notU hst 19 rfl rfl rfl ?_; intro a hst
     refine r_notU hst 19 rfl rfl rfl ?_; intro a hst
     refine r_notU hst 19 rfl rfl rfl ?_; intro a hst
     refine r_notU hst 14 rfl rfl rfl ?_; intro a hst
     refine r_not hst 11 rfl rfl c3 rfl ?_; intro a hst
     refine r_t hst trivial rfl (x_andF ((sEq a2 (ByteArray.mk #[])) || ((sLt a0.Least a2) && (!(sLt a2 a1 || sEq a2 a1)))) hst rfl c3 rfl) ?_; intro a hst
     exact hj _ (hst.keep _ ⟨rfl, rfl, trivial⟩)

set_option maxHeartbeats 4000000 in
set_option maxRecDepth 100000 in
theorem version_Over.calls (k : Nat) (w : World) (va0 : Value) (Za0 : Nat → Prop) (wra0 : World) (hsa0 : Same Za0 wra0 w) (a0 : (List (List File))) (hra0 : RD (Kd.slice 43 k_File) Za0 wra0 va0 a0) (a1 : Int) (a2 : ByteArray) (a3 : ByteArray) (r : (List File)) (h : version_Over k a0 a1 a2 a3 = some r) :
    Calls Try.prog 18 ([va0, .int .i64 a1, .string a2, .string a3] : List Value).toArray w fun e w' => ∃ v0_ : Value, e = .returned (v0_) ∧ SH (fun _ => False) w w' [Row k_File 43 v0_ r] := by
 have H := h
 clear h
 unfold version_Over at H
 refine calls_enter Try.func18 rfl rfl ?_
 intro a hst
 have hsh := SH.zero (fun _ => False) w
 refine wq_seq ?_
 refine wq_region_lit (.inl rfl) ?_
 refine r_t hst trivial rfl (x_assign hst rfl) ?_; intro a hst
 refine wpL_nil ?_
 refine then_normal ?_
 refine wq_seq ?_
 refine wq_region_lit (.inl rfl) ?_
 refine r_t hst trivial rfl (x_assign hst rfl) ?_; intro a hst
 refine wpL_nil ?_
 refine then_normal ?_
 refine wq_seq ?_
 refine wq_seq ?_
 refine wq_region_lit (.inl rfl) ?_
 refine r_t hst trivial rfl (x_move hst rfl) ?_; intro a hst
 refine r_t hst trivial rfl (x_move hst rfl) ?_; intro a hst
 obtain ⟨r87, hr87, H⟩ := Option.bind_eq_some_iff.1 H
 refine r_callD hst trivial rfl fn_46 rfl (version_of.calls k _ _ _ _ (Same.sh0 hsa0 hsh) _ hra0 a1 r87 hr87) ?_
 rintro e w88 ⟨v89, rfl, hc, hv90⟩
 replace hsh := hsh.call0 hc
 clear hc
 refine ⟨_, rfl, fun a hst => ?_⟩
 refine r_t hst trivial rfl (x_lenSl hst Try.underlying39 rfl hv90.slen) ?_; intro a hst
 refine r_t hst trivial rfl (x_move hst rfl) ?_; intro a hst
 refine wpL_nil ?_
 refine then_normal ?_
 refine wq_block ?_
 have hsh := hsh.addNil k_File 43
 refine wq_loop_fuel (fun k_56 a w' => ∃ (v_43 : Value), ∃ (l_44 : (List File)), ∃ (i_45 : Int), version_Over.l0 a2 a3 r87 k_56 l_44 i_45 = some r ∧ ST [] Try.f18.ntmps a [(2, .string a2), (3, .string a3), (8, (.slice none 0 0)), (9, v_43), (14, v89), (15, .int .i64 (r87.length : Int)), (16, .int .i64 i_45)] ∧ SH (fun _ => False) w w' [Row k_File 43 v_43 l_44]) k ?_ ?_
 · exact ⟨(.slice none 0 0), ([]), 0, H, hst.keep _ ⟨rfl, rfl, rfl, rfl, rfl, rfl, rfl, trivial⟩, hsh.pick [0]⟩
 · rintro k_56 a W_46 ⟨v_43, l_44, i_45, H, hst, hsh⟩
   cases k_56 with
   | zero => rw [version_Over.l0] at H; cases H
   | succ k_56 =>
    rw [version_Over.l0] at H
    refine wq_seq ?_
    refine wq_region_lit (.inl rfl) ?_
    refine r_t hst trivial rfl (x_cmpI (b := decide (i_45 < (r87.length : Int))) hst rfl rfl rfl) ?_; intro a hst
    refine wpL_nil ?_
    refine then_normal ?_
    refine wq_seq ?_
    by_cases c147 : (decide (i_45 < (r87.length : Int))) = true
    · rw [if_pos c147] at H
      refine wq_condT hst rfl c147 ?_
      refine wq_skip ?_
      refine then_normal ?_
      obtain ⟨J_60, hJ_60, H⟩ := Jn.elim H
      refine wq_cut (fun a w' => ∃ (v_57 : Value), ∃ (l_58 : (List File)), J_60 l_58 = some r ∧ ST [] Try.f18.ntmps a [(2, .string a2), (3, .string a3), (8, (.slice none 0 0)), (9, v_57), (14, v89), (15, .int .i64 (r87.length : Int)), (16, .int .i64 i_45)] ∧ SH (fun _ => False) w w' [Row k_File 43 v_57 l_58]) ?_ ?_
      · rintro a W_59 ⟨v_57, l_58, H, hst, hsh⟩
        subst hJ_60
        dsimp only at H
        refine wq_region_lit (.inl rfl) ?_
        refine r_t hst trivial rfl (x_arI (r := w64 (i_45 + 1)) hst rfl rfl rfl) ?_; intro a hst
        refine r_t hst trivial rfl (x_move hst rfl) ?_; intro a hst
        refine wpL_nil ?_
        refine then_normal ?_
        exact ⟨k_56, Nat.lt_succ_self _, v_57, l_58, (w64 (i_45 + 1)), H, hst.keep _ ⟨rfl, rfl, rfl, rfl, rfl, rfl, rfl, trivial⟩, hsh.pick [0]⟩
      · refine wq_block ?_
        refine wq_seq ?_
        refine wq_region_lit (.inl rfl) ?_
        obtain ⟨x160, hx160, H⟩ := Option.bind_eq_some_iff.1 H
        refine r_t hst trivial rfl (x_indexAddr hst Try.underlying39 el_43 rfl rfl hv90 hx160) ?_; intro a hst
        refine r_t hst trivial rfl (x_loadEsF (j := 0) (cs := [.int .i64 x160.Number, .int .i64 x160.Size, .string x160.Least, .string x160.Limit, .int .u64 x160.Low, .int .u64 x160.High]) (ps := [.int .i64 x160.Number, .int .i64 x160.Size, .string x160.Least, .string x160.Limit, .int .u64 x160.Low, .int .u64 x160.High]) hst ag_43 rfl hv90 (Same.sh0 hsa0 hsh) hx160 rfl (fun _ h => h) rfl) ?_; intro a hst
        refine r_alloc hst hsh trivial rfl zr_43 ?_
        intro g161 a w162 hgg161 hsh hst
        refine r_storeBs (i := 0) (cs' := [.int .i64 x160.Number, .int .i64 x160.Size, .string x160.Least, .string x160.Limit, .int .u64 x160.Low, .int .u64 x160.High]) (vs := [.int .i64 x160.Number, .int .i64 x160.Size, .string x160.Least, .string x160.Limit, .int .u64 x160.Low, .int .u64 x160.High]) hst hsh trivial ag_43 rfl rfl rfl rfl rfl rfl ?_; intro a w163 hsh hst
        refine wpL_nil ?_
        refine then_normal ?_
        refine wq_seq ?_
        refine wq_region_lit (.inl rfl) ?_
        refine r_t hst trivial rfl (x_loadBs (i := 0) (ps := [.int .i64 x160.Number, .int .i64 x160.Size, .string x160.Least, .string x160.Limit, .int .u64 x160.Low, .int .u64 x160.High]) hst hsh ag_43 rfl rfl rfl) ?_; intro a hst
        refine r_t hst trivial rfl (x_move hst rfl) ?_; intro a hst
        refine r_t hst trivial rfl (x_move hst rfl) ?_; intro a hst
        obtain ⟨r164, hr164, H⟩ := Option.bind_eq_some_iff.1 H
        refine r_callD hst trivial rfl fn_47 rfl (version_overlaps.calls _ x160 a2 a3 r164 hr164) ?_
        rintro e w165 ⟨rfl, hc⟩
        replace hsh := hsh.call0 hc
        clear hc
        refine ⟨_, rfl, fun a hst => ?_⟩
        refine wpL_nil ?_
        refine then_normal ?_
        by_cases c166 : r164 = true
        · rw [if_pos c166] at H
          refine wq_condT hst rfl c166 ?_
          refine wq_region_lit (.inl rfl) ?_
          refine r_t hst trivial rfl (x_move hst rfl) ?_; intro a hst
          refine r_t hst trivial rfl (x_loadBs (i := 0) (ps := [.int .i64 x160.Number, .int .i64 x160.Size, .string x160.Least, .string x160.Limit, .int .u64 x160.Low, .int .u64 x160.High]) hst hsh ag_43 rfl rfl rfl) ?_; intro a hst
          refine r_buildSlice (vs := [.agg #[.int .i64 x160.Number, .int .i64 x160.Size, .string x160.Least, .string x160.Limit, .int .u64 x160.Low, .int .u64 x160.High]]) (cs := [.int .i64 x160.Number, .int .i64 x160.Size, .string x160.Least, .string x160.Limit, .int .u64 x160.Low, .int .u64 x160.High]) hst hsh trivial rfl Try.underlying39 el_43 rfl rfl (by simp [Value.cells]) rfl rfl ?_
          intro g167 a w168 hgg167 hsh hst
          replace hsh := hsh.pick [2, 0, 0]
          obtain ⟨l169, hl169, H⟩ := Option.bind_eq_some_iff.1 H
          refine r_append1 (xx := x160) (C := []) (M := [Box g161 [.int .i64 x160.Number, .int .i64 x160.Size, .string x160.Least, .string x160.Limit, .int .u64 x160.Low, .int .u64 x160.High] 43]) hst hsh trivial rfl Try.underlying39 el_43 (by decide) (by decide) (by decide) rfl rfl (fun _ _ _ => rfl) hl169 ?_
          intro v170 a w171 hsh hst
          refine r_t hst trivial rfl (x_assign hst rfl) ?_; intro a hst
          refine wpL_nil ?_
          refine block_normal ?_
          refine then_normal ?_
          exact ⟨v170, l169, H, hst.keep _ ⟨rfl, rfl, rfl, rfl, rfl, rfl, rfl, trivial⟩, hsh.pick [0]⟩
        · rw [if_neg c166] at H
          replace c166 := Bool.eq_false_iff.2 c166
          refine wq_condF hst rfl c166 ?_
          refine wq_skip ?_
          refine block_normal ?_
          refine then_normal ?_
          exact ⟨v_43, l_44, H, hst.keep _ ⟨rfl, rfl, rfl, rfl, rfl, rfl, rfl, trivial⟩, hsh.pick [1]⟩
    · rw [if_neg c147] at H
      replace c147 := Bool.eq_false_iff.2 c147
      refine wq_condF hst rfl c147 ?_
      refine wq_exit ?_
      refine then_exit ?_
      refine then_exit ?_
      refine block_hit ?_
      refine then_normal ?_
      refine wq_seq ?_
      refine wq_region_lit (.inl rfl) ?_
      refine r_t hst trivial rfl (x_move hst rfl) ?_; intro a hst
      refine r_t hst trivial rfl (x_assign hst rfl) ?_; intro a hst
      refine wpL_nil ?_
      refine then_normal ?_
      refine wq_ret ?_
      obtain rfl := Option.some.inj H
      exact ret1 hst rfl rfl ⟨v_43, rfl, hsh.pick [0]⟩

set_option maxHeartbeats 4000000 in
set_option maxRecDepth 100000 in
theorem slices_Backward_File_1.calls (k : Nat) (w : World) (va0 : Value) (Za0 : Nat → Prop) (wra0 : World) (hsa0 : Same Za0 wra0 w) (a0 : (Int → File → Option Bool)) (hra0 : ∀ (w : World) (x0 : Int) (x1 : File) (r : Bool), Same Za0 wra0 w → a0 x0 x1 = some r → CallsV Try.prog va0 [.int .i64 x0, .agg #[.int .i64 x1.Number, .int .i64 x1.Size, .string x1.Least, .string x1.Limit, .int .u64 x1.Low, .int .u64 x1.High]] w (fun e w'' => e = .returned (.bool r) ∧ SH (fun _ => False) w w'' [])) (c0 : (List File)) (vc0_0 : Value) (Zc0_0 : Nat → Prop) (wrc0_0 : World) (hsc0_0 : Same Zc0_0 wrc0_0 w) (hrc0_0 : RD k_File Zc0_0 wrc0_0 vc0_0 c0) (ggc0 : Nat) (Zc0 : Nat → Prop) (wrc0 : World) (hsc0 : Same Zc0 wrc0 w) (hzc0 : Zc0 ggc0) (hbc0 : wrc0.heap[ggc0]? = some (.cells ([vc0_0] : List Value).toArray 39 (0, 0))) (r : Unit) (h : slices_Backward_File_1 k a0 c0 = some r) :
    Calls Try.prog 64 ([va0, .pointer (some ⟨ggc0, 0, none⟩)] : List Value).toArray w fun e w' => e = .returned (.tuple #[]) ∧ SH (fun _ => False) w w' [] := by
 have H := h
 clear h
 unfold slices_Backward_File_1 at H
 refine calls_enter Try.func64 rfl rfl ?_
 intro a hst
 have hsh := SH.zero (fun _ => False) w
 refine wq_seq ?_
 refine wq_region_lit (.inl rfl) ?_
 refine r_t hst trivial rfl (x_loadCap (cs := [vc0_0]) hst hbc0 (Same.sh0 hsc0 hsh) hzc0 sc_39 rfl rfl) ?_; intro a hst
 refine r_t hst trivial rfl (x_lenSl hst Try.underlying39 rfl hrc0_0.slen) ?_; intro a hst
 refine r_t hst trivial rfl (x_arI (r := w64 ((c0.length : Int) - 1)) hst rfl rfl rfl) ?_; intro a hst
 refine r_t hst trivial rfl (x_assign hst rfl) ?_; intro a hst
 refine wpL_nil ?_
 refine then_normal ?_
 refine wq_block ?_
 refine wq_loop_fuel (fun k_5 a w' => ∃ (i_1 : Int), slices_Backward_File_1.l0 a0 c0 k_5 i_1 = some r ∧ ST [] Try.f64.ntmps a [(0, va0), (1, .pointer (some ⟨ggc0, 0, none⟩)), (3, .int .i64 i_1)] ∧ SH (fun _ => False) w w' []) k ?_ ?_
 · exact ⟨(w64 ((c0.length : Int) - 1)), H, hst.keep _ ⟨rfl, rfl, rfl, trivial⟩, hsh.pick []⟩
 · rintro k_5 a W_2 ⟨i_1, H, hst, hsh⟩
   cases k_5 with
   | zero => rw [slices_Backward_File_1.l0] at H; cases H
   | succ k_5 =>
    rw [slices_Backward_File_1.l0] at H
    refine wq_seq ?_
    refine wq_seq ?_
    refine wq_region_lit (.inl rfl) ?_
    refine r_t hst trivial rfl (x_move hst rfl) ?_; intro a hst
    refine r_t hst trivial rfl (x_cmpI (b := decide (0 ≤ i_1)) hst rfl rfl rfl) ?_; intro a hst
    refine wpL_nil ?_
    refine then_normal ?_
    by_cases c12 : (decide (0 ≤ i_1)) = true
    · rw [if_pos c12] at H
      refine wq_condT hst rfl c12 ?_
      refine wq_skip ?_
      refine then_normal ?_
      refine wq_seq ?_
      refine wq_block ?_
      refine wq_seq ?_
      refine wq_region_lit (.inl rfl) ?_
      refine r_t hst trivial rfl (x_move hst rfl) ?_; intro a hst
      refine r_t hst trivial rfl (x_move hst rfl) ?_; intro a hst
      refine r_t hst trivial rfl (x_loadCap (cs := [vc0_0]) hst hbc0 (Same.sh0 hsc0 hsh) hzc0 sc_39 rfl rfl) ?_; intro a hst
      refine r_t hst trivial rfl (x_move hst rfl) ?_; intro a hst
      obtain ⟨x17, hx17, H⟩ := Option.bind_eq_some_iff.1 H
      refine r_t hst trivial rfl (x_indexAddr hst Try.underlying39 el_43 rfl rfl hrc0_0 hx17) ?_; intro a hst
      refine r_t hst trivial rfl (x_loadEsF (j := 0) (cs := [.int .i64 x17.Number, .int .i64 x17.Size, .string x17.Least, .string x17.Limit, .int .u64 x17.Low, .int .u64 x17.High]) (ps := [.int .i64 x17.Number, .int .i64 x17.Size, .string x17.Least, .string x17.Limit, .int .u64 x17.Low, .int .u64 x17.High]) hst ag_43 rfl hrc0_0 (Same.sh0 hsc0_0 hsh) hx17 rfl (fun _ h => h) rfl) ?_; intro a hst
      obtain ⟨r18, hr18, H⟩ := Option.bind_eq_some_iff.1 H
      refine r_callV hst trivial rfl rfl rfl (hra0 _ i_1 x17 r18 (Same.sh0 hsa0 hsh) hr18) ?_
      rintro e w19 ⟨rfl, hc⟩
      replace hsh := hsh.call0 hc
      clear hc
      refine ⟨_, rfl, fun a hst => ?_⟩
      refine r_t hst trivial rfl (x_notB hst rfl) ?_; intro a hst
      refine wpL_nil ?_
      refine then_normal ?_
      by_cases c20 : (!r18) = true
      · rw [if_pos c20] at H
        refine wq_condT hst rfl c20 ?_
        refine wq_ret ?_
        refine block_ret ?_
        refine then_ret ?_
        refine then_ret ?_
        refine block_ret ?_
        obtain rfl := Option.some.inj H
        exact ret0 hst rfl ⟨rfl, hsh.pick []⟩
      · rw [if_neg c20] at H
        replace c20 := Bool.eq_false_iff.2 c20
        refine wq_condF hst rfl c20 ?_
        refine wq_skip ?_
        refine block_normal ?_
        refine then_normal ?_
        refine wq_region_lit (.inl rfl) ?_
        refine r_t hst trivial rfl (x_move hst rfl) ?_; intro a hst
        refine r_t hst trivial rfl (x_arI (r := w64 (i_1 - 1)) hst rfl rfl rfl) ?_; intro a hst
        refine r_t hst trivial rfl (x_assign hst rfl) ?_; intro a hst
        refine wpL_nil ?_
        refine then_normal ?_
        exact ⟨k_5, Nat.lt_succ_self _, (w64 (i_1 - 1)), H, hst.keep _ ⟨rfl, rfl, rfl, trivial⟩, hsh.pick []⟩
    · rw [if_neg c12] at H
      replace c12 := Bool.eq_false_iff.2 c12
      refine wq_condF hst rfl c12 ?_
      refine wq_exit ?_
      refine then_exit ?_
      refine then_exit ?_
      refine block_hit ?_
      exact end0 hst rfl ⟨rfl, hsh.pick []⟩

set_option maxHeartbeats 4000000 in
set_option maxRecDepth 100000 in
theorem version_Asks_1.calls (w : World) (a0 : Int) (c0 : (List File)) (vc0_0 : Value) (Zc0_0 : Nat → Prop) (wrc0_0 : World) (hsc0_0 : Same Zc0_0 wrc0_0 w) (hrc0_0 : RD k_File Zc0_0 wrc0_0 vc0_0 c0) (ggc0 : Nat) (Zc0 : Nat → Prop) (wrc0 : World) (hsc0 : Same Zc0 wrc0 w) (hzc0 : Zc0 ggc0) (hbc0 : wrc0.heap[ggc0]? = some (.cells ([vc0_0] : List Value).toArray 39 (0, 0))) (c1 : ByteArray) (ggc1 : Nat) (Zc1 : Nat → Prop) (wrc1 : World) (hsc1 : Same Zc1 wrc1 w) (hzc1 : Zc1 ggc1) (hbc1 : wrc1.heap[ggc1]? = some (.cells ([.string c1] : List Value).toArray 9 (0, 0))) (r : Bool) (h : version_Asks_1 a0 c0 c1 = some r) :
    Calls Try.prog 50 ([.int .i64 a0, .pointer (some ⟨ggc0, 0, none⟩), .pointer (some ⟨ggc1, 0, none⟩)] : List Value).toArray w fun e w' => e = .returned (.bool r) ∧ SH (fun _ => False) w w' [] := by
 have H := h
 clear h
 unfold version_Asks_1 at H
 refine calls_enter Try.func50 rfl rfl ?_
 intro a hst
 have hsh := SH.zero (fun _ => False) w
 refine wq_seq ?_
 refine wq_region_lit (.inl rfl) ?_
 refine r_t hst trivial rfl (x_assign hst rfl) ?_; intro a hst
 refine wpL_nil ?_
 refine then_normal ?_
 refine wq_seq ?_
 refine wq_region_q (.inl rfl) (fun w' => SH (fun _ => False) w w' []) (shut_sh _ _ _) hsh.drew fo (by kernel_rfl) ?_
 refine q_t hst trivial rfl (fun _ hsh => x_loadCap (cs := [vc0_0]) hst hbc0 (Same.sh0 hsc0 hsh) hzc0 sc_39 rfl rfl) ?_; intro a hst
 refine q_t hst trivial rfl (fun _ hsh => x_move hst rfl) ?_; intro a hst
 obtain ⟨x1, hx1, H⟩ := Option.bind_eq_some_iff.1 H
 refine q_t hst trivial rfl (fun _ hsh => x_indexAddr hst Try.underlying39 el_43 rfl rfl hrc0_0 hx1) ?_; intro a hst
 refine q_t hst trivial rfl (fun _ hsh => x_fieldAddrE (n' := Int.toNat a0 * k_File.sz + 3) hst fa_43_3 rfl rfl) ?_; intro a hst
 refine q_t hst trivial rfl (fun _ hsh => x_loadEF (j := 3) (cs := [.int .i64 x1.Number, .int .i64 x1.Size, .string x1.Least, .string x1.Limit, .int .u64 x1.Low, .int .u64 x1.High]) hst sc_9 rfl hrc0_0 (Same.sh0 hsc0_0 hsh) hx1 rfl (fun _ h => h) rfl) ?_; intro a hst
 refine q_t hst trivial rfl (fun _ hsh => x_loadCap (cs := [.string c1]) hst hbc1 (Same.sh0 hsc1 hsh) hzc1 sc_9 rfl rfl) ?_; intro a hst
 refine q_t hst trivial rfl (fun _ hsh => x_cmpS (b := (!(sLt x1.Limit c1 || sEq x1.Limit c1))) hst rfl rfl rfl) ?_; intro a hst
 refine q_t hst trivial rfl (fun _ hsh => x_assign hst rfl) ?_; intro a hst
 refine q_nil ?_
 intro w2 hsh
 refine then_normal ?_
 refine wq_ret ?_
 obtain rfl := Option.some.inj H
 exact ret1 hst rfl rfl ⟨rfl, hsh.pick []⟩

set_option maxHeartbeats 4000000 in
set_option maxRecDepth 100000 in
theorem sort_Search.calls (k : Nat) (w : World) (a0 : Int) (va1 : Value) (Za1 : Nat → Prop) (wra1 : World) (hsa1 : Same Za1 wra1 w) (a1 : (Int → Option Bool)) (hra1 : ∀ (w : World) (x0 : Int) (r : Bool), Same Za1 wra1 w → a1 x0 = some r → CallsV Try.prog va1 [.int .i64 x0] w (fun e w'' => e = .returned (.bool r) ∧ SH (fun _ => False) w w'' [])) (r : Int) (h : sort_Search k a0 a1 = some r) :
    Calls Try.prog 49 ([.int .i64 a0, va1] : List Value).toArray w fun e w' => e = .returned (.int .i64 r) ∧ SH (fun _ => False) w w' [] := by
 have H := h
 clear h
 unfold sort_Search at H
 refine calls_enter Try.func49 rfl rfl ?_
 intro a hst
 have hsh := SH.zero (fun _ => False) w
 refine wq_seq ?_
 refine wq_region_lit (.inl rfl) ?_
 refine r_t hst trivial rfl (x_assign hst rfl) ?_; intro a hst
 refine wpL_nil ?_
 refine then_normal ?_
 refine wq_seq ?_
 refine wq_region_lit (.inl rfl) ?_
 refine r_t hst trivial rfl (x_move hst rfl) ?_; intro a hst
 refine r_t hst trivial rfl (x_assign hst rfl) ?_; intro a hst
 refine r_t hst trivial rfl (x_assign hst rfl) ?_; intro a hst
 refine wpL_nil ?_
 refine then_normal ?_
 refine wq_seq ?_
 refine wq_block ?_
 refine wq_loop_fuel (fun k_22 a w' => ∃ (i_16 : Int), ∃ (i_17 : Int), sort_Search.l0 a1 k_22 i_16 i_17 = some r ∧ ST [] Try.f49.ntmps a [(1, va1), (4, .int .i64 0), (5, .int .i64 i_16), (6, .int .i64 i_17)] ∧ SH (fun _ => False) w w' []) k ?_ ?_
 · exact ⟨0, a0, H, hst.keep _ ⟨rfl, rfl, rfl, rfl, trivial⟩, hsh.pick []⟩
 · rintro k_22 a W_18 ⟨i_16, i_17, H, hst, hsh⟩
   cases k_22 with
   | zero => rw [sort_Search.l0] at H; cases H
   | succ k_22 =>
    rw [sort_Search.l0] at H
    refine wq_seq ?_
    refine wq_seq ?_
    refine wq_region_lit (.inl rfl) ?_
    refine r_t hst trivial rfl (x_move hst rfl) ?_; intro a hst
    refine r_t hst trivial rfl (x_move hst rfl) ?_; intro a hst
    refine r_t hst trivial rfl (x_cmpI (b := decide (i_16 < i_17)) hst rfl rfl rfl) ?_; intro a hst
    refine wpL_nil ?_
    refine then_normal ?_
    by_cases c27 : (decide (i_16 < i_17)) = true
    · rw [if_pos c27] at H
      refine wq_condT hst rfl c27 ?_
      refine wq_skip ?_
      refine then_normal ?_
      refine wq_block ?_
      refine wq_seq ?_
      refine wq_region_lit (.inl rfl) ?_
      refine r_t hst trivial rfl (x_move hst rfl) ?_; intro a hst
      refine r_t hst trivial rfl (x_move hst rfl) ?_; intro a hst
      refine r_t hst trivial rfl (x_arI (r := w64 (i_16 + i_17)) hst rfl rfl rfl) ?_; intro a hst
      refine r_t hst trivial rfl (x_convI hst Try.underlying3 Try.underlying88 rfl) ?_; intro a hst
      refine r_t hst trivial rfl (x_shr hst rfl rfl (by decide) (by decide)) ?_; intro a hst
      refine r_t hst trivial rfl (x_convI hst Try.underlying88 Try.underlying3 rfl) ?_; intro a hst
      refine r_t hst trivial rfl (x_assign hst rfl) ?_; intro a hst
      refine wpL_nil ?_
      refine then_normal ?_
      refine wq_seq ?_
      refine wq_region_lit (.inl rfl) ?_
      refine r_t hst trivial rfl (x_move hst rfl) ?_; intro a hst
      refine r_t hst trivial rfl (x_move hst rfl) ?_; intro a hst
      obtain ⟨r28, hr28, H⟩ := Option.bind_eq_some_iff.1 H
      refine r_callV hst trivial rfl rfl rfl (hra1 _ (w64 ((wu64 (w64 (i_16 + i_17))) / 2 ^ (Int.toNat 1))) r28 (Same.sh0 hsa1 hsh) hr28) ?_
      rintro e w29 ⟨rfl, hc⟩
      replace hsh := hsh.call0 hc
      clear hc
      refine ⟨_, rfl, fun a hst => ?_⟩
      refine r_t hst trivial rfl (x_notB hst rfl) ?_; intro a hst
      refine wpL_nil ?_
      refine then_normal ?_
      by_cases c30 : (!r28) = true
      · rw [if_pos c30] at H
        refine wq_condT hst rfl c30 ?_
        refine wq_region_lit (.inl rfl) ?_
        refine r_t hst trivial rfl (x_move hst rfl) ?_; intro a hst
        refine r_t hst trivial rfl (x_arI (r := w64 ((w64 ((wu64 (w64 (i_16 + i_17))) / 2 ^ (Int.toNat 1))) + 1)) hst rfl rfl rfl) ?_; intro a hst
        refine r_t hst trivial rfl (x_assign hst rfl) ?_; intro a hst
        refine wpL_nil ?_
        refine block_normal ?_
        refine then_normal ?_
        exact ⟨k_22, Nat.lt_succ_self _, (w64 ((w64 ((wu64 (w64 (i_16 + i_17))) / 2 ^ (Int.toNat 1))) + 1)), i_17, H, hst.keep _ ⟨rfl, rfl, rfl, rfl, trivial⟩, hsh.pick []⟩
      · rw [if_neg c30] at H
        replace c30 := Bool.eq_false_iff.2 c30
        refine wq_condF hst rfl c30 ?_
        refine wq_region_lit (.inl rfl) ?_
        refine r_t hst trivial rfl (x_move hst rfl) ?_; intro a hst
        refine r_t hst trivial rfl (x_assign hst rfl) ?_; intro a hst
        refine wpL_nil ?_
        refine block_normal ?_
        refine then_normal ?_
        exact ⟨k_22, Nat.lt_succ_self _, i_16, (w64 ((wu64 (w64 (i_16 + i_17))) / 2 ^ (Int.toNat 1))), H, hst.keep _ ⟨rfl, rfl, rfl, rfl, trivial⟩, hsh.pick []⟩
    · rw [if_neg c27] at H
      replace c27 := Bool.eq_false_iff.2 c27
      refine wq_condF hst rfl c27 ?_
      refine wq_exit ?_
      refine then_exit ?_
      refine then_exit ?_
      refine block_hit ?_
      refine then_normal ?_
      refine wq_seq ?_
      refine wq_region_lit (.inl rfl) ?_
      refine r_t hst trivial rfl (x_move hst rfl) ?_; intro a hst
      refine r_t hst trivial rfl (x_assign hst rfl) ?_; intro a hst
      refine wpL_nil ?_
      refine then_normal ?_
      refine wq_ret ?_
      obtain rfl := Option.some.inj H
      exact ret1 hst rfl rfl ⟨rfl, hsh.pick []⟩

set_option maxHeartbeats 4000000 in
set_option maxRecDepth 100000 in
theorem version_Asks.calls (k : Nat) (w : World) (va0 : Value) (Za0 : Nat → Prop) (wra0 : World) (hsa0 : Same Za0 wra0 w) (a0 : (List (List File))) (hra0 : RD (Kd.slice 43 k_File) Za0 wra0 va0 a0) (a1 : ByteArray) (r : (List Place)) (h : version_Asks k a0 a1 = some r) :
    Calls Try.prog 19 ([va0, .string a1] : List Value).toArray w fun e w' => ∃ v0_ : Value, e = .returned (v0_) ∧ SH (fun _ => False) w w' [Row k_Place 41 v0_ r] := by
 have H := h
 clear h
 unfold version_Asks at H
 refine calls_enterM Try.func19 rfl rfl ?_
 intro a hst
 have hsh := SH.zero (fun _ => False) w
 replace hsh := hsh.addMks
 refine wq_seq ?_
 refine wq_region_lit (.inl rfl) ?_
 refine r_box hst hsh trivial rfl rfl rfl ?_
 intro g1 a w2 hgg1 hsh hst
 refine r_t hst trivial rfl (x_assign hst rfl) ?_; intro a hst
 refine wpL_nil ?_
 refine then_normal ?_
 refine wq_seq ?_
 refine wq_region_lit (.inl rfl) ?_
 refine r_alloc hst hsh trivial rfl zr_25 ?_
 intro g3 a w4 hgg3 hsh hst
 refine wpL_nil ?_
 refine then_normal ?_
 obtain ⟨J_63, hJ_63, H⟩ := Jn.elim H
 refine wq_cut (fun a w' => ∃ (v_59 : Value), ∃ (l_60 : (List Place)), ∃ (bs_61 : (List Nat)), J_63 l_60 = some r ∧ ST (List.map Go.Proofs.Ytbbepmmelpabbaa.Sy.mark bs_61) Try.f19.ntmps a [(0, va0), (3, .pointer (some ⟨g1, 0, none⟩)), (4, (.slice none 0 0)), (5, .pointer (some ⟨g3, 0, none⟩))] ∧ SH (fun _ => False) w w' [Box g1 [.string a1] 9, Box g3 [v_59] 25, Row k_Place 41 v_59 l_60, Mks bs_61]) ?_ ?_
 · rintro a W_62 ⟨v_59, l_60, bs_61, H, hst, hsh⟩
   subst hJ_63
   dsimp only at H
   refine wq_seq ?_
   refine wq_seq ?_
   refine wq_region_lit (.inl rfl) ?_
   refine r_t hst trivial rfl (x_assign hst rfl) ?_; intro a hst
   refine wpL_nil ?_
   refine then_normal ?_
   refine wq_block ?_
   refine wq_loop_fuel (fun k_1031 a w' => ∃ (v_835 : Value), ∃ (l_836 : (List Place)), ∃ (i_837 : Int), version_Asks.l0 a0 a1 k_1031 l_836 i_837 = some r ∧ ST (List.map Go.Proofs.Ytbbepmmelpabbaa.Sy.mark bs_61) Try.f19.ntmps a [(0, va0), (3, .pointer (some ⟨g1, 0, none⟩)), (4, (.slice none 0 0)), (5, .pointer (some ⟨g3, 0, none⟩)), (8, .int .i64 i_837)] ∧ SH (fun _ => False) w w' [Box g1 [.string a1] 9, Box g3 [v_835] 25, Row k_Place 41 v_835 l_836, Mks bs_61]) k ?_ ?_
   · exact ⟨v_59, l_60, 1, H, hst.keep _ ⟨rfl, rfl, rfl, rfl, rfl, trivial⟩, hsh.pick [0, 0, 0, 0]⟩
   · rintro k_1031 a W_838 ⟨v_835, l_836, i_837, H, hst, hsh⟩
     cases k_1031 with
     | zero => rw [version_Asks.l0] at H; cases H
     | succ k_1031 =>
      rw [version_Asks.l0] at H
      refine wq_seq ?_
      refine wq_seq ?_
      refine wq_region_lit (.inl rfl) ?_
      refine r_t hst trivial rfl (x_move hst rfl) ?_; intro a hst
      refine r_t hst trivial rfl (x_move hst rfl) ?_; intro a hst
      refine r_t hst trivial rfl (x_lenSl hst Try.underlying23 rfl hra0.slen) ?_; intro a hst
      refine r_t hst trivial rfl (x_cmpI (b := decide (i_837 < (a0.length : Int))) hst rfl rfl rfl) ?_; intro a hst
      refine wpL_nil ?_
      refine then_normal ?_
      by_cases c1303 : (decide (i_837 < (a0.length : Int))) = true
      · rw [if_pos c1303] at H
        refine wq_condT hst rfl c1303 ?_
        refine wq_skip ?_
        refine then_normal ?_
        obtain ⟨J_1127, hJ_1127, H⟩ := Jn.elim H
        refine wq_cut (fun a w' => ∃ (v_1124 : Value), ∃ (l_1125 : (List Place)), J_1127 l_1125 = some r ∧ ST (List.map Go.Proofs.Ytbbepmmelpabbaa.Sy.mark bs_61) Try.f19.ntmps a [(0, va0), (3, .pointer (some ⟨g1, 0, none⟩)), (4, (.slice none 0 0)), (5, .pointer (some ⟨g3, 0, none⟩)), (8, .int .i64 i_837)] ∧ SH (fun _ => False) w w' [Box g1 [.string a1] 9, Box g3 [v_1124] 25, Row k_Place 41 v_1124 l_1125, Mks bs_61]) ?_ ?_
        · rintro a W_1126 ⟨v_1124, l_1125, H, hst, hsh⟩
          subst hJ_1127
          dsimp only at H
          refine wq_region_lit (.inl rfl) ?_
          refine r_t hst trivial rfl (x_move hst rfl) ?_; intro a hst
          refine r_t hst trivial rfl (x_arI (r := w64 (i_837 + 1)) hst rfl rfl rfl) ?_; intro a hst
          refine r_t hst trivial rfl (x_assign hst rfl) ?_; intro a hst
          refine wpL_nil ?_
          refine then_normal ?_
          exact ⟨k_1031, Nat.lt_succ_self _, v_1124, l_1125, (w64 (i_837 + 1)), H, hst.keep _ ⟨rfl, rfl, rfl, rfl, rfl, trivial⟩, hsh.pick [0, 0, 0, 0]⟩
        · refine wq_block ?_
          refine wq_seq ?_
          refine wq_region_lit (.inl rfl) ?_
          refine r_t hst trivial rfl (x_move hst rfl) ?_; intro a hst
          refine r_t hst trivial rfl (x_move hst rfl) ?_; intro a hst
          obtain ⟨r1411, hr1411, H⟩ := Option.bind_eq_some_iff.1 H
          refine r_callD hst trivial rfl fn_46 rfl (version_of.calls k_1031 _ _ _ _ (Same.sh0 hsa0 hsh) _ hra0 i_837 r1411 hr1411) ?_
          rintro e w1412 ⟨v1413, rfl, hc, hv1414⟩
          replace hsh := hsh.call0 hc
          clear hc
          refine ⟨_, rfl, fun a hst => ?_⟩
          refine r_alloc hst hsh trivial rfl zr_39 ?_
          intro g1415 a w1416 hgg1415 hsh hst
          refine r_storeB (i := 0) (cs' := [v1413]) hst hsh trivial sc_39 rfl rfl rfl rfl (one_slice hv1414.slen) rfl ?_; intro a w1417 hsh hst
          refine wpL_nil ?_
          refine then_normal ?_
          obtain ⟨J_1173, hJ_1173, H⟩ := Jn.elim H
          refine wq_cut (fun a w' => ∃ (i_1171 : Int), J_1173 i_1171 = some r ∧ ST (List.map Go.Proofs.Ytbbepmmelpabbaa.Sy.mark bs_61) Try.f19.ntmps a [(0, va0), (3, .pointer (some ⟨g1, 0, none⟩)), (4, (.slice none 0 0)), (5, .pointer (some ⟨g3, 0, none⟩)), (8, .int .i64 i_837), (9, .pointer (some ⟨g1415, 0, none⟩)), (10, .int .i64 i_1171)] ∧ SH (fun _ => False) w w' [Box g1 [.string a1] 9, Box g3 [v_835] 25, Row k_Place 41 v_835 l_836, Box g1415 [v1413] 39, Mks bs_61]) ?_ ?_
          · rintro a W_1172 ⟨i_1171, H, hst, hsh⟩
            subst hJ_1173
            dsimp only at H
            refine wq_seq ?_
            refine wq_region_q (.inl rfl) (fun w' => SH (fun _ => False) w w' [Box g1 [.string a1] 9, Box g3 [v_835] 25, Row k_Place 41 v_835 l_836, Box g1415 [v1413] 39, Mks bs_61]) (shut_sh _ _ _) hsh.drew fo (by kernel_rfl) ?_
            refine q_t hst trivial rfl (fun _ hsh => x_move hst rfl) ?_; intro a hst
            refine q_t hst trivial rfl (fun _ hsh => x_loadB (i := 3) hst hsh sc_39 rfl rfl rfl) ?_; intro a hst
            refine q_t hst trivial rfl (fun _ hsh => x_lenSl hst Try.underlying39 rfl hv1414.slen) ?_; intro a hst
            refine q_t hst trivial rfl (fun _ hsh => x_cmpI (b := decide (i_1171 < (r1411.length : Int))) hst rfl rfl rfl) ?_; intro a hst
            refine q_t hst trivial rfl (fun _ hsh => x_move hst rfl) ?_; intro a hst
            obtain ⟨J_1175, hJ_1175, H⟩ := Jn.elim H
            refine q_join 13 (fun a => ∃ (b_1174 : Bool), J_1175 b_1174 = some r ∧ ST (List.map Go.Proofs.Ytbbepmmelpabbaa.Sy.mark bs_61) Try.f19.ntmps a [(0, va0), (3, .pointer (some ⟨g1, 0, none⟩)), (4, (.slice none 0 0)), (5, .pointer (some ⟨g3, 0, none⟩)), (8, .int .i64 i_837), (9, .pointer (some ⟨g1415, 0, none⟩)), (10, .int .i64 i_1171), (57, .bool b_1174)]) ?_ ?_
            · rintro a ⟨b_1174, H, hst⟩
              subst hJ_1175
              dsimp only at H
              refine q_nil ?_
              intro w1462 hsh
              refine then_normal ?_
              by_cases c1463 : b_1174 = true
              · rw [if_pos c1463] at H
                refine wq_condT hst rfl c1463 ?_
                have hw1463_2 := hsh.row 2 rfl
                refine wq_region_t (.inl rfl) (.fin [(0, 0), (3, 1), (0, 2), (3, 3), (3, 4), (3, 5), (0, 6), (3, 7), (1, 8), (1, 9), (2, 10)]) (fun w' => SH (fun _ => False) w w' [Box g1 [.string a1] 9, Box g1415 [v1413] 39, Mks bs_61]) (fun w' => SH (fun _ => False) w w' [Box g1 [.string a1] 9, Box g3 [v_835] 25, Box g1415 [v1413] 39, Mks bs_61]) (fun w' => SH (fun _ => False) w w' [Box g1 [.string a1] 9, Box g3 [v_835] 25, Row k_Place 41 v_835 l_836, Box g1415 [v1413] 39, Mks bs_61]) (shut_sh _ _ _) (shut_sh _ _ _) (shut_sh _ _ _) (sub_sh [0, 1, 1] rfl) (sub_sh [0, 0, 1, 1] rfl) hsh.drew fo (by kernel_rfl) ?_
                refine t_fin ?_
                refine m_t hst trivial rfl (fun _ hsh => x_loadB (i := 1) hst hsh sc_25 rfl rfl rfl) ?_; intro a hst
                refine m_p hst trivial rfl (fun _ => x_move hst rfl) ?_; intro a hst
                refine m_t hst trivial rfl (fun _ hsh => x_loadB (i := 2) hst hsh sc_39 rfl rfl rfl) ?_; intro a hst
                refine m_p hst trivial rfl (fun _ => x_move hst rfl) ?_; intro a hst
                obtain ⟨x1464, hx1464, H⟩ := Option.bind_eq_some_iff.1 H
                refine m_p hst trivial rfl (fun _ => x_indexAddr hst Try.underlying39 el_43 rfl rfl hv1414 hx1464) ?_; intro a hst
                refine m_p hst trivial rfl (fun _ => x_fieldAddrE (n' := Int.toNat i_1171 * k_File.sz) hst fa_43_0 rfl rfl) ?_; intro a hst
                refine m_t hst trivial rfl (fun _ hsh => x_loadEF (j := 0) (cs := [.int .i64 x1464.Number, .int .i64 x1464.Size, .string x1464.Least, .string x1464.Limit, .int .u64 x1464.Low, .int .u64 x1464.High]) hst sc_3 rfl hv1414 (Same.sh0 hsa0 hsh) hx1464 rfl (fun _ h => h) rfl) ?_; intro a hst
                refine m_p hst trivial rfl (fun _ => x_build (cs := [.int .i64 i_837, .int .i64 x1464.Number]) hst rfl (by kernel_rfl)) ?_; intro a hst
                refine m_loud (.inl rfl) ?_
                intro w1465 hsh
                refine r_buildSlice (vs := [.agg #[.int .i64 i_837, .int .i64 x1464.Number]]) (cs := [.int .i64 i_837, .int .i64 x1464.Number]) hst hsh trivial rfl Try.underlying25 el_41 rfl rfl (by simp [Value.cells]) rfl rfl ?_
                intro g1466 a w1467 hgg1466 hsh hst
                refine m_on (MB := [Box g1 [.string a1] 9, Box g3 [v_835] 25, Box g1415 [v1413] 39, Mks bs_61]) [1, 1, 2, 2] [0, 0, 0, 0] rfl rfl hsh rfl (sub_sh [0, 1, 1] rfl) ?_
                refine m_loud (.inl rfl) ?_
                intro w1468 hsh
                replace hsh := hsh.pick [3, 0, 0, 0, 0, 0]
                obtain ⟨l1469, hl1469, H⟩ := Option.bind_eq_some_iff.1 H
                refine r_append1 (xx := (⟨i_837, x1464.Number⟩ : Place)) (C := []) (M := [Box g1 [.string a1] 9, Box g3 [v_835] 25, Box g1415 [v1413] 39, Mks bs_61]) hst hsh trivial rfl Try.underlying25 el_41 (by decide) (by decide) (by decide) rfl rfl (fun _ _ _ => rfl) hl1469 ?_
                intro v1470 a w1471 hsh hst
                refine m_on (MB := [Row k_Place 41 v1470 l1469, Box g1 [.string a1] 9, Box g3 [v_835] 25, Box g1415 [v1413] 39, Mks bs_61]) [0, 0, 0, 0, 0] [1, 1, 1, 1] rfl rfl hsh rfl (sub_sh [0, 1, 1] rfl) ?_
                refine m_loud (.inr rfl) ?_
                intro w1472 hsh
                refine r_storeB (i := 2) (cs' := [v1470]) hst hsh trivial sc_25 rfl rfl rfl rfl (one_slice (hsh.row 0 rfl).slen) rfl ?_; intro a w1473 hsh hst
                refine m_turn hsh (sub_sh [2, 2, 2] rfl) ?_
                refine m_nil ?_
                intro w1474 hsh
                refine qn_normal ?_
                refine block_normal ?_
                refine then_normal ?_
                exact ⟨v1470, l1469, H, hst.keep _ ⟨rfl, rfl, rfl, rfl, rfl, trivial⟩, hsh.pick [2, 0, 0, 1]⟩
              · rw [if_neg c1463] at H
                replace c1463 := Bool.eq_false_iff.2 c1463
                refine wq_condF hst rfl c1463 ?_
                refine wq_skip ?_
                refine block_normal ?_
                refine then_normal ?_
                exact ⟨v_835, l_836, H, hst.keep _ ⟨rfl, rfl, rfl, rfl, rfl, trivial⟩, hsh.pick [0, 0, 0, 1]⟩
            · intro hj
              by_cases c1460 : (decide (i_1171 < (r1411.length : Int))) = true
              · rw [if_pos c1460] at H
                refine q_t hst (wt_of 49 rfl rfl c1460) rfl (fun _ hsh => x_loadB (i := 3) hst hsh sc_39 rfl rfl rfl) ?_; intro a hst
                refine q_t hst (wt_of 49 rfl rfl c1460) rfl (fun _ hsh => x_move hst rfl) ?_; intro a hst
                obtain ⟨x1475, hx1475, H⟩ := Option.bind_eq_some_iff.1 H
                refine q_t hst (wt_of 49 rfl rfl c1460) rfl (fun _ hsh => x_indexAddr hst Try.underlying39 el_43 rfl rfl hv1414 hx1475) ?_; intro a hst
                refine q_t hst (wt_of 49 rfl rfl c1460) rfl (fun _ hsh => x_fieldAddrE (n' := Int.toNat i_1171 * k_File.sz + 2) hst fa_43_2 rfl rfl) ?_; intro a hst
                refine q_t hst (wt_of 49 rfl rfl c1460) rfl (fun _ hsh => x_loadEF (j := 2) (cs := [.int .i64 x1475.Number, .int .i64 x1475.Size, .string x1475.Least, .string x1475.Limit, .int .u64 x1475.Low, .int .u64 x1475.High]) hst sc_9 rfl hv1414 (Same.sh0 hsa0 hsh) hx1475 rfl (fun _ h => h) rfl) ?_; intro a hst
                refine q_t hst (wt_of 49 rfl rfl c1460) rfl (fun _ hsh => x_loadB (i := 0) hst hsh sc_9 rfl rfl rfl) ?_; intro a hst
                refine q_t hst (wt_of 49 rfl rfl c1460) rfl (fun _ hsh => x_cmpS (b := (sLt x1475.Least a1 || sEq x1475.Least a1)) hst rfl rfl rfl) ?_; intro a hst
                refine q_t hst trivial rfl (fun _ hsh => x_pickT hst rfl c1460 rfl) ?_; intro a hst
                exact hj _ ⟨(sLt x1475.Least a1 || sEq x1475.Least a1), H, hst.keep _ ⟨rfl, rfl, rfl, rfl, rfl, rfl, rfl, rfl, trivial⟩⟩
              · rw [if_neg c1460] at H
                replace c1460 := Bool.eq_false_iff.2 c1460
                refine q_not hst 49 rfl rfl c1460 rfl ?_; intro a hst
                refine q_not hst 49 rfl rfl c1460 rfl ?_; intro a hst
                refine q_not hst 49 rfl rfl c1460 rfl ?_; intro a hst
                refine q_not hst 49 rfl rfl c1460 rfl ?_; intro a hst
                refine q_not hst 49 rfl rfl c1460 rfl ?_; intro a hst
                refine q_not hst 49 rfl rfl c1460 rfl ?_; intro a hst
                refine q_not hst 49 rfl rfl c1460 rfl ?_; intro a hst
                refine q_t hst trivial rfl (fun _ hsh => x_pickF hst rfl c1460 rfl) ?_; intro a hst
                exact hj _ ⟨false, H, hst.keep _ ⟨rfl, rfl, rfl, rfl, rfl, rfl, rfl, rfl, trivial⟩⟩
          · refine wq_region_lit (.inl rfl) ?_
            refine r_t hst trivial rfl (x_loadB (i := 0) hst hsh sc_39 rfl rfl rfl) ?_; intro a hst
            refine r_t hst trivial rfl (x_lenSl hst Try.underlying39 rfl hv1414.slen) ?_; intro a hst
            refine r_t hst trivial rfl (x_makeFunc hst rfl) ?_; intro a hst
            refine r_inl hst trivial rfl fn_49 rfl ?_
            refine calls_enter Try.func49 rfl rfl ?_
            intro a hst
            refine wq_seq ?_
            refine wq_region_lit (.inl rfl) ?_
            refine r_t hst trivial rfl (x_assign hst rfl) ?_; intro a hst
            refine wpL_nil ?_
            refine then_normal ?_
            refine wq_seq ?_
            refine wq_region_lit (.inl rfl) ?_
            refine r_t hst trivial rfl (x_move hst rfl) ?_; intro a hst
            refine r_t hst trivial rfl (x_assign hst rfl) ?_; intro a hst
            refine r_t hst trivial rfl (x_assign hst rfl) ?_; intro a hst
            refine wpL_nil ?_
            refine then_normal ?_
            obtain ⟨J_1199, hJ_1199, H⟩ := Jn.elim H
            refine wq_cut (fun a w' => ∃ (i_1197 : Int), J_1199 i_1197 = some r ∧ ST [] Try.f49.ntmps a [(4, .int .i64 0), (5, .int .i64 i_1197)] ∧ SH (fun _ => False) w w' [Box g1 [.string a1] 9, Box g3 [v_835] 25, Row k_Place 41 v_835 l_836, Box g1415 [v1413] 39, Mks bs_61]) ?_ ?_
            · rintro a W_1198 ⟨i_1197, H, hst, hsh⟩
              subst hJ_1199
              dsimp only at H
              refine wq_seq ?_
              refine wq_region_lit (.inl rfl) ?_
              refine r_t hst trivial rfl (x_move hst rfl) ?_; intro a hst
              refine r_t hst trivial rfl (x_assign hst rfl) ?_; intro a hst
              refine wpL_nil ?_
              refine then_normal ?_
              refine wq_ret ?_
              refine ret1 hst rfl rfl ?_
              refine ⟨_, rfl, fun a hst => ?_⟩
              refine r_t hst trivial rfl (x_assign hst rfl) ?_; intro a hst
              refine wpL_nil ?_
              refine then_normal ?_
              exact ⟨i_1197, H, hst.keep _ ⟨rfl, rfl, rfl, rfl, rfl, rfl, rfl, trivial⟩, hsh.pick [0, 0, 0, 0, 0]⟩
            · refine wq_block ?_
              refine wq_loop_fuel (fun k_1216 a w' => ∃ (i_1207 : Int), ∃ (i_1208 : Int), version_Asks.l1 a1 r1411 J_1199 k_1216 i_1207 i_1208 = some r ∧ ST [] Try.f49.ntmps a [(1, .func (.func 50) #[] #[.pointer (some ⟨g1415, 0, none⟩), .pointer (some ⟨g1, 0, none⟩)]), (4, .int .i64 0), (5, .int .i64 i_1207), (6, .int .i64 i_1208)] ∧ SH (fun _ => False) w w' [Box g1415 [v1413] 39, Box g1 [.string a1] 9, Box g3 [v_835] 25, Row k_Place 41 v_835 l_836, Mks bs_61]) k_1031 ?_ ?_
              · exact ⟨0, (r1411.length : Int), H, hst.keep _ ⟨rfl, rfl, rfl, rfl, trivial⟩, hsh.pick [0, 0, 0, 0, 0]⟩
              · rintro k_1216 a W_1209 ⟨i_1207, i_1208, H, hst, hsh⟩
                cases k_1216 with
                | zero => rw [version_Asks.l1] at H; cases H
                | succ k_1216 =>
                 rw [version_Asks.l1] at H
                 refine wq_seq ?_
                 refine wq_seq ?_
                 refine wq_region_lit (.inl rfl) ?_
                 refine r_t hst trivial rfl (x_move hst rfl) ?_; intro a hst
                 refine r_t hst trivial rfl (x_move hst rfl) ?_; intro a hst
                 refine r_t hst trivial rfl (x_cmpI (b := decide (i_1207 < i_1208)) hst rfl rfl rfl) ?_; intro a hst
                 refine wpL_nil ?_
                 refine then_normal ?_
                 by_cases c1512 : (decide (i_1207 < i_1208)) = true
                 · rw [if_pos c1512] at H
                   refine wq_condT hst rfl c1512 ?_
                   refine wq_skip ?_
                   refine then_normal ?_
                   refine wq_block ?_
                   refine wq_seq ?_
                   refine wq_region_lit (.inl rfl) ?_
                   refine r_t hst trivial rfl (x_move hst rfl) ?_; intro a hst
                   refine r_t hst trivial rfl (x_move hst rfl) ?_; intro a hst
                   refine r_t hst trivial rfl (x_arI (r := w64 (i_1207 + i_1208)) hst rfl rfl rfl) ?_; intro a hst
                   refine r_t hst trivial rfl (x_convI hst Try.underlying3 Try.underlying88 rfl) ?_; intro a hst
                   refine r_t hst trivial rfl (x_shr hst rfl rfl (by decide) (by decide)) ?_; intro a hst
                   refine r_t hst trivial rfl (x_convI hst Try.underlying88 Try.underlying3 rfl) ?_; intro a hst
                   refine r_t hst trivial rfl (x_assign hst rfl) ?_; intro a hst
                   refine wpL_nil ?_
                   refine then_normal ?_
                   obtain ⟨J_1219, hJ_1219, H⟩ := Jn.elim H
                   refine wq_cut (fun a w' => ∃ (b_1217 : Bool), J_1219 b_1217 = some r ∧ ST [] Try.f49.ntmps a [(1, .func (.func 50) #[] #[.pointer (some ⟨g1415, 0, none⟩), .pointer (some ⟨g1, 0, none⟩)]), (4, .int .i64 0), (5, .int .i64 i_1207), (6, .int .i64 i_1208), (7, .int .i64 (w64 ((wu64 (w64 (i_1207 + i_1208))) / 2 ^ (Int.toNat 1)))), (21, .bool b_1217)] ∧ SH (fun _ => False) w w' [Box g1415 [v1413] 39, Box g1 [.string a1] 9, Box g3 [v_835] 25, Row k_Place 41 v_835 l_836, Mks bs_61]) ?_ ?_
                   · rintro a W_1218 ⟨b_1217, H, hst, hsh⟩
                     subst hJ_1219
                     dsimp only at H
                     by_cases c1515 : b_1217 = true
                     · rw [if_pos c1515] at H
                       refine wq_condT hst rfl c1515 ?_
                       refine wq_region_lit (.inl rfl) ?_
                       refine r_t hst trivial rfl (x_move hst rfl) ?_; intro a hst
                       refine r_t hst trivial rfl (x_arI (r := w64 ((w64 ((wu64 (w64 (i_1207 + i_1208))) / 2 ^ (Int.toNat 1))) + 1)) hst rfl rfl rfl) ?_; intro a hst
                       refine r_t hst trivial rfl (x_assign hst rfl) ?_; intro a hst
                       refine wpL_nil ?_
                       refine block_normal ?_
                       refine then_normal ?_
                       exact ⟨k_1216, Nat.lt_succ_self _, (w64 ((w64 ((wu64 (w64 (i_1207 + i_1208))) / 2 ^ (Int.toNat 1))) + 1)), i_1208, H, hst.keep _ ⟨rfl, rfl, rfl, rfl, trivial⟩, hsh.pick [0, 0, 0, 0, 0]⟩
                     · rw [if_neg c1515] at H
                       replace c1515 := Bool.eq_false_iff.2 c1515
                       refine wq_condF hst rfl c1515 ?_
                       refine wq_region_lit (.inl rfl) ?_
                       refine r_t hst trivial rfl (x_move hst rfl) ?_; intro a hst
                       refine r_t hst trivial rfl (x_assign hst rfl) ?_; intro a hst
                       refine wpL_nil ?_
                       refine block_normal ?_
                       refine then_normal ?_
                       exact ⟨k_1216, Nat.lt_succ_self _, i_1207, (w64 ((wu64 (w64 (i_1207 + i_1208))) / 2 ^ (Int.toNat 1))), H, hst.keep _ ⟨rfl, rfl, rfl, rfl, trivial⟩, hsh.pick [0, 0, 0, 0, 0]⟩
                   · refine wq_region_lit (.inl rfl) ?_
                     refine r_t hst trivial rfl (x_move hst rfl) ?_; intro a hst
                     refine r_t hst trivial rfl (x_move hst rfl) ?_; intro a hst
                     refine r_inlV hst trivial rfl rfl fn_50 rfl ?_
                     refine calls_enter Try.func50 rfl rfl ?_
                     intro a hst
                     refine wq_seq ?_
                     refine wq_region_lit (.inl rfl) ?_
                     refine r_t hst trivial rfl (x_assign hst rfl) ?_; intro a hst
                     refine wpL_nil ?_
                     refine then_normal ?_
                     refine wq_seq ?_
                     refine wq_region_q (.inl rfl) (fun w' => SH (fun _ => False) w w' [Box g1415 [v1413] 39, Box g1 [.string a1] 9, Box g3 [v_835] 25, Row k_Place 41 v_835 l_836, Mks bs_61]) (shut_sh _ _ _) hsh.drew fo (by kernel_rfl) ?_
                     refine q_t hst trivial rfl (fun _ hsh => x_loadB (i := 0) hst hsh sc_39 rfl rfl rfl) ?_; intro a hst
                     refine q_t hst trivial rfl (fun _ hsh => x_move hst rfl) ?_; intro a hst
                     obtain ⟨x1516, hx1516, H⟩ := Option.bind_eq_some_iff.1 H
                     refine q_t hst trivial rfl (fun _ hsh => x_indexAddr hst Try.underlying39 el_43 rfl rfl hv1414 hx1516) ?_; intro a hst
                     refine q_t hst trivial rfl (fun _ hsh => x_fieldAddrE (n' := Int.toNat (w64 ((wu64 (w64 (i_1207 + i_1208))) / 2 ^ (Int.toNat 1))) * k_File.sz + 3) hst fa_43_3 rfl rfl) ?_; intro a hst
                     refine q_t hst trivial rfl (fun _ hsh => x_loadEF (j := 3) (cs := [.int .i64 x1516.Number, .int .i64 x1516.Size, .string x1516.Least, .string x1516.Limit, .int .u64 x1516.Low, .int .u64 x1516.High]) hst sc_9 rfl hv1414 (Same.sh0 hsa0 hsh) hx1516 rfl (fun _ h => h) rfl) ?_; intro a hst
                     refine q_t hst trivial rfl (fun _ hsh => x_loadB (i := 1) hst hsh sc_9 rfl rfl rfl) ?_; intro a hst
                     refine q_t hst trivial rfl (fun _ hsh => x_cmpS (b := (!(sLt x1516.Limit a1 || sEq x1516.Limit a1))) hst rfl rfl rfl) ?_; intro a hst
                     refine q_t hst trivial rfl (fun _ hsh => x_assign hst rfl) ?_; intro a hst
                     refine q_nil ?_
                     intro w1517 hsh
                     refine then_normal ?_
                     refine wq_ret ?_
                     refine ret1 hst rfl rfl ?_
                     refine ⟨_, rfl, fun a hst => ?_⟩
                     refine r_t hst trivial rfl (x_notB hst rfl) ?_; intro a hst
                     refine wpL_nil ?_
                     refine then_normal ?_
                     exact ⟨(!(!(sLt x1516.Limit a1 || sEq x1516.Limit a1))), H, hst.keep _ ⟨rfl, rfl, rfl, rfl, rfl, rfl, trivial⟩, hsh.pick [0, 0, 0, 0, 0]⟩
                 · rw [if_neg c1512] at H
                   replace c1512 := Bool.eq_false_iff.2 c1512
                   refine wq_condF hst rfl c1512 ?_
                   refine wq_exit ?_
                   refine then_exit ?_
                   refine then_exit ?_
                   refine block_hit ?_
                   refine then_normal ?_
                   exact ⟨i_1207, H, hst.keep _ ⟨rfl, rfl, trivial⟩, hsh.pick [1, 1, 1, 0, 0]⟩
      · rw [if_neg c1303] at H
        replace c1303 := Bool.eq_false_iff.2 c1303
        refine wq_condF hst rfl c1303 ?_
        refine wq_exit ?_
        refine then_exit ?_
        refine then_exit ?_
        refine block_hit ?_
        refine then_normal ?_
        refine wq_seq ?_
        refine wq_region_lit (.inl rfl) ?_
        refine r_t hst trivial rfl (x_loadB (i := 1) hst hsh sc_25 rfl rfl rfl) ?_; intro a hst
        refine r_t hst trivial rfl (x_assign hst rfl) ?_; intro a hst
        refine wpL_nil ?_
        refine then_normal ?_
        refine wq_ret ?_
        refine retM (.inl rfl) hst hsh 3 rfl ?_; intro a w hst hsh
        obtain rfl := Option.some.inj H
        exact ret1 hst rfl rfl ⟨v_835, rfl, hsh.pick [2]⟩
 · refine wq_seq ?_
   refine wq_region_lit (.inl rfl) ?_
   refine r_t hst trivial rfl (x_move hst rfl) ?_; intro a hst
   obtain ⟨r1524, hr1524, H⟩ := Option.bind_eq_some_iff.1 H
   refine r_callD hst trivial rfl fn_46 rfl (version_of.calls k _ _ _ _ (Same.sh0 hsa0 hsh) _ hra0 0 r1524 hr1524) ?_
   rintro e w1525 ⟨v1526, rfl, hc, hv1527⟩
   replace hsh := hsh.call0 hc
   clear hc
   refine ⟨_, rfl, fun a hst => ?_⟩
   refine r_inl hst trivial rfl fn_48 rfl ?_
   refine calls_enter Try.func48 rfl rfl ?_
   intro a hst
   refine wq_seq ?_
   refine wq_region_lit (.inl rfl) ?_
   refine r_box hst hsh trivial rfl rfl (cells_slen hv1527.slen) ?_
   intro g1528 a w1529 hgg1528 hsh hst
   refine r_t hst trivial rfl (x_assign hst rfl) ?_; intro a hst
   refine wpL_nil ?_
   refine then_normal ?_
   refine wq_seq ?_
   refine wq_region_lit (.inl rfl) ?_
   refine r_t hst trivial rfl (x_makeFunc hst rfl) ?_; intro a hst
   refine r_t hst trivial rfl (x_assign hst rfl) ?_; intro a hst
   refine wpL_nil ?_
   refine then_normal ?_
   refine wq_ret ?_
   refine ret1 hst rfl rfl ?_
   refine ⟨_, rfl, fun a hst => ?_⟩
   refine wpL_nil ?_
   refine then_normal ?_
   refine wq_block ?_
   replace hsh := hsh.pick [3, 0, 0, 0]
   refine wq_rangeFunc hst hsh rfl fn_64 ?_
   intro l1530 g1531 r1532 w1533 hpr1532 har1532 hbr1532 htr1532 hsh
   refine calls_enter Try.func64 rfl rfl ?_
   intro a hst
   refine wq_seq ?_
   refine wq_region_lit (.inl rfl) ?_
   refine r_t hst trivial rfl (x_loadB (i := 2) hst hsh sc_39 rfl rfl rfl) ?_; intro a hst
   refine r_t hst trivial rfl (x_lenSl hst Try.underlying39 rfl hv1527.slen) ?_; intro a hst
   refine r_t hst trivial rfl (x_arI (r := w64 ((r1524.length : Int) - 1)) hst rfl rfl rfl) ?_; intro a hst
   refine r_t hst trivial rfl (x_assign hst rfl) ?_; intro a hst
   refine wpL_nil ?_
   refine then_normal ?_
   refine wq_block ?_
   have hsh := hsh.addNil k_Place 41
   refine wq_loop_fuel (fun k_1263 a w' => ∃ (i_1241 : Int), ∃ (v_1243 : Value), ∃ (l_1244 : (List Place)), version_Asks.l2 a1 J_63 r1524 k_1263 i_1241 l_1244 = some r ∧ ST [] Try.f64.ntmps a [(0, .func (.yield l1530) #[] #[]), (1, .pointer (some ⟨g1528, 0, none⟩)), (3, .int .i64 i_1241)] ∧ SH (fun _ => False) w w' [Box g1528 [v1526] 39, Box g1 [.string a1] 9, Box g3 [v_1243] 25, Row k_Place 41 v_1243 l_1244, Blk l1530 (.loop (lrec r1532 .ready none)), Mks (g1531 :: [])]) k ?_ ?_
   · exact ⟨(w64 ((r1524.length : Int) - 1)), (.slice none 0 0), ([]), H, hst.keep _ ⟨rfl, rfl, rfl, trivial⟩, hsh.pick [3, 4, 3, 0, 0, 0]⟩
   · rintro k_1263 a W_1245 ⟨i_1241, v_1243, l_1244, H, hst, hsh⟩
     cases k_1263 with
     | zero => rw [version_Asks.l2] at H; cases H
     | succ k_1263 =>
      rw [version_Asks.l2] at H
      refine wq_seq ?_
      refine wq_seq ?_
      refine wq_region_lit (.inl rfl) ?_
      refine r_t hst trivial rfl (x_move hst rfl) ?_; intro a hst
      refine r_t hst trivial rfl (x_cmpI (b := decide (0 ≤ i_1241)) hst rfl rfl rfl) ?_; intro a hst
      refine wpL_nil ?_
      refine then_normal ?_
      by_cases c1669 : (decide (0 ≤ i_1241)) = true
      · rw [if_pos c1669] at H
        refine wq_condT hst rfl c1669 ?_
        refine wq_skip ?_
        refine then_normal ?_
        obtain ⟨J_1271, hJ_1271, H⟩ := Jn.elim H
        refine wq_cut (fun a w' => ∃ (v_1268 : Value), ∃ (l_1269 : (List Place)), J_1271 l_1269 = some r ∧ ST [] Try.f64.ntmps a [(0, .func (.yield l1530) #[] #[]), (1, .pointer (some ⟨g1528, 0, none⟩)), (3, .int .i64 i_1241)] ∧ SH (fun _ => False) w w' [Box g1528 [v1526] 39, Box g1 [.string a1] 9, Box g3 [v_1268] 25, Row k_Place 41 v_1268 l_1269, Blk l1530 (.loop (lrec r1532 .ready none)), Mks (g1531 :: [])]) ?_ ?_
        · rintro a W_1270 ⟨v_1268, l_1269, H, hst, hsh⟩
          subst hJ_1271
          dsimp only at H
          refine wq_region_lit (.inl rfl) ?_
          refine r_t hst trivial rfl (x_move hst rfl) ?_; intro a hst
          refine r_t hst trivial rfl (x_arI (r := w64 (i_1241 - 1)) hst rfl rfl rfl) ?_; intro a hst
          refine r_t hst trivial rfl (x_assign hst rfl) ?_; intro a hst
          refine wpL_nil ?_
          refine then_normal ?_
          exact ⟨k_1263, Nat.lt_succ_self _, (w64 (i_1241 - 1)), v_1268, l_1269, H, hst.keep _ ⟨rfl, rfl, rfl, trivial⟩, hsh.pick [0, 0, 0, 0, 0, 0]⟩
        · refine wq_block ?_
          obtain ⟨J_1275, hJ_1275, H⟩ := Jn.elim H
          refine wq_cut (fun a w' => ∃ (v_1272 : Value), ∃ (l_1273 : (List Place)), J_1275 l_1273 = some r ∧ ST [] Try.f64.ntmps a [(0, .func (.yield l1530) #[] #[]), (1, .pointer (some ⟨g1528, 0, none⟩)), (3, .int .i64 i_1241), (18, .bool (!true))] ∧ SH (fun _ => False) w w' [Box g1528 [v1526] 39, Box g1 [.string a1] 9, Box g3 [v_1272] 25, Row k_Place 41 v_1272 l_1273, Blk l1530 (.loop (lrec r1532 .ready none)), Mks (g1531 :: [])]) ?_ ?_
          · rintro a W_1274 ⟨v_1272, l_1273, H, hst, hsh⟩
            subst hJ_1275
            dsimp only at H
            by_cases c1716 : (!true) = true
            · rw [if_pos c1716] at H
              refine wq_condT hst rfl c1716 ?_
              refine wq_ret ?_
              refine block_ret ?_
              refine then_ret ?_
              refine then_ret ?_
              refine block_ret ?_
              refine ret0 hst rfl ?_
              refine ⟨_, rfl, loop_end hsh 4 rfl (by decide) ?_⟩
              intro w1717 hsh a hst
              dsimp only
              refine block_normal ?_
              refine then_normal ?_
              exact ⟨v_1272, l_1273, (g1531 :: []), H, hst.keep _ ⟨rfl, rfl, rfl, rfl, trivial⟩, hsh.pick [1, 1, 1, 1]⟩
            · rw [if_neg c1716] at H
              replace c1716 := Bool.eq_false_iff.2 c1716
              refine wq_condF hst rfl c1716 ?_
              refine wq_skip ?_
              refine block_normal ?_
              refine then_normal ?_
              exact ⟨v_1272, l_1273, H, hst.keep _ ⟨rfl, rfl, rfl, trivial⟩, hsh.pick [0, 0, 0, 0, 0, 0]⟩
          · refine wq_region_lit (.inl rfl) ?_
            refine r_t hst trivial rfl (x_move hst rfl) ?_; intro a hst
            refine r_t hst trivial rfl (x_move hst rfl) ?_; intro a hst
            refine r_t hst trivial rfl (x_loadB (i := 0) hst hsh sc_39 rfl rfl rfl) ?_; intro a hst
            refine r_t hst trivial rfl (x_move hst rfl) ?_; intro a hst
            obtain ⟨x1718, hx1718, H⟩ := Option.bind_eq_some_iff.1 H
            refine r_t hst trivial rfl (x_indexAddr hst Try.underlying39 el_43 rfl rfl hv1527 hx1718) ?_; intro a hst
            refine r_t hst trivial rfl (x_loadEsF (j := 0) (cs := [.int .i64 x1718.Number, .int .i64 x1718.Size, .string x1718.Least, .string x1718.Limit, .int .u64 x1718.Low, .int .u64 x1718.High]) (ps := [.int .i64 x1718.Number, .int .i64 x1718.Size, .string x1718.Least, .string x1718.Limit, .int .u64 x1718.Low, .int .u64 x1718.High]) hst ag_43 rfl hv1527 (Same.sh0 hsa0 hsh) hx1718 rfl (fun _ h => h) rfl) ?_; intro a hst
            refine r_yield hst trivial rfl hsh hpr1532 har1532 hbr1532 htr1532 rfl rfl 4 rfl rfl ?_
            intro a hst
            refine wq_region_lit (.inr (by kernel_rfl)) ?_
            refine r_alloc hst hsh trivial rfl zr_43 ?_
            intro g1719 a w1720 hgg1719 hsh hst
            refine r_storeBs (i := 0) (cs' := [.int .i64 x1718.Number, .int .i64 x1718.Size, .string x1718.Least, .string x1718.Limit, .int .u64 x1718.Low, .int .u64 x1718.High]) (vs := [.int .i64 x1718.Number, .int .i64 x1718.Size, .string x1718.Least, .string x1718.Limit, .int .u64 x1718.Low, .int .u64 x1718.High]) hst hsh trivial ag_43 rfl rfl rfl rfl rfl rfl ?_; intro a w1721 hsh hst
            refine wpL_nil ?_
            refine then_normal ?_
            refine round_begin hsh 5 rfl ?_
            intro w1722 hsh
            refine wq_block ?_
            refine wq_seq ?_
            refine wq_region_lit (.inr (by kernel_rfl)) ?_
            refine r_t hst trivial rfl (x_fieldAddr (j' := 2) hst fa_43_2 rfl rfl) ?_; intro a hst
            refine r_t hst trivial rfl (x_loadB (i := 1) hst hsh sc_9 rfl rfl rfl) ?_; intro a hst
            refine r_t hst trivial rfl (x_loadB (i := 3) hst hsh sc_9 rfl rfl rfl) ?_; intro a hst
            refine r_t hst trivial rfl (x_cmpS (b := (sLt x1718.Least a1 || sEq x1718.Least a1)) hst rfl rfl rfl) ?_; intro a hst
            refine r_t hst trivial rfl (x_move hst rfl) ?_; intro a hst
            refine wl_join0 (Δ := []) (N := Try.f19.ntmps) 10 [(5, .pointer (some ⟨g3, 0, none⟩)), (7, .pointer (some ⟨g1719, 0, none⟩)), (25, .bool ((sLt x1718.Least a1 || sEq x1718.Least a1) && (sLt a1 x1718.Limit)))] ?_ ?_
            · intro a hst
              refine wpL_nil ?_
              refine then_normal ?_
              by_cases c1724 : ((sLt x1718.Least a1 || sEq x1718.Least a1) && (sLt a1 x1718.Limit)) = true
              · rw [if_pos c1724] at H
                refine wq_condT hst rfl c1724 ?_
                refine wq_region_lit (.inr (by kernel_rfl)) ?_
                refine r_t hst trivial rfl (x_loadB (i := 4) hst hsh sc_25 rfl rfl rfl) ?_; intro a hst
                refine r_t hst trivial rfl (x_fieldAddr (j' := 0) hst fa_43_0 rfl rfl) ?_; intro a hst
                refine r_t hst trivial rfl (x_loadB (i := 1) hst hsh sc_3 rfl rfl rfl) ?_; intro a hst
                refine r_t hst trivial rfl (x_build (cs := [.int .i64 0, .int .i64 x1718.Number]) hst rfl (by kernel_rfl)) ?_; intro a hst
                refine r_buildSlice (vs := [.agg #[.int .i64 0, .int .i64 x1718.Number]]) (cs := [.int .i64 0, .int .i64 x1718.Number]) hst hsh trivial rfl Try.underlying25 el_41 rfl rfl (by simp [Value.cells]) rfl rfl ?_
                intro g1725 a w1726 hgg1725 hsh hst
                replace hsh := hsh.pick [6, 0, 0, 0, 0, 0, 0, 0]
                obtain ⟨l1727, hl1727, H⟩ := Option.bind_eq_some_iff.1 H
                refine r_append1 (xx := (⟨0, x1718.Number⟩ : Place)) (C := []) (M := [Blk l1530 (.loop (lrec r1532 .busy none)), Box g1719 [.int .i64 x1718.Number, .int .i64 x1718.Size, .string x1718.Least, .string x1718.Limit, .int .u64 x1718.Low, .int .u64 x1718.High] 43, Box g1528 [v1526] 39, Box g1 [.string a1] 9, Box g3 [v_1243] 25, Mks (g1531 :: [])]) hst hsh trivial rfl Try.underlying25 el_41 (by decide) (by decide) (by decide) rfl rfl (fun _ _ _ => rfl) hl1727 ?_
                intro v1728 a w1729 hsh hst
                refine r_storeB (i := 5) (cs' := [v1728]) hst hsh trivial sc_25 rfl rfl rfl rfl (one_slice (hsh.row 0 rfl).slen) rfl ?_; intro a w1730 hsh hst
                refine wpL_nil ?_
                refine block_normal ?_
                refine round_end hsh 2 rfl ?_
                intro w1731 hsh
                refine ⟨_, rfl, fun a hst => ?_⟩
                refine r_t hst trivial rfl (x_notB hst rfl) ?_; intro a hst
                refine wpL_nil ?_
                refine then_normal ?_
                exact ⟨v1728, l1727, H, hst.keep _ ⟨rfl, rfl, rfl, rfl, trivial⟩, hsh.pick [4, 4, 1, 1, 0, 1]⟩
              · rw [if_neg c1724] at H
                replace c1724 := Bool.eq_false_iff.2 c1724
                refine wq_condF hst rfl c1724 ?_
                refine wq_skip ?_
                refine block_normal ?_
                refine round_end hsh 0 rfl ?_
                intro w1732 hsh
                refine ⟨_, rfl, fun a hst => ?_⟩
                refine r_t hst trivial rfl (x_notB hst rfl) ?_; intro a hst
                refine wpL_nil ?_
                refine then_normal ?_
                exact ⟨v_1243, l_1244, H, hst.keep _ ⟨rfl, rfl, rfl, rfl, trivial⟩, hsh.pick [2, 2, 2, 2, 0, 1]⟩
            · intro hj
              by_cases c1723 : (sLt x1718.Least a1 || sEq x1718.Least a1) = true
              · refine r_t hst (wt_of 20 rfl rfl c1723) rfl (x_loadB (i := 3) hst hsh sc_9 rfl rfl rfl) ?_; intro a hst
                refine r_t hst (wt_of 20 rfl rfl c1723) rfl (x_fieldAddr (j' := 3) hst fa_43_3 rfl rfl) ?_; intro a hst
                refine r_t hst (wt_of 20 rfl rfl c1723) rfl (x_loadB (i := 1) hst hsh sc_9 rfl rfl rfl) ?_; intro a hst
                refine r_t hst (wt_of 20 rfl rfl c1723) rfl (x_cmpS (b := sLt a1 x1718.Limit) hst rfl rfl rfl) ?_; intro a hst
                refine r_t hst trivial rfl (x_andT hst rfl c1723 rfl) ?_; intro a hst
                exact hj _ (hst.keep _ ⟨rfl, rfl, rfl, trivial⟩)
              · replace c1723 := Bool.eq_false_iff.2 c1723
                refine r_not hst 20 rfl rfl c1723 rfl ?_; intro a hst
                refine r_not hst 20 rfl rfl c1723 rfl ?_; intro a hst
                refine r_not hst 20 rfl rfl c1723 rfl ?_; intro a hst
                refine r_not hst 20 rfl rfl c1723 rfl ?_; intro a hst
                refine r_t hst trivial rfl (x_andF (sLt a1 x1718.Limit) hst rfl c1723 rfl) ?_; intro a hst
                exact hj _ (hst.keep _ ⟨rfl, rfl, rfl, trivial⟩)
      · rw [if_neg c1669] at H
        replace c1669 := Bool.eq_false_iff.2 c1669
        refine wq_condF hst rfl c1669 ?_
        refine wq_exit ?_
        refine then_exit ?_
        refine then_exit ?_
        refine block_hit ?_
        refine end0 hst rfl ?_
        refine ⟨_, rfl, loop_end hsh 4 rfl (by decide) ?_⟩
        intro w1733 hsh a hst
        dsimp only
        refine block_normal ?_
        refine then_normal ?_
        exact ⟨v_1243, l_1244, (g1531 :: []), H, hst.keep _ ⟨rfl, rfl, rfl, rfl, trivial⟩, hsh.pick [1, 1, 1, 1]⟩

set_option maxHeartbeats 4000000 in
set_option maxRecDepth 100000 in
theorem r16_May.calls (w : World) (a0 : File) (r : Bool) (h : r16_May a0 = some r) :
    Calls Try.prog 38 ([.agg #[.int .i64 a0.Number, .int .i64 a0.Size, .string a0.Least, .string a0.Limit, .int .u64 a0.Low, .int .u64 a0.High]] : List Value).toArray w fun e w' => e = .returned (.bool r) ∧ SH (fun _ => False) w w' [] := by
 have H := h
 clear h
 unfold r16_May at H
 refine calls_enter Try.func38 rfl rfl ?_
 intro a hst
 have hsh := SH.zero (fun _ => False) w
 refine wq_seq ?_
 refine wq_region_lit (.inl rfl) ?_
 refine r_box hst hsh trivial rfl rfl rfl ?_
 intro g1 a w2 hgg1 hsh hst
 refine r_t hst trivial rfl (x_assign hst rfl) ?_; intro a hst
 refine wpL_nil ?_
 refine then_normal ?_
 refine wq_seq ?_
 refine wq_region_lit (.inl rfl) ?_
 refine r_t hst trivial rfl (x_fieldAddr (j' := 0) hst fa_43_0 rfl rfl) ?_; intro a hst
 refine r_t hst trivial rfl (x_loadB (i := 0) hst hsh sc_3 rfl rfl rfl) ?_; intro a hst
 refine r_t hst trivial rfl (x_cmpI (b := decide (1 ≤ a0.Number)) hst rfl rfl rfl) ?_; intro a hst
 refine r_t hst trivial rfl (x_move hst rfl) ?_; intro a hst
 refine wl_join0 (Δ := []) (N := Try.f38.ntmps) 8 [(1, .pointer (some ⟨g1, 0, none⟩)), (2, .bool false), (10, .bool ((decide (1 ≤ a0.Number)) && (decide (a0.Number ≤ 2147483647))))] ?_ ?_
 · intro a hst
   refine r_t hst trivial rfl (x_move hst rfl) ?_; intro a hst
   refine wl_join0 (Δ := []) (N := Try.f38.ntmps) 13 [(1, .pointer (some ⟨g1, 0, none⟩)), (2, .bool false), (15, .bool (((decide (1 ≤ a0.Number)) && (decide (a0.Number ≤ 2147483647))) && (decide (1 ≤ a0.Size))))] ?_ ?_
   · intro a hst
     refine r_t hst trivial rfl (x_move hst rfl) ?_; intro a hst
     refine wl_join0 (Δ := []) (N := Try.f38.ntmps) 18 [(1, .pointer (some ⟨g1, 0, none⟩)), (2, .bool false), (20, .bool ((((decide (1 ≤ a0.Number)) && (decide (a0.Number ≤ 2147483647))) && (decide (1 ≤ a0.Size))) && (decide (a0.Size ≤ 268435456))))] ?_ ?_
     · intro a hst
       refine r_t hst trivial rfl (x_move hst rfl) ?_; intro a hst
       refine wl_join0 (Δ := []) (N := Try.f38.ntmps) 24 [(1, .pointer (some ⟨g1, 0, none⟩)), (2, .bool false), (26, .bool (((((decide (1 ≤ a0.Number)) && (decide (a0.Number ≤ 2147483647))) && (decide (1 ≤ a0.Size))) && (decide (a0.Size ≤ 268435456))) && (decide (1 ≤ (a0.Least.size : Int)))))] ?_ ?_
       · intro a hst
         refine r_t hst trivial rfl (x_move hst rfl) ?_; intro a hst
         refine wl_join0 (Δ := []) (N := Try.f38.ntmps) 30 [(1, .pointer (some ⟨g1, 0, none⟩)), (2, .bool false), (32, .bool ((((((decide (1 ≤ a0.Number)) && (decide (a0.Number ≤ 2147483647))) && (decide (1 ≤ a0.Size))) && (decide (a0.Size ≤ 268435456))) && (decide (1 ≤ (a0.Least.size : Int)))) && (decide ((a0.Least.size : Int) ≤ 1024))))] ?_ ?_
         · intro a hst
           refine r_t hst trivial rfl (x_move hst rfl) ?_; intro a hst
           refine wl_join0 (Δ := []) (N := Try.f38.ntmps) 36 [(1, .pointer (some ⟨g1, 0, none⟩)), (2, .bool false), (38, .bool (((((((decide (1 ≤ a0.Number)) && (decide (a0.Number ≤ 2147483647))) && (decide (1 ≤ a0.Size))) && (decide (a0.Size ≤ 268435456))) && (decide (1 ≤ (a0.Least.size : Int)))) && (decide ((a0.Least.size : Int) ≤ 1024))) && (decide ((a0.Limit.size : Int) ≤ 1025))))] ?_ ?_
           · intro a hst
             refine r_t hst trivial rfl (x_move hst rfl) ?_; intro a hst
             refine wl_join0 (Δ := []) (N := Try.f38.ntmps) 43 [(1, .pointer (some ⟨g1, 0, none⟩)), (2, .bool false), (45, .bool ((((((((decide (1 ≤ a0.Number)) && (decide (a0.Number ≤ 2147483647))) && (decide (1 ≤ a0.Size))) && (decide (a0.Size ≤ 268435456))) && (decide (1 ≤ (a0.Least.size : Int)))) && (decide ((a0.Least.size : Int) ≤ 1024))) && (decide ((a0.Limit.size : Int) ≤ 1025))) && (sLt a0.Least a0.Limit)))] ?_ ?_
             · intro a hst
               refine r_t hst trivial rfl (x_move hst rfl) ?_; intro a hst
               refine wl_join0 (Δ := []) (N := Try.f38.ntmps) 48 [(1, .pointer (some ⟨g1, 0, none⟩)), (2, .bool false), (50, .bool (((((((((decide (1 ≤ a0.Number)) && (decide (a0.Number ≤ 2147483647))) && (decide (1 ≤ a0.Size))) && (decide (a0.Size ≤ 268435456))) && (decide (1 ≤ (a0.Least.size : Int)))) && (decide ((a0.Least.size : Int) ≤ 1024))) && (decide ((a0.Limit.size : Int) ≤ 1025))) && (sLt a0.Least a0.Limit)) && (decide (1 ≤ a0.Low))))] ?_ ?_
               · intro a hst
                 refine r_t hst trivial rfl (x_move hst rfl) ?_; intro a hst
                 refine wl_join0 (Δ := []) (N := Try.f38.ntmps) 55 [(1, .pointer (some ⟨g1, 0, none⟩)), (2, .bool false), (57, .bool ((((((((((decide (1 ≤ a0.Number)) && (decide (a0.Number ≤ 2147483647))) && (decide (1 ≤ a0.Size))) && (decide (a0.Size ≤ 268435456))) && (decide (1 ≤ (a0.Least.size : Int)))) && (decide ((a0.Least.size : Int) ≤ 1024))) && (decide ((a0.Limit.size : Int) ≤ 1025))) && (sLt a0.Least a0.Limit)) && (decide (1 ≤ a0.Low))) && (decide (a0.Low ≤ a0.High))))] ?_ ?_
                 · intro a hst
                   refine r_t hst trivial rfl (x_move hst rfl) ?_; intro a hst
                   refine wl_join0 (Δ := []) (N := Try.f38.ntmps) 60 [(2, .bool false), (62, .bool (((((((((((decide (1 ≤ a0.Number)) && (decide (a0.Number ≤ 2147483647))) && (decide (1 ≤ a0.Size))) && (decide (a0.Size ≤ 268435456))) && (decide (1 ≤ (a0.Least.size : Int)))) && (decide ((a0.Least.size : Int) ≤ 1024))) && (decide ((a0.Limit.size : Int) ≤ 1025))) && (sLt a0.Least a0.Limit)) && (decide (1 ≤ a0.Low))) && (decide (a0.Low ≤ a0.High))) && (decide (a0.High ≤ 72057594037927935))))] ?_ ?_
                   · intro a hst
                     refine r_t hst trivial rfl (x_assign hst rfl) ?_; intro a hst
                     refine wpL_nil ?_
                     refine then_normal ?_
                     refine wq_ret ?_
                     obtain rfl := Option.some.inj H
                     exact ret1 hst rfl rfl ⟨rfl, hsh.pick []⟩
                   · intro hj
                     by_cases c12 : ((((((((((decide (1 ≤ a0.Number)) && (decide (a0.Number ≤ 2147483647))) && (decide (1 ≤ a0.Size))) && (decide (a0.Size ≤ 268435456))) && (decide (1 ≤ (a0.Least.size : Int)))) && (decide ((a0.Least.size : Int) ≤ 1024))) && (decide ((a0.Limit.size : Int) ≤ 1025))) && (sLt a0.Least a0.Limit)) && (decide (1 ≤ a0.Low))) && (decide (a0.Low ≤ a0.High))) = true
                     · refine r_t hst (wt_of 58 rfl rfl c12) rfl (x_fieldAddr (j' := 5) hst fa_43_5 rfl rfl) ?_; intro a hst
                       refine r_t hst (wt_of 58 rfl rfl c12) rfl (x_loadB (i := 0) hst hsh sc_24 rfl rfl rfl) ?_; intro a hst
                       refine r_t hst (wt_of 58 rfl rfl c12) rfl (x_cmpI (b := decide (a0.High ≤ 72057594037927935)) hst rfl rfl rfl) ?_; intro a hst
                       refine r_t hst trivial rfl (x_andT hst rfl c12 rfl) ?_; intro a hst
                       exact hj _ (hst.keep _ ⟨rfl, rfl, trivial⟩)
                     · replace c12 := Bool.eq_false_iff.2 c12
                       refine r_not hst 58 rfl rfl c12 rfl ?_; intro a hst
                       refine r_not hst 58 rfl rfl c12 rfl ?_; intro a hst
                       refine r_not hst 58 rfl rfl c12 rfl ?_; intro a hst
                       refine r_t hst trivial rfl (x_andF (decide (a0.High ≤ 72057594037927935)) hst rfl c12 rfl) ?_; intro a hst
                       exact hj _ (hst.keep _ ⟨rfl, rfl, trivial⟩)
                 · intro hj
                   by_cases c11 : (((((((((decide (1 ≤ a0.Number)) && (decide (a0.Number ≤ 2147483647))) && (decide (1 ≤ a0.Size))) && (decide (a0.Size ≤ 268435456))) && (decide (1 ≤ (a0.Least.size : Int)))) && (decide ((a0.Least.size : Int) ≤ 1024))) && (decide ((a0.Limit.size : Int) ≤ 1025))) && (sLt a0.Least a0.Limit)) && (decide (1 ≤ a0.Low))) = true
                   · refine r_t hst (wt_of 51 rfl rfl c11) rfl (x_fieldAddr (j' := 4) hst fa_43_4 rfl rfl) ?_; intro a hst
                     refine r_t hst (wt_of 51 rfl rfl c11) rfl (x_loadB (i := 0) hst hsh sc_24 rfl rfl rfl) ?_; intro a hst
                     refine r_t hst (wt_of 51 rfl rfl c11) rfl (x_fieldAddr (j' := 5) hst fa_43_5 rfl rfl) ?_; intro a hst
                     refine r_t hst (wt_of 51 rfl rfl c11) rfl (x_loadB (i := 0) hst hsh sc_24 rfl rfl rfl) ?_; intro a hst
                     refine r_t hst (wt_of 51 rfl rfl c11) rfl (x_cmpI (b := decide (a0.Low ≤ a0.High)) hst rfl rfl rfl) ?_; intro a hst
                     refine r_t hst trivial rfl (x_andT hst rfl c11 rfl) ?_; intro a hst
                     exact hj _ (hst.keep _ ⟨rfl, rfl, rfl, trivial⟩)
                   · replace c11 := Bool.eq_false_iff.2 c11
                     refine r_not hst 51 rfl rfl c11 rfl ?_; intro a hst
                     refine r_not hst 51 rfl rfl c11 rfl ?_; intro a hst
                     refine r_not hst 51 rfl rfl c11 rfl ?_; intro a hst
                     refine r_not hst 51 rfl rfl c11 rfl ?_; intro a hst
                     refine r_not hst 51 rfl rfl c11 rfl ?_; intro a hst
                     refine r_t hst trivial rfl (x_andF (decide (a0.Low ≤ a0.High)) hst rfl c11 rfl) ?_; intro a hst
                     exact hj _ (hst.keep _ ⟨rfl, rfl, rfl, trivial⟩)
               · intro hj
                 by_cases c10 : ((((((((decide (1 ≤ a0.Number)) && (decide (a0.Number ≤ 2147483647))) && (decide (1 ≤ a0.Size))) && (decide (a0.Size ≤ 268435456))) && (decide (1 ≤ (a0.Least.size : Int)))) && (decide ((a0.Least.size : Int) ≤ 1024))) && (decide ((a0.Limit.size : Int) ≤ 1025))) && (sLt a0.Least a0.Limit)) = true
                 · refine r_t hst (wt_of 46 rfl rfl c10) rfl (x_fieldAddr (j' := 4) hst fa_43_4 rfl rfl) ?_; intro a hst
                   refine r_t hst (wt_of 46 rfl rfl c10) rfl (x_loadB (i := 0) hst hsh sc_24 rfl rfl rfl) ?_; intro a hst
                   refine r_t hst (wt_of 46 rfl rfl c10) rfl (x_cmpI (b := decide (1 ≤ a0.Low)) hst rfl rfl rfl) ?_; intro a hst
                   refine r_t hst trivial rfl (x_andT hst rfl c10 rfl) ?_; intro a hst
                   exact hj _ (hst.keep _ ⟨rfl, rfl, rfl, trivial⟩)
                 · replace c10 := Bool.eq_false_iff.2 c10
                   refine r_not hst 46 rfl rfl c10 rfl ?_; intro a hst
                   refine r_not hst 46 rfl rfl c10 rfl ?_; intro a hst
                   refine r_not hst 46 rfl rfl c10 rfl ?_; intro a hst
                   refine r_t hst trivial rfl (x_andF (decide (1 ≤ a0.Low)) hst rfl c10 rfl) ?_; intro a hst
                   exact hj _ (hst.keep _ ⟨rfl, rfl, rfl, trivial⟩)
             · intro hj
               by_cases c9 : (((((((decide (1 ≤ a0.Number)) && (decide (a0.Number ≤ 2147483647))) && (decide (1 ≤ a0.Size))) && (decide (a0.Size ≤ 268435456))) && (decide (1 ≤ (a0.Least.size : Int)))) && (decide ((a0.Least.size : Int) ≤ 1024))) && (decide ((a0.Limit.size : Int) ≤ 1025))) = true
               · refine r_t hst (wt_of 39 rfl rfl c9) rfl (x_fieldAddr (j' := 2) hst fa_43_2 rfl rfl) ?_; intro a hst
                 refine r_t hst (wt_of 39 rfl rfl c9) rfl (x_loadB (i := 0) hst hsh sc_9 rfl rfl rfl) ?_; intro a hst
                 refine r_t hst (wt_of 39 rfl rfl c9) rfl (x_fieldAddr (j' := 3) hst fa_43_3 rfl rfl) ?_; intro a hst
                 refine r_t hst (wt_of 39 rfl rfl c9) rfl (x_loadB (i := 0) hst hsh sc_9 rfl rfl rfl) ?_; intro a hst
                 refine r_t hst (wt_of 39 rfl rfl c9) rfl (x_cmpS (b := sLt a0.Least a0.Limit) hst rfl rfl rfl) ?_; intro a hst
                 refine r_t hst trivial rfl (x_andT hst rfl c9 rfl) ?_; intro a hst
                 exact hj _ (hst.keep _ ⟨rfl, rfl, rfl, trivial⟩)
               · replace c9 := Bool.eq_false_iff.2 c9
                 refine r_not hst 39 rfl rfl c9 rfl ?_; intro a hst
                 refine r_not hst 39 rfl rfl c9 rfl ?_; intro a hst
                 refine r_not hst 39 rfl rfl c9 rfl ?_; intro a hst
                 refine r_not hst 39 rfl rfl c9 rfl ?_; intro a hst
                 refine r_not hst 39 rfl rfl c9 rfl ?_; intro a hst
                 refine r_t hst trivial rfl (x_andF (sLt a0.Least a0.Limit) hst rfl c9 rfl) ?_; intro a hst
                 exact hj _ (hst.keep _ ⟨rfl, rfl, rfl, trivial⟩)
           · intro hj
             by_cases c8 : ((((((decide (1 ≤ a0.Number)) && (decide (a0.Number ≤ 2147483647))) && (decide (1 ≤ a0.Size))) && (decide (a0.Size ≤ 268435456))) && (decide (1 ≤ (a0.Least.size : Int)))) && (decide ((a0.Least.size : Int) ≤ 1024))) = true
             · refine r_t hst (wt_of 33 rfl rfl c8) rfl (x_fieldAddr (j' := 3) hst fa_43_3 rfl rfl) ?_; intro a hst
               refine r_t hst (wt_of 33 rfl rfl c8) rfl (x_loadB (i := 0) hst hsh sc_9 rfl rfl rfl) ?_; intro a hst
               refine r_t hst (wt_of 33 rfl rfl c8) rfl (x_lenStr hst Try.underlying9 rfl) ?_; intro a hst
               refine r_t hst (wt_of 33 rfl rfl c8) rfl (x_cmpI (b := decide ((a0.Limit.size : Int) ≤ 1025)) hst rfl rfl rfl) ?_; intro a hst
               refine r_t hst trivial rfl (x_andT hst rfl c8 rfl) ?_; intro a hst
               exact hj _ (hst.keep _ ⟨rfl, rfl, rfl, trivial⟩)
             · replace c8 := Bool.eq_false_iff.2 c8
               refine r_not hst 33 rfl rfl c8 rfl ?_; intro a hst
               refine r_not hst 33 rfl rfl c8 rfl ?_; intro a hst
               refine r_not hst 33 rfl rfl c8 rfl ?_; intro a hst
               refine r_not hst 33 rfl rfl c8 rfl ?_; intro a hst
               refine r_t hst trivial rfl (x_andF (decide ((a0.Limit.size : Int) ≤ 1025)) hst rfl c8 rfl) ?_; intro a hst
               exact hj _ (hst.keep _ ⟨rfl, rfl, rfl, trivial⟩)
         · intro hj
           by_cases c7 : (((((decide (1 ≤ a0.Number)) && (decide (a0.Number ≤ 2147483647))) && (decide (1 ≤ a0.Size))) && (decide (a0.Size ≤ 268435456))) && (decide (1 ≤ (a0.Least.size : Int)))) = true
           · refine r_t hst (wt_of 27 rfl rfl c7) rfl (x_fieldAddr (j' := 2) hst fa_43_2 rfl rfl) ?_; intro a hst
             refine r_t hst (wt_of 27 rfl rfl c7) rfl (x_loadB (i := 0) hst hsh sc_9 rfl rfl rfl) ?_; intro a hst
             refine r_t hst (wt_of 27 rfl rfl c7) rfl (x_lenStr hst Try.underlying9 rfl) ?_; intro a hst
             refine r_t hst (wt_of 27 rfl rfl c7) rfl (x_cmpI (b := decide ((a0.Least.size : Int) ≤ 1024)) hst rfl rfl rfl) ?_; intro a hst
             refine r_t hst trivial rfl (x_andT hst rfl c7 rfl) ?_; intro a hst
             exact hj _ (hst.keep _ ⟨rfl, rfl, rfl, trivial⟩)
           · replace c7 := Bool.eq_false_iff.2 c7
             refine r_not hst 27 rfl rfl c7 rfl ?_; intro a hst
             refine r_not hst 27 rfl rfl c7 rfl ?_; intro a hst
             refine r_not hst 27 rfl rfl c7 rfl ?_; intro a hst
             refine r_not hst 27 rfl rfl c7 rfl ?_; intro a hst
             refine r_t hst trivial rfl (x_andF (decide ((a0.Least.size : Int) ≤ 1024)) hst rfl c7 rfl) ?_; intro a hst
             exact hj _ (hst.keep _ ⟨rfl, rfl, rfl, trivial⟩)
       · intro hj
         by_cases c6 : ((((decide (1 ≤ a0.Number)) && (decide (a0.Number ≤ 2147483647))) && (decide (1 ≤ a0.Size))) && (decide (a0.Size ≤ 268435456))) = true
         · refine r_t hst (wt_of 21 rfl rfl c6) rfl (x_fieldAddr (j' := 2) hst fa_43_2 rfl rfl) ?_; intro a hst
           refine r_t hst (wt_of 21 rfl rfl c6) rfl (x_loadB (i := 0) hst hsh sc_9 rfl rfl rfl) ?_; intro a hst
           refine r_t hst (wt_of 21 rfl rfl c6) rfl (x_lenStr hst Try.underlying9 rfl) ?_; intro a hst
           refine r_t hst (wt_of 21 rfl rfl c6) rfl (x_cmpI (b := decide (1 ≤ (a0.Least.size : Int))) hst rfl rfl rfl) ?_; intro a hst
           refine r_t hst trivial rfl (x_andT hst rfl c6 rfl) ?_; intro a hst
           exact hj _ (hst.keep _ ⟨rfl, rfl, rfl, trivial⟩)
         · replace c6 := Bool.eq_false_iff.2 c6
           refine r_not hst 21 rfl rfl c6 rfl ?_; intro a hst
           refine r_not hst 21 rfl rfl c6 rfl ?_; intro a hst
           refine r_not hst 21 rfl rfl c6 rfl ?_; intro a hst
           refine r_not hst 21 rfl rfl c6 rfl ?_; intro a hst
           refine r_t hst trivial rfl (x_andF (decide (1 ≤ (a0.Least.size : Int))) hst rfl c6 rfl) ?_; intro a hst
           exact hj _ (hst.keep _ ⟨rfl, rfl, rfl, trivial⟩)
     · intro hj
       by_cases c5 : (((decide (1 ≤ a0.Number)) && (decide (a0.Number ≤ 2147483647))) && (decide (1 ≤ a0.Size))) = true
       · refine r_t hst (wt_of 16 rfl rfl c5) rfl (x_fieldAddr (j' := 1) hst fa_43_1 rfl rfl) ?_; intro a hst
         refine r_t hst (wt_of 16 rfl rfl c5) rfl (x_loadB (i := 0) hst hsh sc_3 rfl rfl rfl) ?_; intro a hst
         refine r_t hst (wt_of 16 rfl rfl c5) rfl (x_cmpI (b := decide (a0.Size ≤ 268435456)) hst rfl rfl rfl) ?_; intro a hst
         refine r_t hst trivial rfl (x_andT hst rfl c5 rfl) ?_; intro a hst
         exact hj _ (hst.keep _ ⟨rfl, rfl, rfl, trivial⟩)
       · replace c5 := Bool.eq_false_iff.2 c5
         refine r_not hst 16 rfl rfl c5 rfl ?_; intro a hst
         refine r_not hst 16 rfl rfl c5 rfl ?_; intro a hst
         refine r_not hst 16 rfl rfl c5 rfl ?_; intro a hst
         refine r_t hst trivial rfl (x_andF (decide (a0.Size ≤ 268435456)) hst rfl c5 rfl) ?_; intro a hst
         exact hj _ (hst.keep _ ⟨rfl, rfl, rfl, trivial⟩)
   · intro hj
     by_cases c4 : ((decide (1 ≤ a0.Number)) && (decide (a0.Number ≤ 2147483647))) = true
     · refine r_t hst (wt_of 11 rfl rfl c4) rfl (x_fieldAddr (j' := 1) hst fa_43_1 rfl rfl) ?_; intro a hst
       refine r_t hst (wt_of 11 rfl rfl c4) rfl (x_loadB (i := 0) hst hsh sc_3 rfl rfl rfl) ?_; intro a hst
       refine r_t hst (wt_of 11 rfl rfl c4) rfl (x_cmpI (b := decide (1 ≤ a0.Size)) hst rfl rfl rfl) ?_; intro a hst
       refine r_t hst trivial rfl (x_andT hst rfl c4 rfl) ?_; intro a hst
       exact hj _ (hst.keep _ ⟨rfl, rfl, rfl, trivial⟩)
     · replace c4 := Bool.eq_false_iff.2 c4
       refine r_not hst 11 rfl rfl c4 rfl ?_; intro a hst
       refine r_not hst 11 rfl rfl c4 rfl ?_; intro a hst
       refine r_not hst 11 rfl rfl c4 rfl ?_; intro a hst
       refine r_t hst trivial rfl (x_andF (decide (1 ≤ a0.Size)) hst rfl c4 rfl) ?_; intro a hst
       exact hj _ (hst.keep _ ⟨rfl, rfl, rfl, trivial⟩)
 · intro hj
   by_cases c3 : (decide (1 ≤ a0.Number)) = true
   · refine r_t hst (wt_of 6 rfl rfl c3) rfl (x_fieldAddr (j' := 0) hst fa_43_0 rfl rfl) ?_; intro a hst
     refine r_t hst (wt_of 6 rfl rfl c3) rfl (x_loadB (i := 0) hst hsh sc_3 rfl rfl rfl) ?_; intro a hst
     refine r_t hst (wt_of 6 rfl rfl c3) rfl (x_cmpI (b := decide (a0.Number ≤ 2147483647)) hst rfl rfl rfl) ?_; intro a hst
     refine r_t hst trivial rfl (x_andT hst rfl c3 rfl) ?_; intro a hst
     exact hj _ (hst.keep _ ⟨rfl, rfl, rfl, trivial⟩)
   · replace c3 := Bool.eq_false_iff.2 c3
     refine r_not hst 6 rfl rfl c3 rfl ?_; intro a hst
     refine r_not hst 6 rfl rfl c3 rfl ?_; intro a hst
     refine r_not hst 6 rfl rfl c3 rfl ?_; intro a hst
     refine r_t hst trivial rfl (x_andF (decide (a0.Number ≤ 2147483647)) hst rfl c3 rfl) ?_; intro a hst
     exact hj _ (hst.keep _ ⟨rfl, rfl, rfl, trivial⟩)

set_option maxHeartbeats 4000000 in
set_option maxRecDepth 100000 in
theorem r16_sorted.calls (k : Nat) (w : World) (va0 : Value) (Za0 : Nat → Prop) (wra0 : World) (hsa0 : Same Za0 wra0 w) (a0 : (List Int)) (hra0 : RD (Kd.int .i64) Za0 wra0 va0 a0) (r : (List Int)) (h : r16_sorted k a0 = some r) :
    Calls Try.prog 58 ([va0] : List Value).toArray w fun e w' => ∃ v0_ : Value, e = .returned (v0_) ∧ SH (fun _ => False) w w' [Row (Kd.int .i64) 3 v0_ r] := by
 have H := h
 clear h
 unfold r16_sorted at H
 refine calls_enter Try.func58 rfl rfl ?_
 intro a hst
 have hsh := SH.zero (fun _ => False) w
 refine wq_seq ?_
 refine wq_region_lit (.inl rfl) ?_
 refine r_t hst trivial rfl (x_assign hst rfl) ?_; intro a hst
 refine wpL_nil ?_
 refine then_normal ?_
 refine wq_seq ?_
 refine wq_region_lit (.inl rfl) ?_
 refine r_t hst trivial rfl (x_assign hst rfl) ?_; intro a hst
 refine wpL_nil ?_
 refine then_normal ?_
 refine wq_seq ?_
 refine wq_seq ?_
 refine wq_region_lit (.inl rfl) ?_
 refine r_t hst trivial rfl (x_assign hst rfl) ?_; intro a hst
 refine wpL_nil ?_
 refine then_normal ?_
 refine wq_block ?_
 have hsh := hsh.addNil (Kd.int .i64) 3
 refine wq_loop_fuel (fun k_346 a w' => ∃ (v_275 : Value), ∃ (l_276 : (List Int)), ∃ (i_277 : Int), r16_sorted.l0 a0 k_346 l_276 i_277 = some r ∧ ST [] Try.f58.ntmps a [(0, va0), (2, (.slice none 0 0)), (3, v_275), (4, .int .i64 i_277)] ∧ SH (fun _ => False) w w' [Row (Kd.int .i64) 3 v_275 l_276]) k ?_ ?_
 · exact ⟨(.slice none 0 0), ([]), 0, H, hst.keep _ ⟨rfl, rfl, rfl, rfl, trivial⟩, hsh.pick [0]⟩
 · rintro k_346 a W_278 ⟨v_275, l_276, i_277, H, hst, hsh⟩
   cases k_346 with
   | zero => rw [r16_sorted.l0] at H; cases H
   | succ k_346 =>
    rw [r16_sorted.l0] at H
    refine wq_seq ?_
    refine wq_seq ?_
    refine wq_region_lit (.inl rfl) ?_
    refine r_t hst trivial rfl (x_move hst rfl) ?_; intro a hst
    refine r_t hst trivial rfl (x_move hst rfl) ?_; intro a hst
    refine r_t hst trivial rfl (x_lenSl hst Try.underlying56 rfl hra0.slen) ?_; intro a hst
    refine r_t hst trivial rfl (x_cmpI (b := decide (i_277 < (a0.length : Int))) hst rfl rfl rfl) ?_; intro a hst
    refine wpL_nil ?_
    refine then_normal ?_
    by_cases c827 : (decide (i_277 < (a0.length : Int))) = true
    · rw [if_pos c827] at H
      refine wq_condT hst rfl c827 ?_
      refine wq_skip ?_
      refine then_normal ?_
      obtain ⟨J_379, hJ_379, H⟩ := Jn.elim H
      refine wq_cut (fun a w' => ∃ (v_376 : Value), ∃ (l_377 : (List Int)), J_379 l_377 = some r ∧ ST [] Try.f58.ntmps a [(0, va0), (2, (.slice none 0 0)), (3, v_376), (4, .int .i64 i_277)] ∧ SH (fun _ => False) w w' [Row (Kd.int .i64) 3 v_376 l_377]) ?_ ?_
      · rintro a W_378 ⟨v_376, l_377, H, hst, hsh⟩
        subst hJ_379
        dsimp only at H
        refine wq_region_lit (.inl rfl) ?_
        refine r_t hst trivial rfl (x_move hst rfl) ?_; intro a hst
        refine r_t hst trivial rfl (x_arI (r := w64 (i_277 + 1)) hst rfl rfl rfl) ?_; intro a hst
        refine r_t hst trivial rfl (x_assign hst rfl) ?_; intro a hst
        refine wpL_nil ?_
        refine then_normal ?_
        exact ⟨k_346, Nat.lt_succ_self _, v_376, l_377, (w64 (i_277 + 1)), H, hst.keep _ ⟨rfl, rfl, rfl, rfl, trivial⟩, hsh.pick [0]⟩
      · refine wq_block ?_
        refine wq_seq ?_
        refine wq_region_lit (.inl rfl) ?_
        refine r_t hst trivial rfl (x_move hst rfl) ?_; intro a hst
        refine r_t hst trivial rfl (x_lenSl hst Try.underlying56 rfl (hsh.row 0 rfl).slen) ?_; intro a hst
        refine r_t hst trivial rfl (x_assign hst rfl) ?_; intro a hst
        refine wpL_nil ?_
        refine then_normal ?_
        refine wq_seq ?_
        refine wq_region_lit (.inl rfl) ?_
        refine r_t hst trivial rfl (x_move hst rfl) ?_; intro a hst
        refine r_t hst trivial rfl (x_move hst rfl) ?_; intro a hst
        refine r_t hst trivial rfl (x_move hst rfl) ?_; intro a hst
        obtain ⟨x909, hx909, H⟩ := Option.bind_eq_some_iff.1 H
        refine r_t hst trivial rfl (x_indexAddr hst Try.underlying56 el_3 rfl rfl hra0 hx909) ?_; intro a hst
        refine r_t hst trivial rfl (x_loadEF (j := 0) (cs := [.int .i64 x909]) hst sc_3 rfl hra0 (Same.sh0 hsa0 hsh) hx909 rfl (fun _ h => h) rfl) ?_; intro a hst
        refine r_buildSlice (vs := [.int .i64 x909]) (cs := [.int .i64 x909]) hst hsh trivial rfl Try.underlying56 el_3 rfl rfl (by simp [Value.cells]) rfl rfl ?_
        intro g910 a w911 hgg910 hsh hst
        replace hsh := hsh.pick [1, 0]
        obtain ⟨l912, hl912, H⟩ := Option.bind_eq_some_iff.1 H
        refine r_append1 (xx := x909) (C := []) (M := []) hst hsh trivial rfl Try.underlying56 el_3 (by decide) (by decide) (by decide) rfl rfl (fun _ _ _ => rfl) hl912 ?_
        intro v913 a w914 hsh hst
        refine r_t hst trivial rfl (x_assign hst rfl) ?_; intro a hst
        refine wpL_nil ?_
        refine then_normal ?_
        refine wq_block ?_
        refine wq_loop_fuel (fun k_402 a w' => ∃ (l_390 : (List Int)), ∃ (i_391 : Int), r16_sorted.l1 J_379 k_402 l_390 i_391 = some r ∧ ST [] Try.f58.ntmps a [(0, va0), (2, (.slice none 0 0)), (3, v913), (4, .int .i64 i_277), (5, .int .i64 i_391)] ∧ SH (fun _ => False) w w' [Row (Kd.int .i64) 3 v913 l_390]) k_346 ?_ ?_
        · exact ⟨l912, (l_276.length : Int), H, hst.keep _ ⟨rfl, rfl, rfl, rfl, rfl, trivial⟩, hsh.pick [0]⟩
        · rintro k_402 a W_392 ⟨l_390, i_391, H, hst, hsh⟩
          cases k_402 with
          | zero => rw [r16_sorted.l1] at H; cases H
          | succ k_402 =>
           rw [r16_sorted.l1] at H
           refine wq_seq ?_
           refine wq_seq ?_
           refine wq_region_q (.inl rfl) (fun w' => SH (fun _ => False) w w' [Row (Kd.int .i64) 3 v913 l_390]) (shut_sh _ _ _) hsh.drew fo (by kernel_rfl) ?_
           refine q_t hst trivial rfl (fun _ hsh => x_move hst rfl) ?_; intro a hst
           refine q_t hst trivial rfl (fun _ hsh => x_cmpI (b := decide (0 < i_391)) hst rfl rfl rfl) ?_; intro a hst
           refine q_t hst trivial rfl (fun _ hsh => x_move hst rfl) ?_; intro a hst
           obtain ⟨J_407, hJ_407, H⟩ := Jn.elim H
           refine q_join 14 (fun a => ∃ (b_406 : Bool), J_407 b_406 = some r ∧ ST [] Try.f58.ntmps a [(0, va0), (2, (.slice none 0 0)), (3, v913), (4, .int .i64 i_277), (5, .int .i64 i_391), (34, .bool b_406)]) ?_ ?_
           · rintro a ⟨b_406, H, hst⟩
             subst hJ_407
             dsimp only at H
             refine q_nil ?_
             intro w975 hsh
             refine then_normal ?_
             by_cases c976 : b_406 = true
             · rw [if_pos c976] at H
               refine wq_condT hst rfl c976 ?_
               refine wq_skip ?_
               refine then_normal ?_
               refine wq_block ?_
               refine wq_seq ?_
               have hw976_0 := hsh.row 0 rfl
               refine wq_region_t (.inl rfl) (.fin [(3, 0), (3, 1), (3, 2), (3, 3), (3, 4), (3, 5), (3, 6), (3, 7), (0, 8), (3, 9), (3, 10), (3, 11), (3, 12), (0, 13), (3, 14), (2, 15), (0, 16), (2, 17)]) (fun w' => SH (fun _ => False) w w' []) (fun w' => SH (fun _ => False) w w' [Row (Kd.int .i64) 3 v913 l_390]) (fun w' => SH (fun _ => False) w w' [Row (Kd.int .i64) 3 v913 l_390]) (shut_sh _ _ _) (shut_sh _ _ _) (shut_sh _ _ _) (sub_sh [] rfl) (sub_sh [0] rfl) hsh.drew fo (by kernel_rfl) ?_
               refine t_fin ?_
               refine m_p hst trivial rfl (fun _ => x_move hst rfl) ?_; intro a hst
               refine m_p hst trivial rfl (fun _ => x_move hst rfl) ?_; intro a hst
               refine m_p hst trivial rfl (fun _ => x_arI (r := w64 (i_391 - 1)) hst rfl rfl rfl) ?_; intro a hst
               refine m_p hst trivial rfl (fun _ => x_move hst rfl) ?_; intro a hst
               refine m_p hst trivial rfl (fun _ => x_move hst rfl) ?_; intro a hst
               refine m_p hst trivial rfl (fun _ => x_move hst rfl) ?_; intro a hst
               refine m_p hst trivial rfl (fun _ => x_move hst rfl) ?_; intro a hst
               obtain ⟨x977, hx977, H⟩ := Option.bind_eq_some_iff.1 H
               refine m_p hst trivial rfl (fun _ => x_indexAddr hst Try.underlying56 el_3 rfl rfl hw976_0 hx977) ?_; intro a hst
               refine m_t hst trivial rfl (fun _ hsh => x_loadEF (j := 0) (cs := [.int .i64 x977]) hst sc_3 rfl (hsh.row 0 rfl) (Same.refl _ _) hx977 rfl (fun _ h => h) rfl) ?_; intro a hst
               refine m_p hst trivial rfl (fun _ => x_move hst rfl) ?_; intro a hst
               refine m_p hst trivial rfl (fun _ => x_move hst rfl) ?_; intro a hst
               refine m_p hst trivial rfl (fun _ => x_arI (r := w64 (i_391 - 1)) hst rfl rfl rfl) ?_; intro a hst
               obtain ⟨x978, hx978, H⟩ := Option.bind_eq_some_iff.1 H
               refine m_p hst trivial rfl (fun _ => x_indexAddr hst Try.underlying56 el_3 rfl rfl hw976_0 hx978) ?_; intro a hst
               refine m_t hst trivial rfl (fun _ hsh => x_loadEF (j := 0) (cs := [.int .i64 x978]) hst sc_3 rfl (hsh.row 0 rfl) (Same.refl _ _) hx978 rfl (fun _ h => h) rfl) ?_; intro a hst
               obtain ⟨x979, hx979, H⟩ := Option.bind_eq_some_iff.1 H
               refine m_p hst trivial rfl (fun _ => x_indexAddr hst Try.underlying56 el_3 rfl rfl hw976_0 hx979) ?_; intro a hst
               refine m_loud (.inr rfl) ?_
               intro w980 hsh
               obtain ⟨l981, hl981, H⟩ := Option.bind_eq_some_iff.1 H
               refine r_storeE (i := 0) (off := 0) (new := x977) (cs' := [.int .i64 x977]) hst hsh trivial sc_3 rfl rfl rfl hx979 rfl (Nat.le_of_ble_eq_true rfl) rfl (fun _ _ _ h => by rw [h]; rfl) (fun _ _ => rfl) ?_; intro a w982 hsh hst
               rw [← upd_some hl981] at hsh
               refine m_turn hsh (sub_sh [] rfl) ?_
               obtain ⟨x983, hx983, H⟩ := Option.bind_eq_some_iff.1 H
               refine m_t hst trivial rfl (fun _ hsh => x_indexAddr hst Try.underlying56 el_3 rfl rfl (hsh.row 0 rfl) hx983) ?_; intro a hst
               refine m_loud (.inr rfl) ?_
               intro w984 hsh
               obtain ⟨l985, hl985, H⟩ := Option.bind_eq_some_iff.1 H
               refine r_storeE (i := 0) (off := 0) (new := x978) (cs' := [.int .i64 x978]) hst hsh trivial sc_3 rfl rfl rfl hx983 rfl (Nat.le_of_ble_eq_true rfl) rfl (fun _ _ _ h => by rw [h]; rfl) (fun _ _ => rfl) ?_; intro a w986 hsh hst
               rw [← upd_some hl985] at hsh
               refine m_turn hsh (sub_sh [] rfl) ?_
               refine m_nil ?_
               intro w987 hsh
               refine qn_normal ?_
               refine then_normal ?_
               refine wq_region_lit (.inl rfl) ?_
               refine r_t hst trivial rfl (x_move hst rfl) ?_; intro a hst
               refine r_t hst trivial rfl (x_arI (r := w64 (i_391 - 1)) hst rfl rfl rfl) ?_; intro a hst
               refine r_t hst trivial rfl (x_assign hst rfl) ?_; intro a hst
               refine wpL_nil ?_
               refine block_normal ?_
               refine then_normal ?_
               exact ⟨k_402, Nat.lt_succ_self _, l985, (w64 (i_391 - 1)), H, hst.keep _ ⟨rfl, rfl, rfl, rfl, rfl, trivial⟩, hsh.pick [0]⟩
             · rw [if_neg c976] at H
               replace c976 := Bool.eq_false_iff.2 c976
               refine wq_condF hst rfl c976 ?_
               refine wq_exit ?_
               refine then_exit ?_
               refine then_exit ?_
               refine block_hit ?_
               refine block_normal ?_
               refine then_normal ?_
               exact ⟨v913, l_390, H, hst.keep _ ⟨rfl, rfl, rfl, rfl, trivial⟩, hsh.pick [0]⟩
           · intro hj
             by_cases c972 : (decide (0 < i_391)) = true
             · rw [if_pos c972] at H
               refine q_t hst (wt_of 23 rfl rfl c972) rfl (fun _ hsh => x_move hst rfl) ?_; intro a hst
               refine q_t hst (wt_of 23 rfl rfl c972) rfl (fun _ hsh => x_move hst rfl) ?_; intro a hst
               refine q_t hst (wt_of 23 rfl rfl c972) rfl (fun _ hsh => x_arI (r := w64 (i_391 - 1)) hst rfl rfl rfl) ?_; intro a hst
               obtain ⟨x988, hx988, H⟩ := Option.bind_eq_some_iff.1 H
               refine q_t hst (wt_of 23 rfl rfl c972) rfl (fun _ hsh => x_indexAddr hst Try.underlying56 el_3 rfl rfl (hsh.row 0 rfl) hx988) ?_; intro a hst
               refine q_t hst (wt_of 23 rfl rfl c972) rfl (fun _ hsh => x_loadEF (j := 0) (cs := [.int .i64 x988]) hst sc_3 rfl (hsh.row 0 rfl) (Same.refl _ _) hx988 rfl (fun _ h => h) rfl) ?_; intro a hst
               refine q_t hst (wt_of 23 rfl rfl c972) rfl (fun _ hsh => x_move hst rfl) ?_; intro a hst
               refine q_t hst (wt_of 23 rfl rfl c972) rfl (fun _ hsh => x_move hst rfl) ?_; intro a hst
               obtain ⟨x989, hx989, H⟩ := Option.bind_eq_some_iff.1 H
               refine q_t hst (wt_of 23 rfl rfl c972) rfl (fun _ hsh => x_indexAddr hst Try.underlying56 el_3 rfl rfl (hsh.row 0 rfl) hx989) ?_; intro a hst
               refine q_t hst (wt_of 23 rfl rfl c972) rfl (fun _ hsh => x_loadEF (j := 0) (cs := [.int .i64 x989]) hst sc_3 rfl (hsh.row 0 rfl) (Same.refl _ _) hx989 rfl (fun _ h => h) rfl) ?_; intro a hst
               refine q_t hst (wt_of 23 rfl rfl c972) rfl (fun _ hsh => x_cmpI (b := decide (x989 < x988)) hst rfl rfl rfl) ?_; intro a hst
               refine q_t hst trivial rfl (fun _ hsh => x_pickT hst rfl c972 rfl) ?_; intro a hst
               exact hj _ ⟨(decide (x989 < x988)), H, hst.keep _ ⟨rfl, rfl, rfl, rfl, rfl, rfl, trivial⟩⟩
             · rw [if_neg c972] at H
               replace c972 := Bool.eq_false_iff.2 c972
               refine q_not hst 23 rfl rfl c972 rfl ?_; intro a hst
               refine q_not hst 23 rfl rfl c972 rfl ?_; intro a hst
               refine q_not hst 23 rfl rfl c972 rfl ?_; intro a hst
               refine q_not hst 23 rfl rfl c972 rfl ?_; intro a hst
               refine q_not hst 23 rfl rfl c972 rfl ?_; intro a hst
               refine q_not hst 23 rfl rfl c972 rfl ?_; intro a hst
               refine q_not hst 23 rfl rfl c972 rfl ?_; intro a hst
               refine q_not hst 23 rfl rfl c972 rfl ?_; intro a hst
               refine q_not hst 23 rfl rfl c972 rfl ?_; intro a hst
               refine q_not hst 23 rfl rfl c972 rfl ?_; intro a hst
               refine q_t hst trivial rfl (fun _ hsh => x_pickF hst rfl c972 rfl) ?_; intro a hst
               exact hj _ ⟨false, H, hst.keep _ ⟨rfl, rfl, rfl, rfl, rfl, rfl, trivial⟩⟩
    · rw [if_neg c827] at H
      replace c827 := Bool.eq_false_iff.2 c827
      refine wq_condF hst rfl c827 ?_
      refine wq_exit ?_
      refine then_exit ?_
      refine then_exit ?_
      refine block_hit ?_
      refine then_normal ?_
      refine wq_seq ?_
      refine wq_region_lit (.inl rfl) ?_
      refine r_t hst trivial rfl (x_move hst rfl) ?_; intro a hst
      refine r_t hst trivial rfl (x_assign hst rfl) ?_; intro a hst
      refine wpL_nil ?_
      refine then_normal ?_
      refine wq_ret ?_
      obtain rfl := Option.some.inj H
      exact ret1 hst rfl rfl ⟨v_275, rfl, hsh.pick [0]⟩

set_option maxHeartbeats 4000000 in
set_option maxRecDepth 100000 in
theorem r16_numbers.calls (k : Nat) (w : World) (va0 : Value) (Za0 : Nat → Prop) (wra0 : World) (hsa0 : Same Za0 wra0 w) (a0 : (List (List File))) (hra0 : RD (Kd.slice 43 k_File) Za0 wra0 va0 a0) (r : (List Int)) (h : r16_numbers k a0 = some r) :
    Calls Try.prog 39 ([va0] : List Value).toArray w fun e w' => ∃ v0_ : Value, e = .returned (v0_) ∧ SH (fun _ => False) w w' [Row (Kd.int .i64) 3 v0_ r] := by
 have H := h
 clear h
 unfold r16_numbers at H
 refine calls_enter Try.func39 rfl rfl ?_
 intro a hst
 have hsh := SH.zero (fun _ => False) w
 refine wq_seq ?_
 refine wq_region_lit (.inl rfl) ?_
 refine r_t hst trivial rfl (x_assign hst rfl) ?_; intro a hst
 refine wpL_nil ?_
 refine then_normal ?_
 refine wq_seq ?_
 refine wq_region_lit (.inl rfl) ?_
 refine r_t hst trivial rfl (x_assign hst rfl) ?_; intro a hst
 refine wpL_nil ?_
 refine then_normal ?_
 refine wq_seq ?_
 refine wq_seq ?_
 refine wq_region_lit (.inl rfl) ?_
 refine r_t hst trivial rfl (x_assign hst rfl) ?_; intro a hst
 refine wpL_nil ?_
 refine then_normal ?_
 refine wq_block ?_
 have hsh := hsh.addNil (Kd.int .i64) 3
 refine wq_loop_fuel (fun k_208 a w' => ∃ (v_167 : Value), ∃ (l_168 : (List Int)), ∃ (i_169 : Int), r16_numbers.l0 a0 k_208 l_168 i_169 = some r ∧ ST [] Try.f39.ntmps a [(0, va0), (2, (.slice none 0 0)), (3, v_167), (4, .int .i64 i_169)] ∧ SH (fun _ => False) w w' [Row (Kd.int .i64) 3 v_167 l_168]) k ?_ ?_
 · exact ⟨(.slice none 0 0), ([]), 0, H, hst.keep _ ⟨rfl, rfl, rfl, rfl, trivial⟩, hsh.pick [0]⟩
 · rintro k_208 a W_170 ⟨v_167, l_168, i_169, H, hst, hsh⟩
   cases k_208 with
   | zero => rw [r16_numbers.l0] at H; cases H
   | succ k_208 =>
    rw [r16_numbers.l0] at H
    refine wq_seq ?_
    refine wq_seq ?_
    refine wq_region_lit (.inl rfl) ?_
    refine r_t hst trivial rfl (x_move hst rfl) ?_; intro a hst
    refine r_t hst trivial rfl (x_move hst rfl) ?_; intro a hst
    refine r_t hst trivial rfl (x_lenSl hst Try.underlying23 rfl hra0.slen) ?_; intro a hst
    refine r_t hst trivial rfl (x_cmpI (b := decide (i_169 < (a0.length : Int))) hst rfl rfl rfl) ?_; intro a hst
    refine wpL_nil ?_
    refine then_normal ?_
    by_cases c1045 : (decide (i_169 < (a0.length : Int))) = true
    · rw [if_pos c1045] at H
      refine wq_condT hst rfl c1045 ?_
      refine wq_skip ?_
      refine then_normal ?_
      obtain ⟨J_226, hJ_226, H⟩ := Jn.elim H
      refine wq_cut (fun a w' => ∃ (v_223 : Value), ∃ (l_224 : (List Int)), J_226 l_224 = some r ∧ ST [] Try.f39.ntmps a [(0, va0), (2, (.slice none 0 0)), (3, v_223), (4, .int .i64 i_169)] ∧ SH (fun _ => False) w w' [Row (Kd.int .i64) 3 v_223 l_224]) ?_ ?_
      · rintro a W_225 ⟨v_223, l_224, H, hst, hsh⟩
        subst hJ_226
        dsimp only at H
        refine wq_region_lit (.inl rfl) ?_
        refine r_t hst trivial rfl (x_move hst rfl) ?_; intro a hst
        refine r_t hst trivial rfl (x_arI (r := w64 (i_169 + 1)) hst rfl rfl rfl) ?_; intro a hst
        refine r_t hst trivial rfl (x_assign hst rfl) ?_; intro a hst
        refine wpL_nil ?_
        refine then_normal ?_
        exact ⟨k_208, Nat.lt_succ_self _, v_223, l_224, (w64 (i_169 + 1)), H, hst.keep _ ⟨rfl, rfl, rfl, rfl, trivial⟩, hsh.pick [0]⟩
      · refine wq_block ?_
        refine wq_seq ?_
        refine wq_region_lit (.inl rfl) ?_
        refine r_t hst trivial rfl (x_assign hst rfl) ?_; intro a hst
        refine wpL_nil ?_
        refine then_normal ?_
        refine wq_block ?_
        refine wq_loop_fuel (fun k_240 a w' => ∃ (v_232 : Value), ∃ (l_233 : (List Int)), ∃ (i_234 : Int), r16_numbers.l1 a0 i_169 J_226 k_240 l_233 i_234 = some r ∧ ST [] Try.f39.ntmps a [(0, va0), (2, (.slice none 0 0)), (3, v_232), (4, .int .i64 i_169), (5, .int .i64 i_234)] ∧ SH (fun _ => False) w w' [Row (Kd.int .i64) 3 v_232 l_233]) k_208 ?_ ?_
        · exact ⟨v_167, l_168, 0, H, hst.keep _ ⟨rfl, rfl, rfl, rfl, rfl, trivial⟩, hsh.pick [0]⟩
        · rintro k_240 a W_235 ⟨v_232, l_233, i_234, H, hst, hsh⟩
          cases k_240 with
          | zero => rw [r16_numbers.l1] at H; cases H
          | succ k_240 =>
           rw [r16_numbers.l1] at H
           refine wq_seq ?_
           refine wq_seq ?_
           refine wq_region_lit (.inl rfl) ?_
           refine r_t hst trivial rfl (x_move hst rfl) ?_; intro a hst
           refine r_t hst trivial rfl (x_move hst rfl) ?_; intro a hst
           refine r_t hst trivial rfl (x_move hst rfl) ?_; intro a hst
           obtain ⟨x1222, hx1222, H⟩ := Option.bind_eq_some_iff.1 H
           refine r_t hst trivial rfl (x_indexAddr hst Try.underlying23 el_39 rfl rfl hra0 hx1222) ?_; intro a hst
           obtain ⟨_, hk1223, hc1224⟩ := RD.cells2 hra0 hx1222
           obtain ⟨v1225, rfl, hr1226⟩ := hk1223
           refine r_t hst trivial rfl (x_loadC hst sc_39 rfl (hc1224 _ (Same.sh0 hsa0 hsh) 0 _ rfl)) ?_; intro a hst
           refine r_t hst trivial rfl (x_lenSl hst Try.underlying39 rfl hr1226.slen) ?_; intro a hst
           refine r_t hst trivial rfl (x_cmpI (b := decide (i_234 < (x1222.length : Int))) hst rfl rfl rfl) ?_; intro a hst
           refine wpL_nil ?_
           refine then_normal ?_
           by_cases c1227 : (decide (i_234 < (x1222.length : Int))) = true
           · rw [if_pos c1227] at H
             refine wq_condT hst rfl c1227 ?_
             refine wq_skip ?_
             refine then_normal ?_
             refine wq_seq ?_
             refine wq_block ?_
             refine wq_region_lit (.inl rfl) ?_
             refine r_t hst trivial rfl (x_move hst rfl) ?_; intro a hst
             refine r_t hst trivial rfl (x_move hst rfl) ?_; intro a hst
             refine r_t hst trivial rfl (x_move hst rfl) ?_; intro a hst
             obtain ⟨x1239, hx1239, H⟩ := Option.bind_eq_some_iff.1 H
             refine r_t hst trivial rfl (x_indexAddr hst Try.underlying23 el_39 rfl rfl hra0 hx1239) ?_; intro a hst
             obtain ⟨_, hk1240, hc1241⟩ := RD.cells2 hra0 hx1239
             obtain ⟨v1242, rfl, hr1243⟩ := hk1240
             refine r_t hst trivial rfl (x_loadC hst sc_39 rfl (hc1241 _ (Same.sh0 hsa0 hsh) 0 _ rfl)) ?_; intro a hst
             refine r_t hst trivial rfl (x_move hst rfl) ?_; intro a hst
             obtain ⟨x1244, hx1244, H⟩ := Option.bind_eq_some_iff.1 H
             refine r_t hst trivial rfl (x_indexAddr hst Try.underlying39 el_43 rfl rfl hr1243 hx1244) ?_; intro a hst
             refine r_t hst trivial rfl (x_fieldAddrE (n' := Int.toNat i_234 * k_File.sz) hst fa_43_0 rfl rfl) ?_; intro a hst
             refine r_t hst trivial rfl (x_loadEF (j := 0) (cs := [.int .i64 x1244.Number, .int .i64 x1244.Size, .string x1244.Least, .string x1244.Limit, .int .u64 x1244.Low, .int .u64 x1244.High]) hst sc_3 rfl hr1243 (Same.sh0 hsa0 hsh) hx1244 rfl (fun _ h => h) rfl) ?_; intro a hst
             refine r_buildSlice (vs := [.int .i64 x1244.Number]) (cs := [.int .i64 x1244.Number]) hst hsh trivial rfl Try.underlying56 el_3 rfl rfl (by simp [Value.cells]) rfl rfl ?_
             intro g1245 a w1246 hgg1245 hsh hst
             replace hsh := hsh.pick [1, 0]
             obtain ⟨l1247, hl1247, H⟩ := Option.bind_eq_some_iff.1 H
             refine r_append1 (xx := x1244.Number) (C := []) (M := []) hst hsh trivial rfl Try.underlying56 el_3 (by decide) (by decide) (by decide) rfl rfl (fun _ _ _ => rfl) hl1247 ?_
             intro v1248 a w1249 hsh hst
             refine r_t hst trivial rfl (x_assign hst rfl) ?_; intro a hst
             refine wpL_nil ?_
             refine block_normal ?_
             refine then_normal ?_
             refine wq_region_lit (.inl rfl) ?_
             refine r_t hst trivial rfl (x_move hst rfl) ?_; intro a hst
             refine r_t hst trivial rfl (x_arI (r := w64 (i_234 + 1)) hst rfl rfl rfl) ?_; intro a hst
             refine r_t hst trivial rfl (x_assign hst rfl) ?_; intro a hst
             refine wpL_nil ?_
             refine then_normal ?_
             exact ⟨k_240, Nat.lt_succ_self _, v1248, l1247, (w64 (i_234 + 1)), H, hst.keep _ ⟨rfl, rfl, rfl, rfl, rfl, trivial⟩, hsh.pick [0]⟩
           · rw [if_neg c1227] at H
             replace c1227 := Bool.eq_false_iff.2 c1227
             refine wq_condF hst rfl c1227 ?_
             refine wq_exit ?_
             refine then_exit ?_
             refine then_exit ?_
             refine block_hit ?_
             refine block_normal ?_
             refine then_normal ?_
             exact ⟨v_232, l_233, H, hst.keep _ ⟨rfl, rfl, rfl, rfl, trivial⟩, hsh.pick [0]⟩
    · rw [if_neg c1045] at H
      replace c1045 := Bool.eq_false_iff.2 c1045
      refine wq_condF hst rfl c1045 ?_
      refine wq_exit ?_
      refine then_exit ?_
      refine then_exit ?_
      refine block_hit ?_
      refine then_normal ?_
      refine wq_seq ?_
      refine wq_region_lit (.inl rfl) ?_
      refine r_t hst trivial rfl (x_move hst rfl) ?_; intro a hst
      obtain ⟨r1250, hr1250, H⟩ := Option.bind_eq_some_iff.1 H
      refine r_callD hst trivial rfl fn_58 rfl (r16_sorted.calls k_208 _ _ _ _ (Same.refl _ _) _ (hsh.row 0 rfl) r1250 hr1250) ?_
      rintro e w1251 ⟨v1252, rfl, hc⟩
      replace hsh := hsh.call0 hc
      clear hc
      refine ⟨_, rfl, fun a hst => ?_⟩
      refine r_t hst trivial rfl (x_assign hst rfl) ?_; intro a hst
      refine wpL_nil ?_
      refine then_normal ?_
      refine wq_ret ?_
      obtain rfl := Option.some.inj H
      exact ret1 hst rfl rfl ⟨v1252, rfl, hsh.pick [0]⟩

set_option maxHeartbeats 4000000 in
set_option maxRecDepth 100000 in
theorem r16_Valid.calls (k : Nat) (w : World) (va0 : Value) (Za0 : Nat → Prop) (wra0 : World) (hsa0 : Same Za0 wra0 w) (a0 : (List (List File))) (hra0 : RD (Kd.slice 43 k_File) Za0 wra0 va0 a0) (r : Bool) (h : r16_Valid k a0 = some r) :
    Calls Try.prog 13 ([va0] : List Value).toArray w fun e w' => e = .returned (.bool r) ∧ SH (fun _ => False) w w' [] := by
 have H := h
 clear h
 unfold r16_Valid at H
 refine calls_enter Try.func13 rfl rfl ?_
 intro a hst
 have hsh := SH.zero (fun _ => False) w
 refine wq_seq ?_
 refine wq_region_lit (.inl rfl) ?_
 refine r_t hst trivial rfl (x_assign hst rfl) ?_; intro a hst
 refine wpL_nil ?_
 refine then_normal ?_
 refine wq_seq ?_
 refine wq_seq ?_
 refine wq_region_lit (.inl rfl) ?_
 refine r_t hst trivial rfl (x_move hst rfl) ?_; intro a hst
 refine r_t hst trivial rfl (x_lenSl hst Try.underlying23 rfl hra0.slen) ?_; intro a hst
 refine r_t hst trivial rfl (x_cmpI (b := decide ((a0.length : Int) < 1)) hst rfl rfl rfl) ?_; intro a hst
 refine r_t hst trivial rfl (x_move hst rfl) ?_; intro a hst
 refine wl_join0 (Δ := []) (N := Try.f13.ntmps) 8 [(0, va0), (2, .bool false), (14, .bool ((decide ((a0.length : Int) < 1)) || (decide (7 < (a0.length : Int)))))] ?_ ?_
 · intro a hst
   refine wpL_nil ?_
   refine then_normal ?_
   by_cases c4 : ((decide ((a0.length : Int) < 1)) || (decide (7 < (a0.length : Int)))) = true
   · rw [if_pos c4] at H
     refine wq_condT hst rfl c4 ?_
     refine wq_seq ?_
     refine wq_region_lit (.inl rfl) ?_
     refine r_t hst trivial rfl (x_assign hst rfl) ?_; intro a hst
     refine wpL_nil ?_
     refine then_normal ?_
     refine wq_ret ?_
     refine then_ret ?_
     obtain rfl := Option.some.inj H
     exact ret1 hst rfl rfl ⟨rfl, hsh.pick []⟩
   · rw [if_neg c4] at H
     replace c4 := Bool.eq_false_iff.2 c4
     refine wq_condF hst rfl c4 ?_
     refine wq_skip ?_
     refine then_normal ?_
     refine wq_seq ?_
     refine wq_seq ?_
     refine wq_region_lit (.inl rfl) ?_
     refine r_t hst trivial rfl (x_assign hst rfl) ?_; intro a hst
     refine wpL_nil ?_
     refine then_normal ?_
     refine wq_block ?_
     refine wq_loop_fuel (fun k_1006 a w' => ∃ (i_804 : Int), r16_Valid.l0 a0 k_1006 i_804 = some r ∧ ST [] Try.f13.ntmps a [(0, va0), (2, .bool false), (3, .int .i64 i_804)] ∧ SH (fun _ => False) w w' []) k ?_ ?_
     · exact ⟨0, H, hst.keep _ ⟨rfl, rfl, rfl, trivial⟩, hsh.pick []⟩
     · rintro k_1006 a W_805 ⟨i_804, H, hst, hsh⟩
       cases k_1006 with
       | zero => rw [r16_Valid.l0] at H; cases H
       | succ k_1006 =>
        rw [r16_Valid.l0] at H
        refine wq_seq ?_
        refine wq_seq ?_
        refine wq_region_lit (.inl rfl) ?_
        refine r_t hst trivial rfl (x_move hst rfl) ?_; intro a hst
        refine r_t hst trivial rfl (x_move hst rfl) ?_; intro a hst
        refine r_t hst trivial rfl (x_lenSl hst Try.underlying23 rfl hra0.slen) ?_; intro a hst
        refine r_t hst trivial rfl (x_cmpI (b := decide (i_804 < (a0.length : Int))) hst rfl rfl rfl) ?_; intro a hst
        refine wpL_nil ?_
        refine then_normal ?_
        by_cases c6316 : (decide (i_804 < (a0.length : Int))) = true
        · rw [if_pos c6316] at H
          refine wq_condT hst rfl c6316 ?_
          refine wq_skip ?_
          refine then_normal ?_
          obtain ⟨J_1106, hJ_1106, H⟩ := Jn.elim H
          refine wq_cut (fun a w' => J_1106 = some r ∧ ST [] Try.f13.ntmps a [(0, va0), (2, .bool false), (3, .int .i64 i_804)] ∧ SH (fun _ => False) w w' []) ?_ ?_
          · rintro a W_1105 ⟨H, hst, hsh⟩
            subst hJ_1106
            refine wq_region_lit (.inl rfl) ?_
            refine r_t hst trivial rfl (x_move hst rfl) ?_; intro a hst
            refine r_t hst trivial rfl (x_arI (r := w64 (i_804 + 1)) hst rfl rfl rfl) ?_; intro a hst
            refine r_t hst trivial rfl (x_assign hst rfl) ?_; intro a hst
            refine wpL_nil ?_
            refine then_normal ?_
            exact ⟨k_1006, Nat.lt_succ_self _, (w64 (i_804 + 1)), H, hst.keep _ ⟨rfl, rfl, rfl, trivial⟩, hsh.pick []⟩
          · refine wq_block ?_
            refine wq_seq ?_
            refine wq_region_lit (.inl rfl) ?_
            refine r_t hst trivial rfl (x_assign hst rfl) ?_; intro a hst
            refine wpL_nil ?_
            refine then_normal ?_
            refine wq_block ?_
            refine wq_loop_fuel (fun k_1174 a w' => ∃ (i_1140 : Int), r16_Valid.l1 a0 i_804 J_1106 k_1174 i_1140 = some r ∧ ST [] Try.f13.ntmps a [(0, va0), (2, .bool false), (3, .int .i64 i_804), (4, .int .i64 i_1140)] ∧ SH (fun _ => False) w w' []) k_1006 ?_ ?_
            · exact ⟨0, H, hst.keep _ ⟨rfl, rfl, rfl, rfl, trivial⟩, hsh.pick []⟩
            · rintro k_1174 a W_1141 ⟨i_1140, H, hst, hsh⟩
              cases k_1174 with
              | zero => rw [r16_Valid.l1] at H; cases H
              | succ k_1174 =>
               rw [r16_Valid.l1] at H
               refine wq_seq ?_
               refine wq_seq ?_
               refine wq_region_lit (.inl rfl) ?_
               refine r_t hst trivial rfl (x_move hst rfl) ?_; intro a hst
               refine r_t hst trivial rfl (x_move hst rfl) ?_; intro a hst
               refine r_t hst trivial rfl (x_move hst rfl) ?_; intro a hst
               obtain ⟨x7373, hx7373, H⟩ := Option.bind_eq_some_iff.1 H
               refine r_t hst trivial rfl (x_indexAddr hst Try.underlying23 el_39 rfl rfl hra0 hx7373) ?_; intro a hst
               obtain ⟨_, hk7374, hc7375⟩ := RD.cells2 hra0 hx7373
               obtain ⟨v7376, rfl, hr7377⟩ := hk7374
               refine r_t hst trivial rfl (x_loadC hst sc_39 rfl (hc7375 _ (Same.sh0 hsa0 hsh) 0 _ rfl)) ?_; intro a hst
               refine r_t hst trivial rfl (x_lenSl hst Try.underlying39 rfl hr7377.slen) ?_; intro a hst
               refine r_t hst trivial rfl (x_cmpI (b := decide (i_1140 < (x7373.length : Int))) hst rfl rfl rfl) ?_; intro a hst
               refine wpL_nil ?_
               refine then_normal ?_
               by_cases c7378 : (decide (i_1140 < (x7373.length : Int))) = true
               · rw [if_pos c7378] at H
                 refine wq_condT hst rfl c7378 ?_
                 refine wq_skip ?_
                 refine then_normal ?_
                 refine wq_seq ?_
                 refine wq_block ?_
                 refine wq_seq ?_
                 refine wq_seq ?_
                 refine wq_region_lit (.inl rfl) ?_
                 refine r_t hst trivial rfl (x_move hst rfl) ?_; intro a hst
                 refine r_t hst trivial rfl (x_move hst rfl) ?_; intro a hst
                 obtain ⟨x7487, hx7487, H⟩ := Option.bind_eq_some_iff.1 H
                 refine r_t hst trivial rfl (x_indexAddr hst Try.underlying23 el_39 rfl rfl hra0 hx7487) ?_; intro a hst
                 obtain ⟨_, hk7488, hc7489⟩ := RD.cells2 hra0 hx7487
                 obtain ⟨v7490, rfl, hr7491⟩ := hk7488
                 refine r_t hst trivial rfl (x_loadC hst sc_39 rfl (hc7489 _ (Same.sh0 hsa0 hsh) 0 _ rfl)) ?_; intro a hst
                 refine r_t hst trivial rfl (x_move hst rfl) ?_; intro a hst
                 obtain ⟨x7492, hx7492, H⟩ := Option.bind_eq_some_iff.1 H
                 refine r_t hst trivial rfl (x_indexAddr hst Try.underlying39 el_43 rfl rfl hr7491 hx7492) ?_; intro a hst
                 refine r_t hst trivial rfl (x_loadEsF (j := 0) (cs := [.int .i64 x7492.Number, .int .i64 x7492.Size, .string x7492.Least, .string x7492.Limit, .int .u64 x7492.Low, .int .u64 x7492.High]) (ps := [.int .i64 x7492.Number, .int .i64 x7492.Size, .string x7492.Least, .string x7492.Limit, .int .u64 x7492.Low, .int .u64 x7492.High]) hst ag_43 rfl hr7491 (Same.sh0 hsa0 hsh) hx7492 rfl (fun _ h => h) rfl) ?_; intro a hst
                 obtain ⟨r7493, hr7493, H⟩ := Option.bind_eq_some_iff.1 H
                 refine r_callD hst trivial rfl fn_38 rfl (r16_May.calls _ x7492 r7493 hr7493) ?_
                 rintro e w7494 ⟨rfl, hc⟩
                 replace hsh := hsh.call0 hc
                 clear hc
                 refine ⟨_, rfl, fun a hst => ?_⟩
                 refine r_t hst trivial rfl (x_notB hst rfl) ?_; intro a hst
                 refine wpL_nil ?_
                 refine then_normal ?_
                 by_cases c7495 : (!r7493) = true
                 · rw [if_pos c7495] at H
                   refine wq_condT hst rfl c7495 ?_
                   refine wq_seq ?_
                   refine wq_region_lit (.inl rfl) ?_
                   refine r_t hst trivial rfl (x_assign hst rfl) ?_; intro a hst
                   refine wpL_nil ?_
                   refine then_normal ?_
                   refine wq_ret ?_
                   refine then_ret ?_
                   refine block_ret ?_
                   refine then_ret ?_
                   refine then_ret ?_
                   refine block_ret ?_
                   refine block_ret ?_
                   refine then_ret ?_
                   refine then_ret ?_
                   refine block_ret ?_
                   refine then_ret ?_
                   obtain rfl := Option.some.inj H
                   exact ret1 hst rfl rfl ⟨rfl, hsh.pick []⟩
                 · rw [if_neg c7495] at H
                   replace c7495 := Bool.eq_false_iff.2 c7495
                   refine wq_condF hst rfl c7495 ?_
                   refine wq_skip ?_
                   refine then_normal ?_
                   refine wq_seq ?_
                   refine wq_region_q (.inl rfl) (fun w' => SH (fun _ => False) w w' []) (shut_sh _ _ _) hsh.drew fo (by kernel_rfl) ?_
                   refine q_t hst trivial rfl (fun _ hsh => x_move hst rfl) ?_; intro a hst
                   refine q_t hst trivial rfl (fun _ hsh => x_cmpI (b := decide (0 < i_1140)) hst rfl rfl rfl) ?_; intro a hst
                   refine q_t hst trivial rfl (fun _ hsh => x_move hst rfl) ?_; intro a hst
                   refine q_join0 (Δ := []) (N := Try.f13.ntmps) 6 [(0, va0), (2, .bool false), (3, .int .i64 i_804), (4, .int .i64 i_1140), (44, .bool ((decide (0 < i_1140)) && (i_804 == 0)))] ?_ ?_
                   · intro a hst
                     refine q_t hst trivial rfl (fun _ hsh => x_move hst rfl) ?_; intro a hst
                     obtain ⟨J_1191, hJ_1191, H⟩ := Jn.elim H
                     refine q_join 26 (fun a => ∃ (b_1190 : Bool), J_1191 b_1190 = some r ∧ ST [] Try.f13.ntmps a [(0, va0), (2, .bool false), (3, .int .i64 i_804), (4, .int .i64 i_1140), (64, .bool b_1190)]) ?_ ?_
                     · rintro a ⟨b_1190, H, hst⟩
                       subst hJ_1191
                       dsimp only at H
                       refine q_t hst trivial rfl (fun _ hsh => x_move hst rfl) ?_; intro a hst
                       obtain ⟨J_1197, hJ_1197, H⟩ := Jn.elim H
                       refine q_join 54 (fun a => ∃ (b_1196 : Bool), J_1197 b_1196 = some r ∧ ST [] Try.f13.ntmps a [(0, va0), (2, .bool false), (3, .int .i64 i_804), (4, .int .i64 i_1140), (92, .bool b_1196)]) ?_ ?_
                       · rintro a ⟨b_1196, H, hst⟩
                         subst hJ_1197
                         dsimp only at H
                         refine q_nil ?_
                         intro w7537 hsh
                         refine then_normal ?_
                         by_cases c7538 : b_1196 = true
                         · rw [if_pos c7538] at H
                           refine wq_condT hst rfl c7538 ?_
                           refine wq_seq ?_
                           refine wq_region_lit (.inl rfl) ?_
                           refine r_t hst trivial rfl (x_assign hst rfl) ?_; intro a hst
                           refine wpL_nil ?_
                           refine then_normal ?_
                           refine wq_ret ?_
                           refine block_ret ?_
                           refine then_ret ?_
                           refine then_ret ?_
                           refine block_ret ?_
                           refine block_ret ?_
                           refine then_ret ?_
                           refine then_ret ?_
                           refine block_ret ?_
                           refine then_ret ?_
                           obtain rfl := Option.some.inj H
                           exact ret1 hst rfl rfl ⟨rfl, hsh.pick []⟩
                         · rw [if_neg c7538] at H
                           replace c7538 := Bool.eq_false_iff.2 c7538
                           refine wq_condF hst rfl c7538 ?_
                           refine wq_skip ?_
                           refine block_normal ?_
                           refine then_normal ?_
                           refine wq_region_lit (.inl rfl) ?_
                           refine r_t hst trivial rfl (x_move hst rfl) ?_; intro a hst
                           refine r_t hst trivial rfl (x_arI (r := w64 (i_1140 + 1)) hst rfl rfl rfl) ?_; intro a hst
                           refine r_t hst trivial rfl (x_assign hst rfl) ?_; intro a hst
                           refine wpL_nil ?_
                           refine then_normal ?_
                           exact ⟨k_1174, Nat.lt_succ_self _, (w64 (i_1140 + 1)), H, hst.keep _ ⟨rfl, rfl, rfl, rfl, trivial⟩, hsh.pick []⟩
                       · intro hj
                         by_cases c7510 : b_1190 = true
                         · rw [if_pos c7510] at H
                           refine q_not hst 65 rfl rfl c7510 rfl ?_; intro a hst
                           refine q_not hst 65 rfl rfl c7510 rfl ?_; intro a hst
                           refine q_not hst 65 rfl rfl c7510 rfl ?_; intro a hst
                           refine q_notU hst 68 rfl rfl rfl ?_; intro a hst
                           refine q_notU hst 68 rfl rfl rfl ?_; intro a hst
                           refine q_not hst 65 rfl rfl c7510 rfl ?_; intro a hst
                           refine q_not hst 65 rfl rfl c7510 rfl ?_; intro a hst
                           refine q_notU hst 72 rfl rfl rfl ?_; intro a hst
                           refine q_notU hst 72 rfl rfl rfl ?_; intro a hst
                           refine q_notU hst 72 rfl rfl rfl ?_; intro a hst
                           refine q_notU hst 72 rfl rfl rfl ?_; intro a hst
                           refine q_notU hst 72 rfl rfl rfl ?_; intro a hst
                           refine q_notU hst 72 rfl rfl rfl ?_; intro a hst
                           refine q_notU hst 72 rfl rfl rfl ?_; intro a hst
                           refine q_notU hst 72 rfl rfl rfl ?_; intro a hst
                           refine q_notU hst 72 rfl rfl rfl ?_; intro a hst
                           refine q_notU hst 72 rfl rfl rfl ?_; intro a hst
                           refine q_notU hst 72 rfl rfl rfl ?_; intro a hst
                           refine q_notU hst 72 rfl rfl rfl ?_; intro a hst
                           refine q_notU hst 72 rfl rfl rfl ?_; intro a hst
                           refine q_notU hst 72 rfl rfl rfl ?_; intro a hst
                           refine q_notU hst 72 rfl rfl rfl ?_; intro a hst
                           refine q_notU hst 72 rfl rfl rfl ?_; intro a hst
                           refine q_notU hst 72 rfl rfl rfl ?_; intro a hst
                           refine q_notU hst 72 rfl rfl rfl ?_; intro a hst
                           refine q_not hst 65 rfl rfl c7510 rfl ?_; intro a hst
                           refine q_t hst trivial rfl (fun _ hsh => x_pickT hst rfl c7510 rfl) ?_; intro a hst
                           exact hj _ ⟨true, H, hst.keep _ ⟨rfl, rfl, rfl, rfl, rfl, trivial⟩⟩
                         · rw [if_neg c7510] at H
                           replace c7510 := Bool.eq_false_iff.2 c7510
                           refine q_t hst (wt_of 65 rfl rfl c7510) rfl (fun _ hsh => x_move hst rfl) ?_; intro a hst
                           refine q_t hst (wt_of 65 rfl rfl c7510) rfl (fun _ hsh => x_cmpI (b := decide (0 < i_1140)) hst rfl rfl rfl) ?_; intro a hst
                           refine q_t hst (wt_of 65 rfl rfl c7510) rfl (fun _ hsh => x_move hst rfl) ?_; intro a hst
                           refine q_join0 (Δ := []) (N := Try.f13.ntmps) 33 [(0, va0), (2, .bool false), (3, .int .i64 i_804), (4, .int .i64 i_1140), (65, .bool b_1190), (71, .bool ((decide (0 < i_1140)) && (decide (0 < i_804))))] ?_ ?_
                           · intro a hst
                             refine q_t hst (wt_of 65 rfl rfl c7510) rfl (fun _ hsh => x_move hst rfl) ?_; intro a hst
                             obtain ⟨J_1203, hJ_1203, H⟩ := Jn.elim H
                             refine q_join 53 (fun a => ∃ (b_1202 : Bool), J_1203 b_1202 = some r ∧ ST [] Try.f13.ntmps a [(0, va0), (2, .bool false), (3, .int .i64 i_804), (4, .int .i64 i_1140), (65, .bool b_1190), (91, .bool b_1202)]) ?_ ?_
                             · rintro a ⟨b_1202, H, hst⟩
                               subst hJ_1203
                               dsimp only at H
                               refine q_t hst trivial rfl (fun _ hsh => x_pickF hst rfl c7510 rfl) ?_; intro a hst
                               exact hj _ ⟨b_1202, H, hst.keep _ ⟨rfl, rfl, rfl, rfl, rfl, trivial⟩⟩
                             · intro hj
                               by_cases c7540 : ((decide (0 < i_1140)) && (decide (0 < i_804))) = true
                               · rw [if_pos c7540] at H
                                 refine q_t hst (wt_of 72 rfl rfl c7540) rfl (fun _ hsh => x_move hst rfl) ?_; intro a hst
                                 refine q_t hst (wt_of 72 rfl rfl c7540) rfl (fun _ hsh => x_move hst rfl) ?_; intro a hst
                                 obtain ⟨x7553, hx7553, H⟩ := Option.bind_eq_some_iff.1 H
                                 refine q_t hst (wt_of 72 rfl rfl c7540) rfl (fun _ hsh => x_indexAddr hst Try.underlying23 el_39 rfl rfl hra0 hx7553) ?_; intro a hst
                                 obtain ⟨_, hk7554, hc7555⟩ := RD.cells2 hra0 hx7553
                                 obtain ⟨v7556, rfl, hr7557⟩ := hk7554
                                 refine q_t hst (wt_of 72 rfl rfl c7540) rfl (fun _ hsh => x_loadC hst sc_39 rfl (hc7555 _ (Same.sh0 hsa0 hsh) 0 _ rfl)) ?_; intro a hst
                                 refine q_t hst (wt_of 72 rfl rfl c7540) rfl (fun _ hsh => x_move hst rfl) ?_; intro a hst
                                 refine q_t hst (wt_of 72 rfl rfl c7540) rfl (fun _ hsh => x_arI (r := w64 (i_1140 - 1)) hst rfl rfl rfl) ?_; intro a hst
                                 obtain ⟨x7558, hx7558, H⟩ := Option.bind_eq_some_iff.1 H
                                 refine q_t hst (wt_of 72 rfl rfl c7540) rfl (fun _ hsh => x_indexAddr hst Try.underlying39 el_43 rfl rfl hr7557 hx7558) ?_; intro a hst
                                 refine q_t hst (wt_of 72 rfl rfl c7540) rfl (fun _ hsh => x_fieldAddrE (n' := Int.toNat (w64 (i_1140 - 1)) * k_File.sz + 3) hst fa_43_3 rfl rfl) ?_; intro a hst
                                 refine q_t hst (wt_of 72 rfl rfl c7540) rfl (fun _ hsh => x_loadEF (j := 3) (cs := [.int .i64 x7558.Number, .int .i64 x7558.Size, .string x7558.Least, .string x7558.Limit, .int .u64 x7558.Low, .int .u64 x7558.High]) hst sc_9 rfl hr7557 (Same.sh0 hsa0 hsh) hx7558 rfl (fun _ h => h) rfl) ?_; intro a hst
                                 refine q_t hst (wt_of 72 rfl rfl c7540) rfl (fun _ hsh => x_move hst rfl) ?_; intro a hst
                                 refine q_t hst (wt_of 72 rfl rfl c7540) rfl (fun _ hsh => x_move hst rfl) ?_; intro a hst
                                 obtain ⟨x7559, hx7559, H⟩ := Option.bind_eq_some_iff.1 H
                                 refine q_t hst (wt_of 72 rfl rfl c7540) rfl (fun _ hsh => x_indexAddr hst Try.underlying23 el_39 rfl rfl hra0 hx7559) ?_; intro a hst
                                 obtain ⟨_, hk7560, hc7561⟩ := RD.cells2 hra0 hx7559
                                 obtain ⟨v7562, rfl, hr7563⟩ := hk7560
                                 refine q_t hst (wt_of 72 rfl rfl c7540) rfl (fun _ hsh => x_loadC hst sc_39 rfl (hc7561 _ (Same.sh0 hsa0 hsh) 0 _ rfl)) ?_; intro a hst
                                 refine q_t hst (wt_of 72 rfl rfl c7540) rfl (fun _ hsh => x_move hst rfl) ?_; intro a hst
                                 obtain ⟨x7564, hx7564, H⟩ := Option.bind_eq_some_iff.1 H
                                 refine q_t hst (wt_of 72 rfl rfl c7540) rfl (fun _ hsh => x_indexAddr hst Try.underlying39 el_43 rfl rfl hr7563 hx7564) ?_; intro a hst
                                 refine q_t hst (wt_of 72 rfl rfl c7540) rfl (fun _ hsh => x_fieldAddrE (n' := Int.toNat i_1140 * k_File.sz + 2) hst fa_43_2 rfl rfl) ?_; intro a hst
                                 refine q_t hst (wt_of 72 rfl rfl c7540) rfl (fun _ hsh => x_loadEF (j := 2) (cs := [.int .i64 x7564.Number, .int .i64 x7564.Size, .string x7564.Least, .string x7564.Limit, .int .u64 x7564.Low, .int .u64 x7564.High]) hst sc_9 rfl hr7563 (Same.sh0 hsa0 hsh) hx7564 rfl (fun _ h => h) rfl) ?_; intro a hst
                                 refine q_t hst (wt_of 72 rfl rfl c7540) rfl (fun _ hsh => x_cmpS (b := (!(sLt x7558.Limit x7564.Least || sEq x7558.Limit x7564.Least))) hst rfl rfl rfl) ?_; intro a hst
                                 refine q_t hst (wt_of 65 rfl rfl c7510) rfl (fun _ hsh => x_pickT hst rfl c7540 rfl) ?_; intro a hst
                                 exact hj _ ⟨(!(sLt x7558.Limit x7564.Least || sEq x7558.Limit x7564.Least)), H, hst.keep _ ⟨rfl, rfl, rfl, rfl, rfl, rfl, trivial⟩⟩
                               · rw [if_neg c7540] at H
                                 replace c7540 := Bool.eq_false_iff.2 c7540
                                 refine q_not hst 72 rfl rfl c7540 rfl ?_; intro a hst
                                 refine q_not hst 72 rfl rfl c7540 rfl ?_; intro a hst
                                 refine q_not hst 72 rfl rfl c7540 rfl ?_; intro a hst
                                 refine q_not hst 72 rfl rfl c7540 rfl ?_; intro a hst
                                 refine q_not hst 72 rfl rfl c7540 rfl ?_; intro a hst
                                 refine q_not hst 72 rfl rfl c7540 rfl ?_; intro a hst
                                 refine q_not hst 72 rfl rfl c7540 rfl ?_; intro a hst
                                 refine q_not hst 72 rfl rfl c7540 rfl ?_; intro a hst
                                 refine q_not hst 72 rfl rfl c7540 rfl ?_; intro a hst
                                 refine q_not hst 72 rfl rfl c7540 rfl ?_; intro a hst
                                 refine q_not hst 72 rfl rfl c7540 rfl ?_; intro a hst
                                 refine q_not hst 72 rfl rfl c7540 rfl ?_; intro a hst
                                 refine q_not hst 72 rfl rfl c7540 rfl ?_; intro a hst
                                 refine q_not hst 72 rfl rfl c7540 rfl ?_; intro a hst
                                 refine q_not hst 72 rfl rfl c7540 rfl ?_; intro a hst
                                 refine q_not hst 72 rfl rfl c7540 rfl ?_; intro a hst
                                 refine q_not hst 72 rfl rfl c7540 rfl ?_; intro a hst
                                 refine q_not hst 72 rfl rfl c7540 rfl ?_; intro a hst
                                 refine q_t hst (wt_of 65 rfl rfl c7510) rfl (fun _ hsh => x_pickF hst rfl c7540 rfl) ?_; intro a hst
                                 exact hj _ ⟨false, H, hst.keep _ ⟨rfl, rfl, rfl, rfl, rfl, rfl, trivial⟩⟩
                           · intro hj
                             by_cases c7539 : (decide (0 < i_1140)) = true
                             · refine q_t hst (wt_of 68 rfl rfl c7539) rfl (fun _ hsh => x_move hst rfl) ?_; intro a hst
                               refine q_t hst (wt_of 68 rfl rfl c7539) rfl (fun _ hsh => x_cmpI (b := decide (0 < i_804)) hst rfl rfl rfl) ?_; intro a hst
                               refine q_t hst (wt_of 65 rfl rfl c7510) rfl (fun _ hsh => x_andT hst rfl c7539 rfl) ?_; intro a hst
                               exact hj _ (hst.keep _ ⟨rfl, rfl, rfl, rfl, rfl, rfl, trivial⟩)
                             · replace c7539 := Bool.eq_false_iff.2 c7539
                               refine q_not hst 68 rfl rfl c7539 rfl ?_; intro a hst
                               refine q_not hst 68 rfl rfl c7539 rfl ?_; intro a hst
                               refine q_t hst (wt_of 65 rfl rfl c7510) rfl (fun _ hsh => x_andF (decide (0 < i_804)) hst rfl c7539 rfl) ?_; intro a hst
                               exact hj _ (hst.keep _ ⟨rfl, rfl, rfl, rfl, rfl, rfl, trivial⟩)
                     · intro hj
                       by_cases c7497 : ((decide (0 < i_1140)) && (i_804 == 0)) = true
                       · rw [if_pos c7497] at H
                         refine q_t hst (wt_of 45 rfl rfl c7497) rfl (fun _ hsh => x_move hst rfl) ?_; intro a hst
                         refine q_t hst (wt_of 45 rfl rfl c7497) rfl (fun _ hsh => x_move hst rfl) ?_; intro a hst
                         obtain ⟨x7565, hx7565, H⟩ := Option.bind_eq_some_iff.1 H
                         refine q_t hst (wt_of 45 rfl rfl c7497) rfl (fun _ hsh => x_indexAddr hst Try.underlying23 el_39 rfl rfl hra0 hx7565) ?_; intro a hst
                         obtain ⟨_, hk7566, hc7567⟩ := RD.cells2 hra0 hx7565
                         obtain ⟨v7568, rfl, hr7569⟩ := hk7566
                         refine q_t hst (wt_of 45 rfl rfl c7497) rfl (fun _ hsh => x_loadC hst sc_39 rfl (hc7567 _ (Same.sh0 hsa0 hsh) 0 _ rfl)) ?_; intro a hst
                         refine q_t hst (wt_of 45 rfl rfl c7497) rfl (fun _ hsh => x_move hst rfl) ?_; intro a hst
                         refine q_t hst (wt_of 45 rfl rfl c7497) rfl (fun _ hsh => x_arI (r := w64 (i_1140 - 1)) hst rfl rfl rfl) ?_; intro a hst
                         obtain ⟨x7570, hx7570, H⟩ := Option.bind_eq_some_iff.1 H
                         refine q_t hst (wt_of 45 rfl rfl c7497) rfl (fun _ hsh => x_indexAddr hst Try.underlying39 el_43 rfl rfl hr7569 hx7570) ?_; intro a hst
                         refine q_t hst (wt_of 45 rfl rfl c7497) rfl (fun _ hsh => x_fieldAddrE (n' := Int.toNat (w64 (i_1140 - 1)) * k_File.sz) hst fa_43_0 rfl rfl) ?_; intro a hst
                         refine q_t hst (wt_of 45 rfl rfl c7497) rfl (fun _ hsh => x_loadEF (j := 0) (cs := [.int .i64 x7570.Number, .int .i64 x7570.Size, .string x7570.Least, .string x7570.Limit, .int .u64 x7570.Low, .int .u64 x7570.High]) hst sc_3 rfl hr7569 (Same.sh0 hsa0 hsh) hx7570 rfl (fun _ h => h) rfl) ?_; intro a hst
                         refine q_t hst (wt_of 45 rfl rfl c7497) rfl (fun _ hsh => x_move hst rfl) ?_; intro a hst
                         refine q_t hst (wt_of 45 rfl rfl c7497) rfl (fun _ hsh => x_move hst rfl) ?_; intro a hst
                         obtain ⟨x7571, hx7571, H⟩ := Option.bind_eq_some_iff.1 H
                         refine q_t hst (wt_of 45 rfl rfl c7497) rfl (fun _ hsh => x_indexAddr hst Try.underlying23 el_39 rfl rfl hra0 hx7571) ?_; intro a hst
                         obtain ⟨_, hk7572, hc7573⟩ := RD.cells2 hra0 hx7571
                         obtain ⟨v7574, rfl, hr7575⟩ := hk7572
                         refine q_t hst (wt_of 45 rfl rfl c7497) rfl (fun _ hsh => x_loadC hst sc_39 rfl (hc7573 _ (Same.sh0 hsa0 hsh) 0 _ rfl)) ?_; intro a hst
                         refine q_t hst (wt_of 45 rfl rfl c7497) rfl (fun _ hsh => x_move hst rfl) ?_; intro a hst
                         obtain ⟨x7576, hx7576, H⟩ := Option.bind_eq_some_iff.1 H
                         refine q_t hst (wt_of 45 rfl rfl c7497) rfl (fun _ hsh => x_indexAddr hst Try.underlying39 el_43 rfl rfl hr7575 hx7576) ?_; intro a hst
                         refine q_t hst (wt_of 45 rfl rfl c7497) rfl (fun _ hsh => x_fieldAddrE (n' := Int.toNat i_1140 * k_File.sz) hst fa_43_0 rfl rfl) ?_; intro a hst
                         refine q_t hst (wt_of 45 rfl rfl c7497) rfl (fun _ hsh => x_loadEF (j := 0) (cs := [.int .i64 x7576.Number, .int .i64 x7576.Size, .string x7576.Least, .string x7576.Limit, .int .u64 x7576.Low, .int .u64 x7576.High]) hst sc_3 rfl hr7575 (Same.sh0 hsa0 hsh) hx7576 rfl (fun _ h => h) rfl) ?_; intro a hst
                         refine q_t hst (wt_of 45 rfl rfl c7497) rfl (fun _ hsh => x_cmpI (b := decide (x7576.Number ≤ x7570.Number)) hst rfl rfl rfl) ?_; intro a hst
                         refine q_t hst trivial rfl (fun _ hsh => x_pickT hst rfl c7497 rfl) ?_; intro a hst
                         exact hj _ ⟨(decide (x7576.Number ≤ x7570.Number)), H, hst.keep _ ⟨rfl, rfl, rfl, rfl, rfl, trivial⟩⟩
                       · rw [if_neg c7497] at H
                         replace c7497 := Bool.eq_false_iff.2 c7497
                         refine q_not hst 45 rfl rfl c7497 rfl ?_; intro a hst
                         refine q_not hst 45 rfl rfl c7497 rfl ?_; intro a hst
                         refine q_not hst 45 rfl rfl c7497 rfl ?_; intro a hst
                         refine q_not hst 45 rfl rfl c7497 rfl ?_; intro a hst
                         refine q_not hst 45 rfl rfl c7497 rfl ?_; intro a hst
                         refine q_not hst 45 rfl rfl c7497 rfl ?_; intro a hst
                         refine q_not hst 45 rfl rfl c7497 rfl ?_; intro a hst
                         refine q_not hst 45 rfl rfl c7497 rfl ?_; intro a hst
                         refine q_not hst 45 rfl rfl c7497 rfl ?_; intro a hst
                         refine q_not hst 45 rfl rfl c7497 rfl ?_; intro a hst
                         refine q_not hst 45 rfl rfl c7497 rfl ?_; intro a hst
                         refine q_not hst 45 rfl rfl c7497 rfl ?_; intro a hst
                         refine q_not hst 45 rfl rfl c7497 rfl ?_; intro a hst
                         refine q_not hst 45 rfl rfl c7497 rfl ?_; intro a hst
                         refine q_not hst 45 rfl rfl c7497 rfl ?_; intro a hst
                         refine q_not hst 45 rfl rfl c7497 rfl ?_; intro a hst
                         refine q_not hst 45 rfl rfl c7497 rfl ?_; intro a hst
                         refine q_not hst 45 rfl rfl c7497 rfl ?_; intro a hst
                         refine q_t hst trivial rfl (fun _ hsh => x_pickF hst rfl c7497 rfl) ?_; intro a hst
                         exact hj _ ⟨false, H, hst.keep _ ⟨rfl, rfl, rfl, rfl, rfl, trivial⟩⟩
                   · intro hj
                     by_cases c7496 : (decide (0 < i_1140)) = true
                     · refine q_t hst (wt_of 41 rfl rfl c7496) rfl (fun _ hsh => x_move hst rfl) ?_; intro a hst
                       refine q_t hst (wt_of 41 rfl rfl c7496) rfl (fun _ hsh => x_cmpI (b := (i_804 == 0)) hst rfl rfl rfl) ?_; intro a hst
                       refine q_t hst trivial rfl (fun _ hsh => x_andT hst rfl c7496 rfl) ?_; intro a hst
                       exact hj _ (hst.keep _ ⟨rfl, rfl, rfl, rfl, rfl, trivial⟩)
                     · replace c7496 := Bool.eq_false_iff.2 c7496
                       refine q_not hst 41 rfl rfl c7496 rfl ?_; intro a hst
                       refine q_not hst 41 rfl rfl c7496 rfl ?_; intro a hst
                       refine q_t hst trivial rfl (fun _ hsh => x_andF (i_804 == 0) hst rfl c7496 rfl) ?_; intro a hst
                       exact hj _ (hst.keep _ ⟨rfl, rfl, rfl, rfl, rfl, trivial⟩)
               · rw [if_neg c7378] at H
                 replace c7378 := Bool.eq_false_iff.2 c7378
                 refine wq_condF hst rfl c7378 ?_
                 refine wq_exit ?_
                 refine then_exit ?_
                 refine then_exit ?_
                 refine block_hit ?_
                 refine block_normal ?_
                 refine then_normal ?_
                 exact ⟨H, hst.keep _ ⟨rfl, rfl, rfl, trivial⟩, hsh.pick []⟩
        · rw [if_neg c6316] at H
          replace c6316 := Bool.eq_false_iff.2 c6316
          refine wq_condF hst rfl c6316 ?_
          refine wq_exit ?_
          refine then_exit ?_
          refine then_exit ?_
          refine block_hit ?_
          refine then_normal ?_
          refine wq_seq ?_
          refine wq_region_lit (.inl rfl) ?_
          refine r_t hst trivial rfl (x_move hst rfl) ?_; intro a hst
          obtain ⟨r7577, hr7577, H⟩ := Option.bind_eq_some_iff.1 H
          refine r_callD hst trivial rfl fn_39 rfl (r16_numbers.calls k_1006 _ _ _ _ (Same.sh0 hsa0 hsh) _ hra0 r7577 hr7577) ?_
          rintro e w7578 ⟨v7579, rfl, hc⟩
          replace hsh := hsh.call0 hc
          clear hc
          refine ⟨_, rfl, fun a hst => ?_⟩
          refine r_t hst trivial rfl (x_assign hst rfl) ?_; intro a hst
          refine wpL_nil ?_
          refine then_normal ?_
          obtain ⟨J_1214, hJ_1214, H⟩ := Jn.elim H
          refine wq_cut (fun a w' => J_1214 = some r ∧ ST [] Try.f13.ntmps a [(2, .bool false)] ∧ SH (fun _ => False) w w' []) ?_ ?_
          · rintro a W_1213 ⟨H, hst, hsh⟩
            subst hJ_1214
            refine wq_seq ?_
            refine wq_region_lit (.inl rfl) ?_
            refine r_t hst trivial rfl (x_assign hst rfl) ?_; intro a hst
            refine wpL_nil ?_
            refine then_normal ?_
            refine wq_ret ?_
            obtain rfl := Option.some.inj H
            exact ret1 hst rfl rfl ⟨rfl, hsh.pick []⟩
          · refine wq_seq ?_
            refine wq_region_lit (.inl rfl) ?_
            refine r_t hst trivial rfl (x_assign hst rfl) ?_; intro a hst
            refine wpL_nil ?_
            refine then_normal ?_
            refine wq_block ?_
            refine wq_loop_fuel (fun k_1222 a w' => ∃ (i_1218 : Int), r16_Valid.l2 r7577 J_1214 k_1222 i_1218 = some r ∧ ST [] Try.f13.ntmps a [(2, .bool false), (5, v7579), (6, .int .i64 i_1218)] ∧ SH (fun _ => False) w w' [Row (Kd.int .i64) 3 v7579 r7577]) k_1006 ?_ ?_
            · exact ⟨1, H, hst.keep _ ⟨rfl, rfl, rfl, trivial⟩, hsh.pick [0]⟩
            · rintro k_1222 a W_1219 ⟨i_1218, H, hst, hsh⟩
              cases k_1222 with
              | zero => rw [r16_Valid.l2] at H; cases H
              | succ k_1222 =>
               rw [r16_Valid.l2] at H
               refine wq_seq ?_
               refine wq_seq ?_
               refine wq_region_lit (.inl rfl) ?_
               refine r_t hst trivial rfl (x_move hst rfl) ?_; intro a hst
               refine r_t hst trivial rfl (x_move hst rfl) ?_; intro a hst
               refine r_t hst trivial rfl (x_lenSl hst Try.underlying56 rfl (hsh.row 0 rfl).slen) ?_; intro a hst
               refine r_t hst trivial rfl (x_cmpI (b := decide (i_1218 < (r7577.length : Int))) hst rfl rfl rfl) ?_; intro a hst
               refine wpL_nil ?_
               refine then_normal ?_
               by_cases c7632 : (decide (i_1218 < (r7577.length : Int))) = true
               · rw [if_pos c7632] at H
                 refine wq_condT hst rfl c7632 ?_
                 refine wq_skip ?_
                 refine then_normal ?_
                 refine wq_seq ?_
                 refine wq_block ?_
                 refine wq_seq ?_
                 refine wq_region_q (.inl rfl) (fun w' => SH (fun _ => False) w w' [Row (Kd.int .i64) 3 v7579 r7577]) (shut_sh _ _ _) hsh.drew fo (by kernel_rfl) ?_
                 refine q_t hst trivial rfl (fun _ hsh => x_move hst rfl) ?_; intro a hst
                 refine q_t hst trivial rfl (fun _ hsh => x_move hst rfl) ?_; intro a hst
                 refine q_t hst trivial rfl (fun _ hsh => x_arI (r := w64 (i_1218 - 1)) hst rfl rfl rfl) ?_; intro a hst
                 obtain ⟨x7637, hx7637, H⟩ := Option.bind_eq_some_iff.1 H
                 refine q_t hst trivial rfl (fun _ hsh => x_indexAddr hst Try.underlying56 el_3 rfl rfl (hsh.row 0 rfl) hx7637) ?_; intro a hst
                 refine q_t hst trivial rfl (fun _ hsh => x_loadEF (j := 0) (cs := [.int .i64 x7637]) hst sc_3 rfl (hsh.row 0 rfl) (Same.refl _ _) hx7637 rfl (fun _ h => h) rfl) ?_; intro a hst
                 refine q_t hst trivial rfl (fun _ hsh => x_move hst rfl) ?_; intro a hst
                 refine q_t hst trivial rfl (fun _ hsh => x_move hst rfl) ?_; intro a hst
                 obtain ⟨x7638, hx7638, H⟩ := Option.bind_eq_some_iff.1 H
                 refine q_t hst trivial rfl (fun _ hsh => x_indexAddr hst Try.underlying56 el_3 rfl rfl (hsh.row 0 rfl) hx7638) ?_; intro a hst
                 refine q_t hst trivial rfl (fun _ hsh => x_loadEF (j := 0) (cs := [.int .i64 x7638]) hst sc_3 rfl (hsh.row 0 rfl) (Same.refl _ _) hx7638 rfl (fun _ h => h) rfl) ?_; intro a hst
                 refine q_t hst trivial rfl (fun _ hsh => x_cmpI (b := (x7637 == x7638)) hst rfl rfl rfl) ?_; intro a hst
                 refine q_nil ?_
                 intro w7639 hsh
                 refine then_normal ?_
                 by_cases c7640 : (x7637 == x7638) = true
                 · rw [if_pos c7640] at H
                   refine wq_condT hst rfl c7640 ?_
                   refine wq_seq ?_
                   refine wq_region_lit (.inl rfl) ?_
                   refine r_t hst trivial rfl (x_assign hst rfl) ?_; intro a hst
                   refine wpL_nil ?_
                   refine then_normal ?_
                   refine wq_ret ?_
                   refine block_ret ?_
                   refine then_ret ?_
                   refine then_ret ?_
                   refine block_ret ?_
                   refine then_ret ?_
                   obtain rfl := Option.some.inj H
                   exact ret1 hst rfl rfl ⟨rfl, hsh.pick []⟩
                 · rw [if_neg c7640] at H
                   replace c7640 := Bool.eq_false_iff.2 c7640
                   refine wq_condF hst rfl c7640 ?_
                   refine wq_skip ?_
                   refine block_normal ?_
                   refine then_normal ?_
                   refine wq_region_lit (.inl rfl) ?_
                   refine r_t hst trivial rfl (x_move hst rfl) ?_; intro a hst
                   refine r_t hst trivial rfl (x_arI (r := w64 (i_1218 + 1)) hst rfl rfl rfl) ?_; intro a hst
                   refine r_t hst trivial rfl (x_assign hst rfl) ?_; intro a hst
                   refine wpL_nil ?_
                   refine then_normal ?_
                   exact ⟨k_1222, Nat.lt_succ_self _, (w64 (i_1218 + 1)), H, hst.keep _ ⟨rfl, rfl, rfl, trivial⟩, hsh.pick [0]⟩
               · rw [if_neg c7632] at H
                 replace c7632 := Bool.eq_false_iff.2 c7632
                 refine wq_condF hst rfl c7632 ?_
                 refine wq_exit ?_
                 refine then_exit ?_
                 refine then_exit ?_
                 refine block_hit ?_
                 refine then_normal ?_
                 exact ⟨H, hst.keep _ ⟨rfl, trivial⟩, hsh.pick []⟩
 · intro hj
   by_cases c3 : (decide ((a0.length : Int) < 1)) = true
   · refine r_not hst 10 rfl rfl c3 rfl ?_; intro a hst
     refine r_not hst 10 rfl rfl c3 rfl ?_; intro a hst
     refine r_not hst 10 rfl rfl c3 rfl ?_; intro a hst
     refine r_t hst trivial rfl (x_orT (decide (7 < (a0.length : Int))) hst rfl c3 rfl) ?_; intro a hst
     exact hj _ (hst.keep _ ⟨rfl, rfl, rfl, trivial⟩)
   · replace c3 := Bool.eq_false_iff.2 c3
     refine r_t hst (wt_of 10 rfl rfl c3) rfl (x_move hst rfl) ?_; intro a hst
     refine r_t hst (wt_of 10 rfl rfl c3) rfl (x_lenSl hst Try.underlying23 rfl hra0.slen) ?_; intro a hst
     refine r_t hst (wt_of 10 rfl rfl c3) rfl (x_cmpI (b := decide (7 < (a0.length : Int))) hst rfl rfl rfl) ?_; intro a hst
     refine r_t hst trivial rfl (x_orF hst rfl c3 rfl) ?_; intro a hst
     exact hj _ (hst.keep _ ⟨rfl, rfl, rfl, trivial⟩)

set_option maxHeartbeats 4000000 in
set_option maxRecDepth 100000 in
theorem r16_level.calls (k : Nat) (w : World) (va0 : Value) (Za0 : Nat → Prop) (wra0 : World) (hsa0 : Same Za0 wra0 w) (a0 : (List (List File))) (hra0 : RD (Kd.slice 43 k_File) Za0 wra0 va0 a0) (a1 : Int) (r : (List File)) (h : r16_level k a0 a1 = some r) :
    Calls Try.prog 51 ([va0, .int .i64 a1] : List Value).toArray w fun e w' => ∃ v0_ : Value, e = .returned (v0_) ∧ SH (fun _ => False) w w' [] ∧ RD k_File Za0 wra0 v0_ r := by
 have H := h
 clear h
 unfold r16_level at H
 refine calls_enter Try.func51 rfl rfl ?_
 intro a hst
 have hsh := SH.zero (fun _ => False) w
 refine wq_seq ?_
 refine wq_region_lit (.inl rfl) ?_
 refine r_t hst trivial rfl (x_assign hst rfl) ?_; intro a hst
 refine wpL_nil ?_
 refine then_normal ?_
 refine wq_seq ?_
 refine wq_seq ?_
 refine wq_region_lit (.inl rfl) ?_
 refine r_t hst trivial rfl (x_move hst rfl) ?_; intro a hst
 obtain ⟨r6, hr6, H⟩ := Option.bind_eq_some_iff.1 H
 refine r_callD hst trivial rfl fn_13 rfl (r16_Valid.calls k _ _ _ _ (Same.sh0 hsa0 hsh) _ hra0 r6 hr6) ?_
 rintro e w7 ⟨rfl, hc⟩
 replace hsh := hsh.call0 hc
 clear hc
 refine ⟨_, rfl, fun a hst => ?_⟩
 refine r_t hst trivial rfl (x_notB hst rfl) ?_; intro a hst
 refine r_t hst trivial rfl (x_move hst rfl) ?_; intro a hst
 refine wl_join0 (Δ := []) (N := Try.f51.ntmps) 7 [(0, va0), (1, .int .i64 a1), (4, (.slice none 0 0)), (11, .bool ((!r6) || (decide (a1 < 0))))] ?_ ?_
 · intro a hst
   refine r_t hst trivial rfl (x_move hst rfl) ?_; intro a hst
   refine wl_join0 (Δ := []) (N := Try.f51.ntmps) 13 [(0, va0), (1, .int .i64 a1), (4, (.slice none 0 0)), (17, .bool (((!r6) || (decide (a1 < 0))) || (decide ((a0.length : Int) ≤ a1))))] ?_ ?_
   · intro a hst
     refine wpL_nil ?_
     refine then_normal ?_
     by_cases c10 : (((!r6) || (decide (a1 < 0))) || (decide ((a0.length : Int) ≤ a1))) = true
     · rw [if_pos c10] at H
       refine wq_condT hst rfl c10 ?_
       refine wq_seq ?_
       refine wq_region_lit (.inl rfl) ?_
       refine r_t hst trivial rfl (x_assign hst rfl) ?_; intro a hst
       refine wpL_nil ?_
       refine then_normal ?_
       refine wq_ret ?_
       refine then_ret ?_
       obtain rfl := Option.some.inj H
       exact ret1 hst rfl rfl ⟨(.slice none 0 0), rfl, hsh.pick [], (RD.nil _ _ _)⟩
     · rw [if_neg c10] at H
       replace c10 := Bool.eq_false_iff.2 c10
       refine wq_condF hst rfl c10 ?_
       refine wq_skip ?_
       refine then_normal ?_
       refine wq_seq ?_
       refine wq_region_lit (.inl rfl) ?_
       refine r_t hst trivial rfl (x_move hst rfl) ?_; intro a hst
       refine r_t hst trivial rfl (x_move hst rfl) ?_; intro a hst
       obtain ⟨x11, hx11, H⟩ := Option.bind_eq_some_iff.1 H
       refine r_t hst trivial rfl (x_indexAddr hst Try.underlying23 el_39 rfl rfl hra0 hx11) ?_; intro a hst
       obtain ⟨_, hk12, hc13⟩ := RD.cells2 hra0 hx11
       obtain ⟨v14, rfl, hr15⟩ := hk12
       refine r_t hst trivial rfl (x_loadC hst sc_39 rfl (hc13 _ (Same.sh0 hsa0 hsh) 0 _ rfl)) ?_; intro a hst
       refine r_t hst trivial rfl (x_assign hst rfl) ?_; intro a hst
       refine wpL_nil ?_
       refine then_normal ?_
       refine wq_ret ?_
       obtain rfl := Option.some.inj H
       exact ret1 hst rfl rfl ⟨v14, rfl, hsh.pick [], hr15⟩
   · intro hj
     by_cases c9 : ((!r6) || (decide (a1 < 0))) = true
     · refine r_not hst 12 rfl rfl c9 rfl ?_; intro a hst
       refine r_not hst 12 rfl rfl c9 rfl ?_; intro a hst
       refine r_not hst 12 rfl rfl c9 rfl ?_; intro a hst
       refine r_not hst 12 rfl rfl c9 rfl ?_; intro a hst
       refine r_t hst trivial rfl (x_orT (decide ((a0.length : Int) ≤ a1)) hst rfl c9 rfl) ?_; intro a hst
       exact hj _ (hst.keep _ ⟨rfl, rfl, rfl, rfl, trivial⟩)
     · replace c9 := Bool.eq_false_iff.2 c9
       refine r_t hst (wt_of 12 rfl rfl c9) rfl (x_move hst rfl) ?_; intro a hst
       refine r_t hst (wt_of 12 rfl rfl c9) rfl (x_move hst rfl) ?_; intro a hst
       refine r_t hst (wt_of 12 rfl rfl c9) rfl (x_lenSl hst Try.underlying23 rfl hra0.slen) ?_; intro a hst
       refine r_t hst (wt_of 12 rfl rfl c9) rfl (x_cmpI (b := decide ((a0.length : Int) ≤ a1)) hst rfl rfl rfl) ?_; intro a hst
       refine r_t hst trivial rfl (x_orF hst rfl c9 rfl) ?_; intro a hst
       exact hj _ (hst.keep _ ⟨rfl, rfl, rfl, rfl, trivial⟩)
 · intro hj
   by_cases c8 : (!r6) = true
   · refine r_not hst 8 rfl rfl c8 rfl ?_; intro a hst
     refine r_not hst 8 rfl rfl c8 rfl ?_; intro a hst
     refine r_t hst trivial rfl (x_orT (decide (a1 < 0)) hst rfl c8 rfl) ?_; intro a hst
     exact hj _ (hst.keep _ ⟨rfl, rfl, rfl, rfl, trivial⟩)
   · replace c8 := Bool.eq_false_iff.2 c8
     refine r_t hst (wt_of 8 rfl rfl c8) rfl (x_move hst rfl) ?_; intro a hst
     refine r_t hst (wt_of 8 rfl rfl c8) rfl (x_cmpI (b := decide (a1 < 0)) hst rfl rfl rfl) ?_; intro a hst
     refine r_t hst trivial rfl (x_orF hst rfl c8 rfl) ?_; intro a hst
     exact hj _ (hst.keep _ ⟨rfl, rfl, rfl, rfl, trivial⟩)

set_option maxHeartbeats 4000000 in
set_option maxRecDepth 100000 in
theorem r16_Bears.calls (w : World) (a0 : File) (a1 : ByteArray) (r : Bool) (h : r16_Bears a0 a1 = some r) :
    Calls Try.prog 52 ([.agg #[.int .i64 a0.Number, .int .i64 a0.Size, .string a0.Least, .string a0.Limit, .int .u64 a0.Low, .int .u64 a0.High], .string a1] : List Value).toArray w fun e w' => e = .returned (.bool r) ∧ SH (fun _ => False) w w' [] := by
 have H := h
 clear h
 unfold r16_Bears at H
 refine calls_enter Try.func52 rfl rfl ?_
 intro a hst
 have hsh := SH.zero (fun _ => False) w
 refine wq_seq ?_
 refine wq_region_lit (.inl rfl) ?_
 refine r_box hst hsh trivial rfl rfl rfl ?_
 intro g1 a w2 hgg1 hsh hst
 refine r_t hst trivial rfl (x_assign hst rfl) ?_; intro a hst
 refine wpL_nil ?_
 refine then_normal ?_
 refine wq_seq ?_
 refine wq_region_lit (.inl rfl) ?_
 refine r_t hst trivial rfl (x_fieldAddr (j' := 2) hst fa_43_2 rfl rfl) ?_; intro a hst
 refine r_t hst trivial rfl (x_loadB (i := 0) hst hsh sc_9 rfl rfl rfl) ?_; intro a hst
 refine r_t hst trivial rfl (x_move hst rfl) ?_; intro a hst
 refine r_t hst trivial rfl (x_cmpS (b := (sLt a0.Least a1 || sEq a0.Least a1)) hst rfl rfl rfl) ?_; intro a hst
 refine r_t hst trivial rfl (x_move hst rfl) ?_; intro a hst
 refine wl_join0 (Δ := []) (N := Try.f52.ntmps) 10 [(4, .bool false), (14, .bool ((sLt a0.Least a1 || sEq a0.Least a1) && (sLt a1 a0.Limit)))] ?_ ?_
 · intro a hst
   refine r_t hst trivial rfl (x_assign hst rfl) ?_; intro a hst
   refine wpL_nil ?_
   refine then_normal ?_
   refine wq_ret ?_
   obtain rfl := Option.some.inj H
   exact ret1 hst rfl rfl ⟨rfl, hsh.pick []⟩
 · intro hj
   by_cases c3 : (sLt a0.Least a1 || sEq a0.Least a1) = true
   · refine r_t hst (wt_of 9 rfl rfl c3) rfl (x_move hst rfl) ?_; intro a hst
     refine r_t hst (wt_of 9 rfl rfl c3) rfl (x_fieldAddr (j' := 3) hst fa_43_3 rfl rfl) ?_; intro a hst
     refine r_t hst (wt_of 9 rfl rfl c3) rfl (x_loadB (i := 0) hst hsh sc_9 rfl rfl rfl) ?_; intro a hst
     refine r_t hst (wt_of 9 rfl rfl c3) rfl (x_cmpS (b := sLt a1 a0.Limit) hst rfl rfl rfl) ?_; intro a hst
     refine r_t hst trivial rfl (x_andT hst rfl c3 rfl) ?_; intro a hst
     exact hj _ (hst.keep _ ⟨rfl, rfl, trivial⟩)
   · replace c3 := Bool.eq_false_iff.2 c3
     refine r_not hst 9 rfl rfl c3 rfl ?_; intro a hst
     refine r_not hst 9 rfl rfl c3 rfl ?_; intro a hst
     refine r_not hst 9 rfl rfl c3 rfl ?_; intro a hst
     refine r_not hst 9 rfl rfl c3 rfl ?_; intro a hst
     refine r_t hst trivial rfl (x_andF (sLt a1 a0.Limit) hst rfl c3 rfl) ?_; intro a hst
     exact hj _ (hst.keep _ ⟨rfl, rfl, trivial⟩)
end Go.Proofs.Ytbbepmmelpabbaa.Mo
