/- Printed by gen.py: contracts. -/
import Derived.Test.YtbbepmmelpabbaaVerKd
set_option linter.unusedVariables false
set_option linter.unusedSectionVars false
set_option linter.unusedSimpArgs false
set_option maxRecDepth 100000
namespace Go.Proofs.Ytbbepmmelpabbaa.Mo
open Go Go.Proofs.Ytbbepmmelpabbaa.Sy
open Go.Proofs
set_option maxHeartbeats 4000000 in
set_option maxRecDepth 100000 in
theorem l16_copied.calls (k : Nat) (w : World) (va0 : Value) (Za0 : Nat → Prop) (wra0 : World) (hsa0 : Same Za0 wra0 w) (a0 : (List (List File))) (hra0 : RD (Kd.slice 43 k_File) Za0 wra0 va0 a0) (r : (List (List File))) (h : l16_copied k a0 = some r) :
    Calls Try.prog 11 ([va0] : List Value).toArray w fun e w' => ∃ v0_ : Value, e = .returned (v0_) ∧ SH (fun _ => False) w w' [Row (Kd.slice 43 k_File) 39 v0_ r] := by
 have H := h
 clear h
 unfold l16_copied at H
 refine calls_enter Try.func11 rfl rfl ?_
 intro a hst
 have hsh := SH.zero (fun _ => False) w
 refine wq_seq ?_
 refine wq_region_lit (.inl rfl) ?_
 refine r_t hst trivial rfl (x_assign hst rfl) ?_; intro a hst
 refine wpL_nil ?_
 refine then_normal ?_
 refine wq_seq ?_
 refine wq_region_lit (.inl rfl) ?_
 refine r_buildSlice (vs := []) (cs := []) hst hsh trivial rfl Try.underlying23 el_39 rfl rfl (by simp [Value.cells]) rfl rfl ?_
 intro g1 a w2 hgg1 hsh hst
 replace hsh := hsh.pick [0]
 replace hsh : SH (fun _ => False) w w2 [Row (Kd.slice 43 k_File) 39 (.slice (some ⟨g1, 0, none⟩) 0 0) ([])] := SH.boxRowM (C := []) ([] : List (List File)) hsh ef_nil rfl rfl (by decide)
 refine r_t hst trivial rfl (x_assign hst rfl) ?_; intro a hst
 refine wpL_nil ?_
 refine then_normal ?_
 refine wq_seq ?_
 refine wq_seq ?_
 refine wq_region_lit (.inl rfl) ?_
 refine r_t hst trivial rfl (x_assign hst rfl) ?_; intro a hst
 refine wpL_nil ?_
 refine then_normal ?_
 refine wq_block ?_
 refine wq_loop_fuel (fun k_28 a w' => ∃ (v_20 : Value), ∃ (l_21 : (List (List File))), ∃ (i_22 : Int), l16_copied.l0 a0 k_28 l_21 i_22 = some r ∧ ST [] Try.f11.ntmps a [(0, va0), (2, (.slice none 0 0)), (3, v_20), (4, .int .i64 i_22)] ∧ SH (fun _ => False) w w' [Row (Kd.slice 43 k_File) 39 v_20 l_21]) k ?_ ?_
 · exact ⟨(.slice (some ⟨g1, 0, none⟩) 0 0), ([]), 0, H, hst.keep _ ⟨rfl, rfl, rfl, rfl, trivial⟩, hsh.pick [0]⟩
 · rintro k_28 a W_23 ⟨v_20, l_21, i_22, H, hst, hsh⟩
   cases k_28 with
   | zero => rw [l16_copied.l0] at H; cases H
   | succ k_28 =>
    rw [l16_copied.l0] at H
    refine wq_seq ?_
    refine wq_seq ?_
    refine wq_region_lit (.inl rfl) ?_
    refine r_t hst trivial rfl (x_move hst rfl) ?_; intro a hst
    refine r_t hst trivial rfl (x_move hst rfl) ?_; intro a hst
    refine r_t hst trivial rfl (x_lenSl hst Try.underlying23 rfl hra0.slen) ?_; intro a hst
    refine r_t hst trivial rfl (x_cmpI (b := decide (i_22 < (a0.length : Int))) hst rfl rfl rfl) ?_; intro a hst
    refine wpL_nil ?_
    refine then_normal ?_
    by_cases c175 : (decide (i_22 < (a0.length : Int))) = true
    · rw [if_pos c175] at H
      refine wq_condT hst rfl c175 ?_
      refine wq_skip ?_
      refine then_normal ?_
      refine wq_seq ?_
      refine wq_block ?_
      refine wq_region_lit (.inl rfl) ?_
      refine r_t hst trivial rfl (x_move hst rfl) ?_; intro a hst
      refine r_buildSlice (vs := []) (cs := []) hst hsh trivial rfl Try.underlying39 el_43 rfl rfl (by simp [Value.cells]) rfl rfl ?_
      intro g192 a w193 hgg192 hsh hst
      replace hsh := hsh.pick [0, 0]
      replace hsh : SH (fun _ => False) w w193 [Row k_File 43 (.slice (some ⟨g192, 0, none⟩) 0 0) ([]), Row (Kd.slice 43 k_File) 39 v_20 l_21] := SH.boxRow ([] : List File) hsh rfl rfl rfl
      refine r_t hst trivial rfl (x_move hst rfl) ?_; intro a hst
      refine r_t hst trivial rfl (x_move hst rfl) ?_; intro a hst
      obtain ⟨x195, hx195, H⟩ := Option.bind_eq_some_iff.1 H
      refine r_t hst trivial rfl (x_indexAddr hst Try.underlying23 el_39 rfl rfl hra0 hx195) ?_; intro a hst
      obtain ⟨_, hk196, hc197⟩ := RD.cells2 hra0 hx195
      obtain ⟨v198, rfl, hr199⟩ := hk196
      refine r_t hst trivial rfl (x_loadC hst sc_39 rfl (hc197 _ (Same.sh0 hsa0 hsh) 0 _ rfl)) ?_; intro a hst
      replace hsh := hsh.pick [0, 0]
      obtain ⟨l200, hl200, H⟩ := Option.bind_eq_some_iff.1 H
      refine r_appendN (M := [Row (Kd.slice 43 k_File) 39 v_20 l_21]) hst hsh trivial rfl Try.underlying39 el_43 (by decide) (by decide) (by decide) rfl rfl (flat_flat _ _ _ _) hr199 (Same.sh0 hsa0 hsh) hl200 ?_
      intro v201 a w202 hsh hst
      refine r_buildSlice (vs := [v201]) (cs := [v201]) hst hsh trivial rfl Try.underlying23 el_39 rfl rfl (by simp [cells_sl, cells_slen (hsh.row 0 rfl).slen]) rfl (by simp [cells_sl, cells_slen (hsh.row 0 rfl).slen]) ?_
      intro g203 a w204 hgg203 hsh hst
      replace hsh := hsh.pick [2, 0, 0]
      obtain ⟨l205, hl205, H⟩ := Option.bind_eq_some_iff.1 H
      refine r_append1 (xx := l200) (C := [Row k_File 43 v201 l200]) (M := []) hst hsh trivial rfl Try.underlying23 el_39 (by decide) (by decide) (by decide) rfl rfl mf_slice hl205 ?_
      intro v206 a w207 hsh hst
      refine r_t hst trivial rfl (x_assign hst rfl) ?_; intro a hst
      refine wpL_nil ?_
      refine block_normal ?_
      refine then_normal ?_
      refine wq_region_lit (.inl rfl) ?_
      refine r_t hst trivial rfl (x_move hst rfl) ?_; intro a hst
      refine r_t hst trivial rfl (x_arI (r := w64 (i_22 + 1)) hst rfl rfl rfl) ?_; intro a hst
      refine r_t hst trivial rfl (x_assign hst rfl) ?_; intro a hst
      refine wpL_nil ?_
      refine then_normal ?_
      exact ⟨k_28, Nat.lt_succ_self _, v206, l205, (w64 (i_22 + 1)), H, hst.keep _ ⟨rfl, rfl, rfl, rfl, trivial⟩, hsh.pick [0]⟩
    · rw [if_neg c175] at H
      replace c175 := Bool.eq_false_iff.2 c175
      refine wq_condF hst rfl c175 ?_
      refine wq_exit ?_
      refine then_exit ?_
      refine then_exit ?_
      refine block_hit ?_
      refine then_normal ?_
      refine wq_seq ?_
      refine wq_region_lit (.inl rfl) ?_
      refine r_t hst trivial rfl (x_move hst rfl) ?_; intro a hst
      refine r_t hst trivial rfl (x_assign hst rfl) ?_; intro a hst
      refine wpL_nil ?_
      refine then_normal ?_
      refine wq_ret ?_
      obtain rfl := Option.some.inj H
      exact ret1 hst rfl rfl ⟨v_20, rfl, hsh.pick [0]⟩

set_option maxHeartbeats 4000000 in
set_option maxRecDepth 100000 in
theorem version_may.calls (w : World) (a0 : File) (r : Bool) (h : version_may a0 = some r) :
    Calls Try.prog 37 ([.agg #[.int .i64 a0.Number, .int .i64 a0.Size, .string a0.Least, .string a0.Limit, .int .u64 a0.Low, .int .u64 a0.High]] : List Value).toArray w fun e w' => e = .returned (.bool r) ∧ SH (fun _ => False) w w' [] := by
 have H := h
 clear h
 unfold version_may at H
 refine calls_enter Try.func37 rfl rfl ?_
 intro a hst
 have hsh := SH.zero (fun _ => False) w
 refine wq_seq ?_
 refine wq_region_lit (.inl rfl) ?_
 refine r_box hst hsh trivial rfl rfl rfl ?_
 intro g1 a w2 hgg1 hsh hst
 refine r_t hst trivial rfl (x_assign hst rfl) ?_; intro a hst
 refine wpL_nil ?_
 refine then_normal ?_
 refine wq_seq ?_
 refine wq_region_lit (.inl rfl) ?_
 refine r_t hst trivial rfl (x_fieldAddr (j' := 0) hst fa_43_0 rfl rfl) ?_; intro a hst
 refine r_t hst trivial rfl (x_loadB (i := 0) hst hsh sc_3 rfl rfl rfl) ?_; intro a hst
 refine r_t hst trivial rfl (x_cmpI (b := decide (1 ≤ a0.Number)) hst rfl rfl rfl) ?_; intro a hst
 refine r_t hst trivial rfl (x_move hst rfl) ?_; intro a hst
 refine wl_join0 (Δ := []) (N := Try.f37.ntmps) 8 [(1, .pointer (some ⟨g1, 0, none⟩)), (2, .bool false), (10, .bool ((decide (1 ≤ a0.Number)) && (decide (a0.Number ≤ 2147483647))))] ?_ ?_
 · intro a hst
   refine r_t hst trivial rfl (x_move hst rfl) ?_; intro a hst
   refine wl_join0 (Δ := []) (N := Try.f37.ntmps) 13 [(1, .pointer (some ⟨g1, 0, none⟩)), (2, .bool false), (15, .bool (((decide (1 ≤ a0.Number)) && (decide (a0.Number ≤ 2147483647))) && (decide (1 ≤ a0.Size))))] ?_ ?_
   · intro a hst
     refine r_t hst trivial rfl (x_move hst rfl) ?_; intro a hst
     refine wl_join0 (Δ := []) (N := Try.f37.ntmps) 18 [(1, .pointer (some ⟨g1, 0, none⟩)), (2, .bool false), (20, .bool ((((decide (1 ≤ a0.Number)) && (decide (a0.Number ≤ 2147483647))) && (decide (1 ≤ a0.Size))) && (decide (a0.Size ≤ 268435456))))] ?_ ?_
     · intro a hst
       refine r_t hst trivial rfl (x_move hst rfl) ?_; intro a hst
       refine wl_join0 (Δ := []) (N := Try.f37.ntmps) 24 [(1, .pointer (some ⟨g1, 0, none⟩)), (2, .bool false), (26, .bool (((((decide (1 ≤ a0.Number)) && (decide (a0.Number ≤ 2147483647))) && (decide (1 ≤ a0.Size))) && (decide (a0.Size ≤ 268435456))) && (decide (1 ≤ (a0.Least.size : Int)))))] ?_ ?_
       · intro a hst
         refine r_t hst trivial rfl (x_move hst rfl) ?_; intro a hst
         refine wl_join0 (Δ := []) (N := Try.f37.ntmps) 30 [(1, .pointer (some ⟨g1, 0, none⟩)), (2, .bool false), (32, .bool ((((((decide (1 ≤ a0.Number)) && (decide (a0.Number ≤ 2147483647))) && (decide (1 ≤ a0.Size))) && (decide (a0.Size ≤ 268435456))) && (decide (1 ≤ (a0.Least.size : Int)))) && (decide ((a0.Least.size : Int) ≤ 1024))))] ?_ ?_
         · intro a hst
           refine r_t hst trivial rfl (x_move hst rfl) ?_; intro a hst
           refine wl_join0 (Δ := []) (N := Try.f37.ntmps) 37 [(1, .pointer (some ⟨g1, 0, none⟩)), (2, .bool false), (39, .bool (((((((decide (1 ≤ a0.Number)) && (decide (a0.Number ≤ 2147483647))) && (decide (1 ≤ a0.Size))) && (decide (a0.Size ≤ 268435456))) && (decide (1 ≤ (a0.Least.size : Int)))) && (decide ((a0.Least.size : Int) ≤ 1024))) && (sLt a0.Least a0.Limit)))] ?_ ?_
           · intro a hst
             refine r_t hst trivial rfl (x_move hst rfl) ?_; intro a hst
             refine wl_join0 (Δ := []) (N := Try.f37.ntmps) 43 [(1, .pointer (some ⟨g1, 0, none⟩)), (2, .bool false), (45, .bool ((((((((decide (1 ≤ a0.Number)) && (decide (a0.Number ≤ 2147483647))) && (decide (1 ≤ a0.Size))) && (decide (a0.Size ≤ 268435456))) && (decide (1 ≤ (a0.Least.size : Int)))) && (decide ((a0.Least.size : Int) ≤ 1024))) && (sLt a0.Least a0.Limit)) && (decide ((a0.Limit.size : Int) ≤ 1025))))] ?_ ?_
             · intro a hst
               refine r_t hst trivial rfl (x_move hst rfl) ?_; intro a hst
               refine wl_join0 (Δ := []) (N := Try.f37.ntmps) 48 [(1, .pointer (some ⟨g1, 0, none⟩)), (2, .bool false), (50, .bool (((((((((decide (1 ≤ a0.Number)) && (decide (a0.Number ≤ 2147483647))) && (decide (1 ≤ a0.Size))) && (decide (a0.Size ≤ 268435456))) && (decide (1 ≤ (a0.Least.size : Int)))) && (decide ((a0.Least.size : Int) ≤ 1024))) && (sLt a0.Least a0.Limit)) && (decide ((a0.Limit.size : Int) ≤ 1025))) && (decide (1 ≤ a0.Low))))] ?_ ?_
               · intro a hst
                 refine r_t hst trivial rfl (x_move hst rfl) ?_; intro a hst
                 refine wl_join0 (Δ := []) (N := Try.f37.ntmps) 55 [(1, .pointer (some ⟨g1, 0, none⟩)), (2, .bool false), (57, .bool ((((((((((decide (1 ≤ a0.Number)) && (decide (a0.Number ≤ 2147483647))) && (decide (1 ≤ a0.Size))) && (decide (a0.Size ≤ 268435456))) && (decide (1 ≤ (a0.Least.size : Int)))) && (decide ((a0.Least.size : Int) ≤ 1024))) && (sLt a0.Least a0.Limit)) && (decide ((a0.Limit.size : Int) ≤ 1025))) && (decide (1 ≤ a0.Low))) && (decide (a0.Low ≤ a0.High))))] ?_ ?_
                 · intro a hst
                   refine r_t hst trivial rfl (x_move hst rfl) ?_; intro a hst
                   refine wl_join0 (Δ := []) (N := Try.f37.ntmps) 60 [(2, .bool false), (62, .bool (((((((((((decide (1 ≤ a0.Number)) && (decide (a0.Number ≤ 2147483647))) && (decide (1 ≤ a0.Size))) && (decide (a0.Size ≤ 268435456))) && (decide (1 ≤ (a0.Least.size : Int)))) && (decide ((a0.Least.size : Int) ≤ 1024))) && (sLt a0.Least a0.Limit)) && (decide ((a0.Limit.size : Int) ≤ 1025))) && (decide (1 ≤ a0.Low))) && (decide (a0.Low ≤ a0.High))) && (decide (a0.High ≤ 72057594037927935))))] ?_ ?_
                   · intro a hst
                     refine r_t hst trivial rfl (x_assign hst rfl) ?_; intro a hst
                     refine wpL_nil ?_
                     refine then_normal ?_
                     refine wq_ret ?_
                     obtain rfl := Option.some.inj H
                     exact ret1 hst rfl rfl ⟨rfl, hsh.pick []⟩
                   · intro hj
                     by_cases c12 : ((((((((((decide (1 ≤ a0.Number)) && (decide (a0.Number ≤ 2147483647))) && (decide (1 ≤ a0.Size))) && (decide (a0.Size ≤ 268435456))) && (decide (1 ≤ (a0.Least.size : Int)))) && (decide ((a0.Least.size : Int) ≤ 1024))) && (sLt a0.Least a0.Limit)) && (decide ((a0.Limit.size : Int) ≤ 1025))) && (decide (1 ≤ a0.Low))) && (decide (a0.Low ≤ a0.High))) = true
                     · refine r_t hst (wt_of 58 rfl rfl c12) rfl (x_fieldAddr (j' := 5) hst fa_43_5 rfl rfl) ?_; intro a hst
                       refine r_t hst (wt_of 58 rfl rfl c12) rfl (x_loadB (i := 0) hst hsh sc_24 rfl rfl rfl) ?_; intro a hst
                       refine r_t hst (wt_of 58 rfl rfl c12) rfl (x_cmpI (b := decide (a0.High ≤ 72057594037927935)) hst rfl rfl rfl) ?_; intro a hst
                       refine r_t hst trivial rfl (x_andT hst rfl c12 rfl) ?_; intro a hst
                       exact hj _ (hst.keep _ ⟨rfl, rfl, trivial⟩)
                     · replace c12 := Bool.eq_false_iff.2 c12
                       refine r_not hst 58 rfl rfl c12 rfl ?_; intro a hst
                       refine r_not hst 58 rfl rfl c12 rfl ?_; intro a hst
                       refine r_not hst 58 rfl rfl c12 rfl ?_; intro a hst
                       refine r_t hst trivial rfl (x_andF (decide (a0.High ≤ 72057594037927935)) hst rfl c12 rfl) ?_; intro a hst
                       exact hj _ (hst.keep _ ⟨rfl, rfl, trivial⟩)
                 · intro hj
                   by_cases c11 : (((((((((decide (1 ≤ a0.Number)) && (decide (a0.Number ≤ 2147483647))) && (decide (1 ≤ a0.Size))) && (decide (a0.Size ≤ 268435456))) && (decide (1 ≤ (a0.Least.size : Int)))) && (decide ((a0.Least.size : Int) ≤ 1024))) && (sLt a0.Least a0.Limit)) && (decide ((a0.Limit.size : Int) ≤ 1025))) && (decide (1 ≤ a0.Low))) = true
                   · refine r_t hst (wt_of 51 rfl rfl c11) rfl (x_fieldAddr (j' := 4) hst fa_43_4 rfl rfl) ?_; intro a hst
                     refine r_t hst (wt_of 51 rfl rfl c11) rfl (x_loadB (i := 0) hst hsh sc_24 rfl rfl rfl) ?_; intro a hst
                     refine r_t hst (wt_of 51 rfl rfl c11) rfl (x_fieldAddr (j' := 5) hst fa_43_5 rfl rfl) ?_; intro a hst
                     refine r_t hst (wt_of 51 rfl rfl c11) rfl (x_loadB (i := 0) hst hsh sc_24 rfl rfl rfl) ?_; intro a hst
                     refine r_t hst (wt_of 51 rfl rfl c11) rfl (x_cmpI (b := decide (a0.Low ≤ a0.High)) hst rfl rfl rfl) ?_; intro a hst
                     refine r_t hst trivial rfl (x_andT hst rfl c11 rfl) ?_; intro a hst
                     exact hj _ (hst.keep _ ⟨rfl, rfl, rfl, trivial⟩)
                   · replace c11 := Bool.eq_false_iff.2 c11
                     refine r_not hst 51 rfl rfl c11 rfl ?_; intro a hst
                     refine r_not hst 51 rfl rfl c11 rfl ?_; intro a hst
                     refine r_not hst 51 rfl rfl c11 rfl ?_; intro a hst
                     refine r_not hst 51 rfl rfl c11 rfl ?_; intro a hst
                     refine r_not hst 51 rfl rfl c11 rfl ?_; intro a hst
                     refine r_t hst trivial rfl (x_andF (decide (a0.Low ≤ a0.High)) hst rfl c11 rfl) ?_; intro a hst
                     exact hj _ (hst.keep _ ⟨rfl, rfl, rfl, trivial⟩)
               · intro hj
                 by_cases c10 : ((((((((decide (1 ≤ a0.Number)) && (decide (a0.Number ≤ 2147483647))) && (decide (1 ≤ a0.Size))) && (decide (a0.Size ≤ 268435456))) && (decide (1 ≤ (a0.Least.size : Int)))) && (decide ((a0.Least.size : Int) ≤ 1024))) && (sLt a0.Least a0.Limit)) && (decide ((a0.Limit.size : Int) ≤ 1025))) = true
                 · refine r_t hst (wt_of 46 rfl rfl c10) rfl (x_fieldAddr (j' := 4) hst fa_43_4 rfl rfl) ?_; intro a hst
                   refine r_t hst (wt_of 46 rfl rfl c10) rfl (x_loadB (i := 0) hst hsh sc_24 rfl rfl rfl) ?_; intro a hst
                   refine r_t hst (wt_of 46 rfl rfl c10) rfl (x_cmpI (b := decide (1 ≤ a0.Low)) hst rfl rfl rfl) ?_; intro a hst
                   refine r_t hst trivial rfl (x_andT hst rfl c10 rfl) ?_; intro a hst
                   exact hj _ (hst.keep _ ⟨rfl, rfl, rfl, trivial⟩)
                 · replace c10 := Bool.eq_false_iff.2 c10
                   refine r_not hst 46 rfl rfl c10 rfl ?_; intro a hst
                   refine r_not hst 46 rfl rfl c10 rfl ?_; intro a hst
                   refine r_not hst 46 rfl rfl c10 rfl ?_; intro a hst
                   refine r_t hst trivial rfl (x_andF (decide (1 ≤ a0.Low)) hst rfl c10 rfl) ?_; intro a hst
                   exact hj _ (hst.keep _ ⟨rfl, rfl, rfl, trivial⟩)
             · intro hj
               by_cases c9 : (((((((decide (1 ≤ a0.Number)) && (decide (a0.Number ≤ 2147483647))) && (decide (1 ≤ a0.Size))) && (decide (a0.Size ≤ 268435456))) && (decide (1 ≤ (a0.Least.size : Int)))) && (decide ((a0.Least.size : Int) ≤ 1024))) && (sLt a0.Least a0.Limit)) = true
               · refine r_t hst (wt_of 40 rfl rfl c9) rfl (x_fieldAddr (j' := 3) hst fa_43_3 rfl rfl) ?_; intro a hst
                 refine r_t hst (wt_of 40 rfl rfl c9) rfl (x_loadB (i := 0) hst hsh sc_9 rfl rfl rfl) ?_; intro a hst
                 refine r_t hst (wt_of 40 rfl rfl c9) rfl (x_lenStr hst Try.underlying9 rfl) ?_; intro a hst
                 refine r_t hst (wt_of 40 rfl rfl c9) rfl (x_cmpI (b := decide ((a0.Limit.size : Int) ≤ 1025)) hst rfl rfl rfl) ?_; intro a hst
                 refine r_t hst trivial rfl (x_andT hst rfl c9 rfl) ?_; intro a hst
                 exact hj _ (hst.keep _ ⟨rfl, rfl, rfl, trivial⟩)
               · replace c9 := Bool.eq_false_iff.2 c9
                 refine r_not hst 40 rfl rfl c9 rfl ?_; intro a hst
                 refine r_not hst 40 rfl rfl c9 rfl ?_; intro a hst
                 refine r_not hst 40 rfl rfl c9 rfl ?_; intro a hst
                 refine r_not hst 40 rfl rfl c9 rfl ?_; intro a hst
                 refine r_t hst trivial rfl (x_andF (decide ((a0.Limit.size : Int) ≤ 1025)) hst rfl c9 rfl) ?_; intro a hst
                 exact hj _ (hst.keep _ ⟨rfl, rfl, rfl, trivial⟩)
           · intro hj
             by_cases c8 : ((((((decide (1 ≤ a0.Number)) && (decide (a0.Number ≤ 2147483647))) && (decide (1 ≤ a0.Size))) && (decide (a0.Size ≤ 268435456))) && (decide (1 ≤ (a0.Least.size : Int)))) && (decide ((a0.Least.size : Int) ≤ 1024))) = true
             · refine r_t hst (wt_of 33 rfl rfl c8) rfl (x_fieldAddr (j' := 2) hst fa_43_2 rfl rfl) ?_; intro a hst
               refine r_t hst (wt_of 33 rfl rfl c8) rfl (x_loadB (i := 0) hst hsh sc_9 rfl rfl rfl) ?_; intro a hst
               refine r_t hst (wt_of 33 rfl rfl c8) rfl (x_fieldAddr (j' := 3) hst fa_43_3 rfl rfl) ?_; intro a hst
               refine r_t hst (wt_of 33 rfl rfl c8) rfl (x_loadB (i := 0) hst hsh sc_9 rfl rfl rfl) ?_; intro a hst
               refine r_t hst (wt_of 33 rfl rfl c8) rfl (x_cmpS (b := sLt a0.Least a0.Limit) hst rfl rfl rfl) ?_; intro a hst
               refine r_t hst trivial rfl (x_andT hst rfl c8 rfl) ?_; intro a hst
               exact hj _ (hst.keep _ ⟨rfl, rfl, rfl, trivial⟩)
             · replace c8 := Bool.eq_false_iff.2 c8
               refine r_not hst 33 rfl rfl c8 rfl ?_; intro a hst
               refine r_not hst 33 rfl rfl c8 rfl ?_; intro a hst
               refine r_not hst 33 rfl rfl c8 rfl ?_; intro a hst
               refine r_not hst 33 rfl rfl c8 rfl ?_; intro a hst
               refine r_not hst 33 rfl rfl c8 rfl ?_; intro a hst
               refine r_t hst trivial rfl (x_andF (sLt a0.Least a0.Limit) hst rfl c8 rfl) ?_; intro a hst
               exact hj _ (hst.keep _ ⟨rfl, rfl, rfl, trivial⟩)
         · intro hj
           by_cases c7 : (((((decide (1 ≤ a0.Number)) && (decide (a0.Number ≤ 2147483647))) && (decide (1 ≤ a0.Size))) && (decide (a0.Size ≤ 268435456))) && (decide (1 ≤ (a0.Least.size : Int)))) = true
           · refine r_t hst (wt_of 27 rfl rfl c7) rfl (x_fieldAddr (j' := 2) hst fa_43_2 rfl rfl) ?_; intro a hst
             refine r_t hst (wt_of 27 rfl rfl c7) rfl (x_loadB (i := 0) hst hsh sc_9 rfl rfl rfl) ?_; intro a hst
             refine r_t hst (wt_of 27 rfl rfl c7) rfl (x_lenStr hst Try.underlying9 rfl) ?_; intro a hst
             refine r_t hst (wt_of 27 rfl rfl c7) rfl (x_cmpI (b := decide ((a0.Least.size : Int) ≤ 1024)) hst rfl rfl rfl) ?_; intro a hst
             refine r_t hst trivial rfl (x_andT hst rfl c7 rfl) ?_; intro a hst
             exact hj _ (hst.keep _ ⟨rfl, rfl, rfl, trivial⟩)
           · replace c7 := Bool.eq_false_iff.2 c7
             refine r_not hst 27 rfl rfl c7 rfl ?_; intro a hst
             refine r_not hst 27 rfl rfl c7 rfl ?_; intro a hst
             refine r_not hst 27 rfl rfl c7 rfl ?_; intro a hst
             refine r_not hst 27 rfl rfl c7 rfl ?_; intro a hst
             refine r_t hst trivial rfl (x_andF (decide ((a0.Least.size : Int) ≤ 1024)) hst rfl c7 rfl) ?_; intro a hst
             exact hj _ (hst.keep _ ⟨rfl, rfl, rfl, trivial⟩)
       · intro hj
         by_cases c6 : ((((decide (1 ≤ a0.Number)) && (decide (a0.Number ≤ 2147483647))) && (decide (1 ≤ a0.Size))) && (decide (a0.Size ≤ 268435456))) = true
         · refine r_t hst (wt_of 21 rfl rfl c6) rfl (x_fieldAddr (j' := 2) hst fa_43_2 rfl rfl) ?_; intro a hst
           refine r_t hst (wt_of 21 rfl rfl c6) rfl (x_loadB (i := 0) hst hsh sc_9 rfl rfl rfl) ?_; intro a hst
           refine r_t hst (wt_of 21 rfl rfl c6) rfl (x_lenStr hst Try.underlying9 rfl) ?_; intro a hst
           refine r_t hst (wt_of 21 rfl rfl c6) rfl (x_cmpI (b := decide (1 ≤ (a0.Least.size : Int))) hst rfl rfl rfl) ?_; intro a hst
           refine r_t hst trivial rfl (x_andT hst rfl c6 rfl) ?_; intro a hst
           exact hj _ (hst.keep _ ⟨rfl, rfl, rfl, trivial⟩)
         · replace c6 := Bool.eq_false_iff.2 c6
           refine r_not hst 21 rfl rfl c6 rfl ?_; intro a hst
           refine r_not hst 21 rfl rfl c6 rfl ?_; intro a hst
           refine r_not hst 21 rfl rfl c6 rfl ?_; intro a hst
           refine r_not hst 21 rfl rfl c6 rfl ?_; intro a hst
           refine r_t hst trivial rfl (x_andF (decide (1 ≤ (a0.Least.size : Int))) hst rfl c6 rfl) ?_; intro a hst
           exact hj _ (hst.keep _ ⟨rfl, rfl, rfl, trivial⟩)
     · intro hj
       by_cases c5 : (((decide (1 ≤ a0.Number)) && (decide (a0.Number ≤ 2147483647))) && (decide (1 ≤ a0.Size))) = true
       · refine r_t hst (wt_of 16 rfl rfl c5) rfl (x_fieldAddr (j' := 1) hst fa_43_1 rfl rfl) ?_; intro a hst
         refine r_t hst (wt_of 16 rfl rfl c5) rfl (x_loadB (i := 0) hst hsh sc_3 rfl rfl rfl) ?_; intro a hst
         refine r_t hst (wt_of 16 rfl rfl c5) rfl (x_cmpI (b := decide (a0.Size ≤ 268435456)) hst rfl rfl rfl) ?_; intro a hst
         refine r_t hst trivial rfl (x_andT hst rfl c5 rfl) ?_; intro a hst
         exact hj _ (hst.keep _ ⟨rfl, rfl, rfl, trivial⟩)
       · replace c5 := Bool.eq_false_iff.2 c5
         refine r_not hst 16 rfl rfl c5 rfl ?_; intro a hst
         refine r_not hst 16 rfl rfl c5 rfl ?_; intro a hst
         refine r_not hst 16 rfl rfl c5 rfl ?_; intro a hst
         refine r_t hst trivial rfl (x_andF (decide (a0.Size ≤ 268435456)) hst rfl c5 rfl) ?_; intro a hst
         exact hj _ (hst.keep _ ⟨rfl, rfl, rfl, trivial⟩)
   · intro hj
     by_cases c4 : ((decide (1 ≤ a0.Number)) && (decide (a0.Number ≤ 2147483647))) = true
     · refine r_t hst (wt_of 11 rfl rfl c4) rfl (x_fieldAddr (j' := 1) hst fa_43_1 rfl rfl) ?_; intro a hst
       refine r_t hst (wt_of 11 rfl rfl c4) rfl (x_loadB (i := 0) hst hsh sc_3 rfl rfl rfl) ?_; intro a hst
       refine r_t hst (wt_of 11 rfl rfl c4) rfl (x_cmpI (b := decide (1 ≤ a0.Size)) hst rfl rfl rfl) ?_; intro a hst
       refine r_t hst trivial rfl (x_andT hst rfl c4 rfl) ?_; intro a hst
       exact hj _ (hst.keep _ ⟨rfl, rfl, rfl, trivial⟩)
     · replace c4 := Bool.eq_false_iff.2 c4
       refine r_not hst 11 rfl rfl c4 rfl ?_; intro a hst
       refine r_not hst 11 rfl rfl c4 rfl ?_; intro a hst
       refine r_not hst 11 rfl rfl c4 rfl ?_; intro a hst
       refine r_t hst trivial rfl (x_andF (decide (1 ≤ a0.Size)) hst rfl c4 rfl) ?_; intro a hst
       exact hj _ (hst.keep _ ⟨rfl, rfl, rfl, trivial⟩)
 · intro hj
   by_cases c3 : (decide (1 ≤ a0.Number)) = true
   · refine r_t hst (wt_of 6 rfl rfl c3) rfl (x_fieldAddr (j' := 0) hst fa_43_0 rfl rfl) ?_; intro a hst
     refine r_t hst (wt_of 6 rfl rfl c3) rfl (x_loadB (i := 0) hst hsh sc_3 rfl rfl rfl) ?_; intro a hst
     refine r_t hst (wt_of 6 rfl rfl c3) rfl (x_cmpI (b := decide (a0.Number ≤ 2147483647)) hst rfl rfl rfl) ?_; intro a hst
     refine r_t hst trivial rfl (x_andT hst rfl c3 rfl) ?_; intro a hst
     exact hj _ (hst.keep _ ⟨rfl, rfl, rfl, trivial⟩)
   · replace c3 := Bool.eq_false_iff.2 c3
     refine r_not hst 6 rfl rfl c3 rfl ?_; intro a hst
     refine r_not hst 6 rfl rfl c3 rfl ?_; intro a hst
     refine r_not hst 6 rfl rfl c3 rfl ?_; intro a hst
     refine r_t hst trivial rfl (x_andF (decide (a0.Number ≤ 2147483647)) hst rfl c3 rfl) ?_; intro a hst
     exact hj _ (hst.keep _ ⟨rfl, rfl, rfl, trivial⟩)

set_option maxHeartbeats 4000000 in
set_option maxRecDepth 100000 in
theorem version_Valid.calls (k : Nat) (w : World) (va0 : Value) (Za0 : Nat → Prop) (wra0 : World) (hsa0 : Same Za0 wra0 w) (a0 : (List (List File))) (hra0 : RD (Kd.slice 43 k_File) Za0 wra0 va0 a0) (r : Bool) (h : version_Valid k a0 = some r) :
    Calls Try.prog 12 ([va0] : List Value).toArray w fun e w' => e = .returned (.bool r) ∧ SH (fun _ => False) w w' [] := by
 have H := h
 clear h
 unfold version_Valid at H
 refine calls_enter Try.func12 rfl rfl ?_
 intro a hst
 have hsh := SH.zero (fun _ => False) w
 refine wq_seq ?_
 refine wq_region_lit (.inl rfl) ?_
 refine r_t hst trivial rfl (x_assign hst rfl) ?_; intro a hst
 refine wpL_nil ?_
 refine then_normal ?_
 refine wq_seq ?_
 refine wq_seq ?_
 refine wq_region_lit (.inl rfl) ?_
 refine r_t hst trivial rfl (x_move hst rfl) ?_; intro a hst
 refine r_t hst trivial rfl (x_lenSl hst Try.underlying23 rfl hra0.slen) ?_; intro a hst
 refine r_t hst trivial rfl (x_cmpI (b := decide ((a0.length : Int) < 1)) hst rfl rfl rfl) ?_; intro a hst
 refine r_t hst trivial rfl (x_move hst rfl) ?_; intro a hst
 refine wl_join0 (Δ := []) (N := Try.f12.ntmps) 8 [(0, va0), (2, .bool false), (15, .bool ((decide ((a0.length : Int) < 1)) || (decide (7 < (a0.length : Int)))))] ?_ ?_
 · intro a hst
   refine wpL_nil ?_
   refine then_normal ?_
   by_cases c4 : ((decide ((a0.length : Int) < 1)) || (decide (7 < (a0.length : Int)))) = true
   · rw [if_pos c4] at H
     refine wq_condT hst rfl c4 ?_
     refine wq_seq ?_
     refine wq_region_lit (.inl rfl) ?_
     refine r_t hst trivial rfl (x_assign hst rfl) ?_; intro a hst
     refine wpL_nil ?_
     refine then_normal ?_
     refine wq_ret ?_
     refine then_ret ?_
     obtain rfl := Option.some.inj H
     exact ret1 hst rfl rfl ⟨rfl, hsh.pick []⟩
   · rw [if_neg c4] at H
     replace c4 := Bool.eq_false_iff.2 c4
     refine wq_condF hst rfl c4 ?_
     refine wq_skip ?_
     refine then_normal ?_
     refine wq_seq ?_
     refine wq_region_lit (.inl rfl) ?_
     refine r_makeMap (q := .i64) (r := .i64) 3 3 hst hsh trivial rfl ?_
     intro g5 a w6 hgg5 hsh hst
     refine r_t hst trivial rfl (x_assign hst rfl) ?_; intro a hst
     refine wpL_nil ?_
     refine then_normal ?_
     refine wq_seq ?_
     refine wq_seq ?_
     refine wq_region_lit (.inl rfl) ?_
     refine r_t hst trivial rfl (x_move hst rfl) ?_; intro a hst
     refine r_t hst trivial rfl (x_lenSl hst Try.underlying23 rfl hra0.slen) ?_; intro a hst
     refine r_t hst trivial rfl (x_move hst rfl) ?_; intro a hst
     refine wpL_nil ?_
     refine then_normal ?_
     refine wq_block ?_
     refine wq_loop_fuel (fun k_237 a w' => ∃ (l_188 : (List (Int × Int))), ∃ (i_189 : Int), version_Valid.l0 a0 k_237 l_188 i_189 = some r ∧ ST [] Try.f12.ntmps a [(2, .bool false), (3, .map (some g5)), (17, va0), (18, .int .i64 (a0.length : Int)), (19, .int .i64 i_189)] ∧ SH (fun _ => False) w w' [MapI Try.prog .i64 .i64 3 3 g5 l_188]) k ?_ ?_
     · exact ⟨([]), 0, H, hst.keep _ ⟨rfl, rfl, rfl, rfl, rfl, trivial⟩, hsh.pick [0]⟩
     · rintro k_237 a W_190 ⟨l_188, i_189, H, hst, hsh⟩
       cases k_237 with
       | zero => rw [version_Valid.l0] at H; cases H
       | succ k_237 =>
        rw [version_Valid.l0] at H
        refine wq_seq ?_
        refine wq_region_lit (.inl rfl) ?_
        refine r_t hst trivial rfl (x_cmpI (b := decide (i_189 < (a0.length : Int))) hst rfl rfl rfl) ?_; intro a hst
        refine wpL_nil ?_
        refine then_normal ?_
        refine wq_seq ?_
        by_cases c2168 : (decide (i_189 < (a0.length : Int))) = true
        · rw [if_pos c2168] at H
          refine wq_condT hst rfl c2168 ?_
          refine wq_skip ?_
          refine then_normal ?_
          obtain ⟨J_260, hJ_260, H⟩ := Jn.elim H
          refine wq_cut (fun a w' => ∃ (l_258 : (List (Int × Int))), J_260 l_258 = some r ∧ ST [] Try.f12.ntmps a [(2, .bool false), (3, .map (some g5)), (17, va0), (18, .int .i64 (a0.length : Int)), (19, .int .i64 i_189)] ∧ SH (fun _ => False) w w' [MapI Try.prog .i64 .i64 3 3 g5 l_258]) ?_ ?_
          · rintro a W_259 ⟨l_258, H, hst, hsh⟩
            subst hJ_260
            dsimp only at H
            refine wq_region_lit (.inl rfl) ?_
            refine r_t hst trivial rfl (x_arI (r := w64 (i_189 + 1)) hst rfl rfl rfl) ?_; intro a hst
            refine r_t hst trivial rfl (x_move hst rfl) ?_; intro a hst
            refine wpL_nil ?_
            refine then_normal ?_
            exact ⟨k_237, Nat.lt_succ_self _, l_258, (w64 (i_189 + 1)), H, hst.keep _ ⟨rfl, rfl, rfl, rfl, rfl, trivial⟩, hsh.pick [0]⟩
          · refine wq_block ?_
            refine wq_seq ?_
            refine wq_region_lit (.inl rfl) ?_
            refine r_t hst trivial rfl (x_move hst rfl) ?_; intro a hst
            obtain ⟨x2384, hx2384, H⟩ := Option.bind_eq_some_iff.1 H
            refine r_t hst trivial rfl (x_indexAddr hst Try.underlying23 el_39 rfl rfl hra0 hx2384) ?_; intro a hst
            obtain ⟨_, hk2385, hc2386⟩ := RD.cells2 hra0 hx2384
            obtain ⟨v2387, rfl, hr2388⟩ := hk2385
            refine r_t hst trivial rfl (x_loadC hst sc_39 rfl (hc2386 _ (Same.sh0 hsa0 hsh) 0 _ rfl)) ?_; intro a hst
            refine r_t hst trivial rfl (x_assign hst rfl) ?_; intro a hst
            refine r_t hst trivial rfl (x_assign hst rfl) ?_; intro a hst
            refine wpL_nil ?_
            refine then_normal ?_
            refine wq_seq ?_
            refine wq_region_lit (.inl rfl) ?_
            refine r_t hst trivial rfl (x_move hst rfl) ?_; intro a hst
            refine r_t hst trivial rfl (x_lenSl hst Try.underlying39 rfl hr2388.slen) ?_; intro a hst
            refine r_t hst trivial rfl (x_move hst rfl) ?_; intro a hst
            refine wpL_nil ?_
            refine then_normal ?_
            refine wq_block ?_
            refine wq_loop_fuel (fun k_277 a w' => ∃ (l_268 : (List (Int × Int))), ∃ (i_269 : Int), version_Valid.l1 i_189 J_260 x2384 k_277 l_268 i_269 = some r ∧ ST [] Try.f12.ntmps a [(2, .bool false), (3, .map (some g5)), (4, .int .i64 i_189), (5, v2387), (17, va0), (18, .int .i64 (a0.length : Int)), (19, .int .i64 i_189), (24, v2387), (25, .int .i64 (x2384.length : Int)), (26, .int .i64 i_269)] ∧ SH (fun _ => False) w w' [MapI Try.prog .i64 .i64 3 3 g5 l_268]) k_237 ?_ ?_
            · exact ⟨l_188, 0, H, hst.keep _ ⟨rfl, rfl, rfl, rfl, rfl, rfl, rfl, rfl, rfl, rfl, trivial⟩, hsh.pick [0]⟩
            · rintro k_277 a W_270 ⟨l_268, i_269, H, hst, hsh⟩
              cases k_277 with
              | zero => rw [version_Valid.l1] at H; cases H
              | succ k_277 =>
               rw [version_Valid.l1] at H
               refine wq_seq ?_
               refine wq_region_lit (.inl rfl) ?_
               refine r_t hst trivial rfl (x_cmpI (b := decide (i_269 < (x2384.length : Int))) hst rfl rfl rfl) ?_; intro a hst
               refine wpL_nil ?_
               refine then_normal ?_
               refine wq_seq ?_
               by_cases c2530 : (decide (i_269 < (x2384.length : Int))) = true
               · rw [if_pos c2530] at H
                 refine wq_condT hst rfl c2530 ?_
                 refine wq_skip ?_
                 refine then_normal ?_
                 obtain ⟨J_280, hJ_280, H⟩ := Jn.elim H
                 refine wq_cut (fun a w' => ∃ (l_278 : (List (Int × Int))), J_280 l_278 = some r ∧ ST [] Try.f12.ntmps a [(2, .bool false), (3, .map (some g5)), (4, .int .i64 i_189), (5, v2387), (17, va0), (18, .int .i64 (a0.length : Int)), (19, .int .i64 i_189), (24, v2387), (25, .int .i64 (x2384.length : Int)), (26, .int .i64 i_269)] ∧ SH (fun _ => False) w w' [MapI Try.prog .i64 .i64 3 3 g5 l_278]) ?_ ?_
                 · rintro a W_279 ⟨l_278, H, hst, hsh⟩
                   subst hJ_280
                   dsimp only at H
                   refine wq_region_lit (.inl rfl) ?_
                   refine r_t hst trivial rfl (x_arI (r := w64 (i_269 + 1)) hst rfl rfl rfl) ?_; intro a hst
                   refine r_t hst trivial rfl (x_move hst rfl) ?_; intro a hst
                   refine wpL_nil ?_
                   refine then_normal ?_
                   exact ⟨k_277, Nat.lt_succ_self _, l_278, (w64 (i_269 + 1)), H, hst.keep _ ⟨rfl, rfl, rfl, rfl, rfl, rfl, rfl, rfl, rfl, rfl, trivial⟩, hsh.pick [0]⟩
                 · refine wq_block ?_
                   refine wq_seq ?_
                   refine wq_region_lit (.inl rfl) ?_
                   refine r_t hst trivial rfl (x_move hst rfl) ?_; intro a hst
                   obtain ⟨x2565, hx2565, H⟩ := Option.bind_eq_some_iff.1 H
                   refine r_t hst trivial rfl (x_indexAddr hst Try.underlying39 el_43 rfl rfl hr2388 hx2565) ?_; intro a hst
                   refine r_t hst trivial rfl (x_loadEsF (j := 0) (cs := [.int .i64 x2565.Number, .int .i64 x2565.Size, .string x2565.Least, .string x2565.Limit, .int .u64 x2565.Low, .int .u64 x2565.High]) (ps := [.int .i64 x2565.Number, .int .i64 x2565.Size, .string x2565.Least, .string x2565.Limit, .int .u64 x2565.Low, .int .u64 x2565.High]) hst ag_43 rfl hr2388 (Same.sh0 hsa0 hsh) hx2565 rfl (fun _ h => h) rfl) ?_; intro a hst
                   refine r_alloc hst hsh trivial rfl zr_43 ?_
                   intro g2566 a w2567 hgg2566 hsh hst
                   refine r_t hst trivial rfl (x_assign hst rfl) ?_; intro a hst
                   refine r_storeBs (i := 0) (cs' := [.int .i64 x2565.Number, .int .i64 x2565.Size, .string x2565.Least, .string x2565.Limit, .int .u64 x2565.Low, .int .u64 x2565.High]) (vs := [.int .i64 x2565.Number, .int .i64 x2565.Size, .string x2565.Least, .string x2565.Limit, .int .u64 x2565.Low, .int .u64 x2565.High]) hst hsh trivial ag_43 rfl rfl rfl rfl rfl rfl ?_; intro a w2568 hsh hst
                   refine wpL_nil ?_
                   refine then_normal ?_
                   refine wq_seq ?_
                   refine wq_region_lit (.inl rfl) ?_
                   refine r_t hst trivial rfl (x_move hst rfl) ?_; intro a hst
                   refine r_t hst trivial rfl (x_fieldAddr (j' := 0) hst fa_43_0 rfl rfl) ?_; intro a hst
                   refine r_t hst trivial rfl (x_loadB (i := 0) hst hsh sc_3 rfl rfl rfl) ?_; intro a hst
                   by_cases c2569 : wfi .i64 x2565.Number = true
                   · rw [if_pos c2569] at H
                     refine r_t hst trivial rfl (x_lookupI (i := 1) hst hsh Try.underlying66 Try.underlying3 Try.underlying3 (fun _ => by kernel_rfl) rfl rfl rfl c2569) ?_; intro a hst
                     refine r_t hst trivial rfl (x_arI (r := w64 ((mget l_268 x2565.Number) + 1)) hst rfl rfl rfl) ?_; intro a hst
                     obtain ⟨l2570, hl2570, H⟩ := Option.bind_eq_some_iff.1 H
                     refine r_mapUpdateI (i := 1) hst hsh trivial Try.underlying66 Try.underlying3 Try.underlying3 rfl rfl rfl rfl c2569 hl2570 ?_; intro a w2571 hsh hst
                     refine wpL_nil ?_
                     refine then_normal ?_
                     refine wq_seq ?_
                     refine wq_seq ?_
                     refine wq_region_lit (.inl rfl) ?_
                     refine r_t hst trivial rfl (x_loadBs (i := 1) (ps := [.int .i64 x2565.Number, .int .i64 x2565.Size, .string x2565.Least, .string x2565.Limit, .int .u64 x2565.Low, .int .u64 x2565.High]) hst hsh ag_43 rfl rfl rfl) ?_; intro a hst
                     obtain ⟨r2576, hr2576, H⟩ := Option.bind_eq_some_iff.1 H
                     refine r_callD hst trivial rfl fn_37 rfl (version_may.calls _ x2565 r2576 hr2576) ?_
                     rintro e w2577 ⟨rfl, hc⟩
                     replace hsh := hsh.call0 hc
                     clear hc
                     refine ⟨_, rfl, fun a hst => ?_⟩
                     refine r_t hst trivial rfl (x_notB hst rfl) ?_; intro a hst
                     refine r_t hst trivial rfl (x_move hst rfl) ?_; intro a hst
                     refine wl_join0 (Δ := []) (N := Try.f12.ntmps) 10 [(2, .bool false), (3, .map (some g5)), (4, .int .i64 i_189), (5, v2387), (6, .int .i64 i_269), (7, .pointer (some ⟨g2566, 0, none⟩)), (17, va0), (18, .int .i64 (a0.length : Int)), (19, .int .i64 i_189), (24, v2387), (25, .int .i64 (x2384.length : Int)), (26, .int .i64 i_269), (45, .bool ((!r2576) || (decide (1 < (mget l2570 x2565.Number)))))] ?_ ?_
                     · intro a hst
                       refine wpL_nil ?_
                       refine then_normal ?_
                       by_cases c2579 : ((!r2576) || (decide (1 < (mget l2570 x2565.Number)))) = true
                       · rw [if_pos c2579] at H
                         refine wq_condT hst rfl c2579 ?_
                         refine wq_seq ?_
                         refine wq_region_lit (.inl rfl) ?_
                         refine r_t hst trivial rfl (x_assign hst rfl) ?_; intro a hst
                         refine wpL_nil ?_
                         refine then_normal ?_
                         refine wq_ret ?_
                         refine then_ret ?_
                         refine block_ret ?_
                         refine then_ret ?_
                         refine then_ret ?_
                         refine block_ret ?_
                         refine block_ret ?_
                         refine then_ret ?_
                         refine then_ret ?_
                         refine block_ret ?_
                         refine then_ret ?_
                         obtain rfl := Option.some.inj H
                         exact ret1 hst rfl rfl ⟨rfl, hsh.pick []⟩
                       · rw [if_neg c2579] at H
                         replace c2579 := Bool.eq_false_iff.2 c2579
                         refine wq_condF hst rfl c2579 ?_
                         refine wq_skip ?_
                         refine then_normal ?_
                         refine wq_seq ?_
                         refine wq_seq ?_
                         refine wq_region_lit (.inl rfl) ?_
                         refine r_t hst trivial rfl (x_move hst rfl) ?_; intro a hst
                         refine r_t hst trivial rfl (x_cmpI (b := (i_269 == 0)) hst rfl rfl rfl) ?_; intro a hst
                         refine wpL_nil ?_
                         refine then_normal ?_
                         by_cases c2581 : (i_269 == 0) = true
                         · rw [if_pos c2581] at H
                           refine wq_condT hst rfl c2581 ?_
                           refine wq_exit ?_
                           refine then_exit ?_
                           refine block_hit ?_
                           refine then_normal ?_
                           exact ⟨l2570, H, hst.keep _ ⟨rfl, rfl, rfl, rfl, rfl, rfl, rfl, rfl, rfl, rfl, trivial⟩, hsh.pick [0]⟩
                         · rw [if_neg c2581] at H
                           replace c2581 := Bool.eq_false_iff.2 c2581
                           refine wq_condF hst rfl c2581 ?_
                           refine wq_skip ?_
                           refine then_normal ?_
                           refine wq_seq ?_
                           refine wq_seq ?_
                           refine wq_region_lit (.inl rfl) ?_
                           refine r_t hst trivial rfl (x_move hst rfl) ?_; intro a hst
                           refine r_t hst trivial rfl (x_cmpI (b := (i_189 == 0)) hst rfl rfl rfl) ?_; intro a hst
                           refine wpL_nil ?_
                           refine then_normal ?_
                           by_cases c2589 : (i_189 == 0) = true
                           · rw [if_pos c2589] at H
                             refine wq_condT hst rfl c2589 ?_
                             refine wq_seq ?_
                             refine wq_seq ?_
                             refine wq_region_q (.inl rfl) (fun w' => SH (fun _ => False) w w' [MapI Try.prog .i64 .i64 3 3 g5 l2570, Box g2566 [.int .i64 x2565.Number, .int .i64 x2565.Size, .string x2565.Least, .string x2565.Limit, .int .u64 x2565.Low, .int .u64 x2565.High] 43]) (shut_sh _ _ _) hsh.drew fo (by kernel_rfl) ?_
                             refine q_t hst trivial rfl (fun _ hsh => x_move hst rfl) ?_; intro a hst
                             refine q_t hst trivial rfl (fun _ hsh => x_move hst rfl) ?_; intro a hst
                             refine q_t hst trivial rfl (fun _ hsh => x_arI (r := w64 (i_269 - 1)) hst rfl rfl rfl) ?_; intro a hst
                             obtain ⟨x2593, hx2593, H⟩ := Option.bind_eq_some_iff.1 H
                             refine q_t hst trivial rfl (fun _ hsh => x_indexAddr hst Try.underlying39 el_43 rfl rfl hr2388 hx2593) ?_; intro a hst
                             refine q_t hst trivial rfl (fun _ hsh => x_fieldAddrE (n' := Int.toNat (w64 (i_269 - 1)) * k_File.sz) hst fa_43_0 rfl rfl) ?_; intro a hst
                             refine q_t hst trivial rfl (fun _ hsh => x_loadEF (j := 0) (cs := [.int .i64 x2593.Number, .int .i64 x2593.Size, .string x2593.Least, .string x2593.Limit, .int .u64 x2593.Low, .int .u64 x2593.High]) hst sc_3 rfl hr2388 (Same.sh0 hsa0 hsh) hx2593 rfl (fun _ h => h) rfl) ?_; intro a hst
                             refine q_t hst trivial rfl (fun _ hsh => x_fieldAddr (j' := 0) hst fa_43_0 rfl rfl) ?_; intro a hst
                             refine q_t hst trivial rfl (fun _ hsh => x_loadB (i := 1) hst hsh sc_3 rfl rfl rfl) ?_; intro a hst
                             refine q_t hst trivial rfl (fun _ hsh => x_cmpI (b := decide (x2565.Number ≤ x2593.Number)) hst rfl rfl rfl) ?_; intro a hst
                             refine q_nil ?_
                             intro w2594 hsh
                             refine then_normal ?_
                             by_cases c2595 : (decide (x2565.Number ≤ x2593.Number)) = true
                             · rw [if_pos c2595] at H
                               refine wq_condT hst rfl c2595 ?_
                               refine wq_seq ?_
                               refine wq_region_lit (.inl rfl) ?_
                               refine r_t hst trivial rfl (x_assign hst rfl) ?_; intro a hst
                               refine wpL_nil ?_
                               refine then_normal ?_
                               refine wq_ret ?_
                               refine then_ret ?_
                               refine then_ret ?_
                               refine block_ret ?_
                               refine then_ret ?_
                               refine then_ret ?_
                               refine block_ret ?_
                               refine block_ret ?_
                               refine then_ret ?_
                               refine then_ret ?_
                               refine block_ret ?_
                               refine then_ret ?_
                               obtain rfl := Option.some.inj H
                               exact ret1 hst rfl rfl ⟨rfl, hsh.pick []⟩
                             · rw [if_neg c2595] at H
                               replace c2595 := Bool.eq_false_iff.2 c2595
                               refine wq_condF hst rfl c2595 ?_
                               refine wq_skip ?_
                               refine then_normal ?_
                               refine wq_exit ?_
                               refine then_exit ?_
                               refine block_hit ?_
                               refine then_normal ?_
                               exact ⟨l2570, H, hst.keep _ ⟨rfl, rfl, rfl, rfl, rfl, rfl, rfl, rfl, rfl, rfl, trivial⟩, hsh.pick [0]⟩
                           · rw [if_neg c2589] at H
                             replace c2589 := Bool.eq_false_iff.2 c2589
                             refine wq_condF hst rfl c2589 ?_
                             refine wq_skip ?_
                             refine then_normal ?_
                             refine wq_seq ?_
                             refine wq_region_q (.inl rfl) (fun w' => SH (fun _ => False) w w' [MapI Try.prog .i64 .i64 3 3 g5 l2570, Box g2566 [.int .i64 x2565.Number, .int .i64 x2565.Size, .string x2565.Least, .string x2565.Limit, .int .u64 x2565.Low, .int .u64 x2565.High] 43]) (shut_sh _ _ _) hsh.drew fo (by kernel_rfl) ?_
                             refine q_t hst trivial rfl (fun _ hsh => x_move hst rfl) ?_; intro a hst
                             refine q_t hst trivial rfl (fun _ hsh => x_move hst rfl) ?_; intro a hst
                             refine q_t hst trivial rfl (fun _ hsh => x_arI (r := w64 (i_269 - 1)) hst rfl rfl rfl) ?_; intro a hst
                             obtain ⟨x2596, hx2596, H⟩ := Option.bind_eq_some_iff.1 H
                             refine q_t hst trivial rfl (fun _ hsh => x_indexAddr hst Try.underlying39 el_43 rfl rfl hr2388 hx2596) ?_; intro a hst
                             refine q_t hst trivial rfl (fun _ hsh => x_fieldAddrE (n' := Int.toNat (w64 (i_269 - 1)) * k_File.sz + 3) hst fa_43_3 rfl rfl) ?_; intro a hst
                             refine q_t hst trivial rfl (fun _ hsh => x_loadEF (j := 3) (cs := [.int .i64 x2596.Number, .int .i64 x2596.Size, .string x2596.Least, .string x2596.Limit, .int .u64 x2596.Low, .int .u64 x2596.High]) hst sc_9 rfl hr2388 (Same.sh0 hsa0 hsh) hx2596 rfl (fun _ h => h) rfl) ?_; intro a hst
                             refine q_t hst trivial rfl (fun _ hsh => x_fieldAddr (j' := 2) hst fa_43_2 rfl rfl) ?_; intro a hst
                             refine q_t hst trivial rfl (fun _ hsh => x_loadB (i := 1) hst hsh sc_9 rfl rfl rfl) ?_; intro a hst
                             refine q_t hst trivial rfl (fun _ hsh => x_cmpS (b := (!(sLt x2596.Limit x2565.Least || sEq x2596.Limit x2565.Least))) hst rfl rfl rfl) ?_; intro a hst
                             refine q_nil ?_
                             intro w2597 hsh
                             refine then_normal ?_
                             by_cases c2598 : (!(sLt x2596.Limit x2565.Least || sEq x2596.Limit x2565.Least)) = true
                             · rw [if_pos c2598] at H
                               refine wq_condT hst rfl c2598 ?_
                               refine wq_seq ?_
                               refine wq_region_lit (.inl rfl) ?_
                               refine r_t hst trivial rfl (x_assign hst rfl) ?_; intro a hst
                               refine wpL_nil ?_
                               refine then_normal ?_
                               refine wq_ret ?_
                               refine block_ret ?_
                               refine then_ret ?_
                               refine then_ret ?_
                               refine block_ret ?_
                               refine block_ret ?_
                               refine then_ret ?_
                               refine then_ret ?_
                               refine block_ret ?_
                               refine then_ret ?_
                               obtain rfl := Option.some.inj H
                               exact ret1 hst rfl rfl ⟨rfl, hsh.pick []⟩
                             · rw [if_neg c2598] at H
                               replace c2598 := Bool.eq_false_iff.2 c2598
                               refine wq_condF hst rfl c2598 ?_
                               refine wq_skip ?_
                               refine block_normal ?_
                               refine then_normal ?_
                               exact ⟨l2570, H, hst.keep _ ⟨rfl, rfl, rfl, rfl, rfl, rfl, rfl, rfl, rfl, rfl, trivial⟩, hsh.pick [0]⟩
                     · intro hj
                       by_cases c2578 : (!r2576) = true
                       · refine r_not hst 39 rfl rfl c2578 rfl ?_; intro a hst
                         refine r_not hst 39 rfl rfl c2578 rfl ?_; intro a hst
                         refine r_not hst 39 rfl rfl c2578 rfl ?_; intro a hst
                         refine r_not hst 39 rfl rfl c2578 rfl ?_; intro a hst
                         refine r_not hst 39 rfl rfl c2578 rfl ?_; intro a hst
                         refine r_t hst trivial rfl (x_orT (decide (1 < (mget l2570 x2565.Number))) hst rfl c2578 rfl) ?_; intro a hst
                         exact hj _ (hst.keep _ ⟨rfl, rfl, rfl, rfl, rfl, rfl, rfl, rfl, rfl, rfl, rfl, rfl, rfl, trivial⟩)
                       · replace c2578 := Bool.eq_false_iff.2 c2578
                         refine r_t hst (wt_of 39 rfl rfl c2578) rfl (x_move hst rfl) ?_; intro a hst
                         refine r_t hst (wt_of 39 rfl rfl c2578) rfl (x_fieldAddr (j' := 0) hst fa_43_0 rfl rfl) ?_; intro a hst
                         refine r_t hst (wt_of 39 rfl rfl c2578) rfl (x_loadB (i := 1) hst hsh sc_3 rfl rfl rfl) ?_; intro a hst
                         refine r_t hst (wt_of 39 rfl rfl c2578) rfl (x_lookupI (i := 0) hst hsh Try.underlying66 Try.underlying3 Try.underlying3 (fun _ => by kernel_rfl) rfl rfl rfl c2569) ?_; intro a hst
                         refine r_t hst (wt_of 39 rfl rfl c2578) rfl (x_cmpI (b := decide (1 < (mget l2570 x2565.Number))) hst rfl rfl rfl) ?_; intro a hst
                         refine r_t hst trivial rfl (x_orF hst rfl c2578 rfl) ?_; intro a hst
                         exact hj _ (hst.keep _ ⟨rfl, rfl, rfl, rfl, rfl, rfl, rfl, rfl, rfl, rfl, rfl, rfl, rfl, trivial⟩)
                   · rw [if_neg c2569] at H; cases H
               · rw [if_neg c2530] at H
                 replace c2530 := Bool.eq_false_iff.2 c2530
                 refine wq_condF hst rfl c2530 ?_
                 refine wq_exit ?_
                 refine then_exit ?_
                 refine then_exit ?_
                 refine block_hit ?_
                 refine block_normal ?_
                 refine then_normal ?_
                 exact ⟨l_268, H, hst.keep _ ⟨rfl, rfl, rfl, rfl, rfl, trivial⟩, hsh.pick [0]⟩
        · rw [if_neg c2168] at H
          replace c2168 := Bool.eq_false_iff.2 c2168
          refine wq_condF hst rfl c2168 ?_
          refine wq_exit ?_
          refine then_exit ?_
          refine then_exit ?_
          refine block_hit ?_
          refine then_normal ?_
          refine wq_seq ?_
          refine wq_region_lit (.inl rfl) ?_
          refine r_t hst trivial rfl (x_assign hst rfl) ?_; intro a hst
          refine wpL_nil ?_
          refine then_normal ?_
          refine wq_ret ?_
          obtain rfl := Option.some.inj H
          exact ret1 hst rfl rfl ⟨rfl, hsh.pick []⟩
 · intro hj
   by_cases c3 : (decide ((a0.length : Int) < 1)) = true
   · refine r_not hst 11 rfl rfl c3 rfl ?_; intro a hst
     refine r_not hst 11 rfl rfl c3 rfl ?_; intro a hst
     refine r_not hst 11 rfl rfl c3 rfl ?_; intro a hst
     refine r_t hst trivial rfl (x_orT (decide (7 < (a0.length : Int))) hst rfl c3 rfl) ?_; intro a hst
     exact hj _ (hst.keep _ ⟨rfl, rfl, rfl, trivial⟩)
   · replace c3 := Bool.eq_false_iff.2 c3
     refine r_t hst (wt_of 11 rfl rfl c3) rfl (x_move hst rfl) ?_; intro a hst
     refine r_t hst (wt_of 11 rfl rfl c3) rfl (x_lenSl hst Try.underlying23 rfl hra0.slen) ?_; intro a hst
     refine r_t hst (wt_of 11 rfl rfl c3) rfl (x_cmpI (b := decide (7 < (a0.length : Int))) hst rfl rfl rfl) ?_; intro a hst
     refine r_t hst trivial rfl (x_orF hst rfl c3 rfl) ?_; intro a hst
     exact hj _ (hst.keep _ ⟨rfl, rfl, rfl, trivial⟩)

set_option maxHeartbeats 4000000 in
set_option maxRecDepth 100000 in
theorem version_Find.calls (k : Nat) (w : World) (va0 : Value) (Za0 : Nat → Prop) (wra0 : World) (hsa0 : Same Za0 wra0 w) (a0 : (List (List File))) (hra0 : RD (Kd.slice 43 k_File) Za0 wra0 va0 a0) (a1 : Int) (r : (Int × File × Bool)) (h : version_Find k a0 a1 = some r) :
    Calls Try.prog 24 ([va0, .int .i64 a1] : List Value).toArray w fun e w' => e = .returned (.tuple #[.int .i64 r.1, .agg #[.int .i64 r.2.1.Number, .int .i64 r.2.1.Size, .string r.2.1.Least, .string r.2.1.Limit, .int .u64 r.2.1.Low, .int .u64 r.2.1.High], .bool r.2.2]) ∧ SH (fun _ => False) w w' [] := by
 have H := h
 clear h
 unfold version_Find at H
 refine calls_enter Try.func24 rfl rfl ?_
 intro a hst
 have hsh := SH.zero (fun _ => False) w
 refine wq_seq ?_
 refine wq_region_lit (.inl rfl) ?_
 refine r_t hst trivial rfl (x_assign hst rfl) ?_; intro a hst
 refine r_alloc hst hsh trivial rfl zr_43 ?_
 intro g1 a w2 hgg1 hsh hst
 refine r_t hst trivial rfl (x_assign hst rfl) ?_; intro a hst
 refine wpL_nil ?_
 refine then_normal ?_
 refine wq_scope_straight ?_
 refine wq_seq ?_
 refine wq_seq ?_
 refine wq_region_lit (.inl rfl) ?_
 refine r_t hst trivial rfl (x_move hst rfl) ?_; intro a hst
 obtain ⟨r7, hr7, H⟩ := Option.bind_eq_some_iff.1 H
 refine r_callD hst trivial rfl fn_12 rfl (version_Valid.calls k _ _ _ _ (Same.sh0 hsa0 hsh) _ hra0 r7 hr7) ?_
 rintro e w8 ⟨rfl, hc⟩
 replace hsh := hsh.call0 hc
 clear hc
 refine ⟨_, rfl, fun a hst => ?_⟩
 refine r_t hst trivial rfl (x_notB hst rfl) ?_; intro a hst
 refine wpL_nil ?_
 refine then_normal ?_
 by_cases c9 : (!r7) = true
 · rw [if_pos c9] at H
   refine wq_condT hst rfl c9 ?_
   refine wq_seq ?_
   refine wq_region_lit (.inl rfl) ?_
   refine r_t hst trivial rfl (x_build (cs := [.int .i64 0, .int .i64 0, .string (ByteArray.mk #[]), .string (ByteArray.mk #[]), .int .u64 0, .int .u64 0]) hst rfl (by kernel_rfl)) ?_; intro a hst
   refine r_t hst trivial rfl (x_assign hst rfl) ?_; intro a hst
   refine r_storeBs (i := 0) (cs' := [.int .i64 0, .int .i64 0, .string (ByteArray.mk #[]), .string (ByteArray.mk #[]), .int .u64 0, .int .u64 0]) (vs := [.int .i64 0, .int .i64 0, .string (ByteArray.mk #[]), .string (ByteArray.mk #[]), .int .u64 0, .int .u64 0]) hst hsh trivial ag_43 rfl rfl rfl rfl rfl rfl ?_; intro a w10 hsh hst
   refine r_t hst trivial rfl (x_assign hst rfl) ?_; intro a hst
   refine wpL_nil ?_
   refine then_normal ?_
   refine wq_ret ?_
   refine then_ret ?_
   refine ng_ret ?_
   obtain rfl := Option.some.inj H
   exact ret_tct hst rfl rfl rfl (box_var (i := 0) hsh ag_43 rfl rfl) rfl ⟨rfl, hsh.pick []⟩
 · rw [if_neg c9] at H
   replace c9 := Bool.eq_false_iff.2 c9
   refine wq_condF hst rfl c9 ?_
   refine wq_skip ?_
   refine then_normal ?_
   refine wq_seq ?_
   refine wq_label ?_
   refine then_normal ?_
   obtain ⟨J_72, hJ_72, H⟩ := Jn.elim H
   refine wq_cut (fun a w' => ∃ (i_63 : Int), ∃ (i_64 : Int), ∃ (i_65 : Int), ∃ (s_66 : ByteArray), ∃ (s_67 : ByteArray), ∃ (i_68 : Int), ∃ (i_69 : Int), ∃ (b_70 : Bool), J_72 i_63 i_64 i_65 s_66 s_67 i_68 i_69 b_70 = some r ∧ ST [] Try.f24.ntmps a [(4, .int .i64 i_63), (5, .pointer (some ⟨g1, 0, none⟩)), (6, .bool b_70)] ∧ SH (fun _ => False) w w' [Box g1 [.int .i64 i_64, .int .i64 i_65, .string s_66, .string s_67, .int .u64 i_68, .int .u64 i_69] 43]) ?_ ?_
   · rintro a W_71 ⟨i_63, i_64, i_65, s_66, s_67, i_68, i_69, b_70, H, hst, hsh⟩
     subst hJ_72
     dsimp only at H
     refine wq_seq ?_
     refine wq_region_t (.inl rfl) (.fin [(3, 0), (0, 1), (3, 2), (3, 3), (2, 4), (3, 5)]) (fun w' => SH (fun _ => False) w w' [Box g1 [.int .i64 i_64, .int .i64 i_65, .string s_66, .string s_67, .int .u64 i_68, .int .u64 i_69] 43]) (fun w' => SH (fun _ => False) w w' [Box g1 [.int .i64 i_64, .int .i64 i_65, .string s_66, .string s_67, .int .u64 i_68, .int .u64 i_69] 43]) (fun w' => SH (fun _ => False) w w' [Box g1 [.int .i64 i_64, .int .i64 i_65, .string s_66, .string s_67, .int .u64 i_68, .int .u64 i_69] 43]) (shut_sh _ _ _) (shut_sh _ _ _) (shut_sh _ _ _) (sub_sh [0] rfl) (sub_sh [0] rfl) hsh.drew fo (by kernel_rfl) ?_
     refine t_fin ?_
     refine m_p hst trivial rfl (fun _ => x_move hst rfl) ?_; intro a hst
     refine m_t hst trivial rfl (fun _ hsh => x_loadBs (i := 0) (ps := [.int .i64 i_64, .int .i64 i_65, .string s_66, .string s_67, .int .u64 i_68, .int .u64 i_69]) hst hsh ag_43 rfl rfl rfl) ?_; intro a hst
     refine m_p hst trivial rfl (fun _ => x_move hst rfl) ?_; intro a hst
     refine m_p hst trivial rfl (fun _ => x_assign hst rfl) ?_; intro a hst
     refine m_loud (.inr rfl) ?_
     intro w371 hsh
     refine r_storeBs (i := 0) (cs' := [.int .i64 i_64, .int .i64 i_65, .string s_66, .string s_67, .int .u64 i_68, .int .u64 i_69]) (vs := [.int .i64 i_64, .int .i64 i_65, .string s_66, .string s_67, .int .u64 i_68, .int .u64 i_69]) hst hsh trivial ag_43 rfl rfl rfl rfl rfl rfl ?_; intro a w372 hsh hst
     refine m_turn hsh (sub_sh [0] rfl) ?_
     refine m_p hst trivial rfl (fun _ => x_assign hst rfl) ?_; intro a hst
     refine m_nil ?_
     intro w373 hsh
     refine qn_normal ?_
     refine then_normal ?_
     refine wq_ret ?_
     refine ng_ret ?_
     obtain rfl := Option.some.inj H
     exact ret_tct hst rfl rfl rfl (box_var (i := 0) hsh ag_43 rfl rfl) rfl ⟨rfl, hsh.pick []⟩
   · refine wq_seq ?_
     refine wq_region_lit (.inl rfl) ?_
     refine r_t hst trivial rfl (x_move hst rfl) ?_; intro a hst
     refine r_t hst trivial rfl (x_lenSl hst Try.underlying23 rfl hra0.slen) ?_; intro a hst
     refine r_t hst trivial rfl (x_move hst rfl) ?_; intro a hst
     refine wpL_nil ?_
     refine then_normal ?_
     refine wq_block ?_
     refine wq_loop_fuel (fun k_116 a w' => ∃ (i_94 : Int), version_Find.l0 a0 a1 J_72 k_116 i_94 = some r ∧ ST [] Try.f24.ntmps a [(1, .int .i64 a1), (4, .int .i64 0), (5, .pointer (some ⟨g1, 0, none⟩)), (6, .bool false), (15, va0), (16, .int .i64 (a0.length : Int)), (17, .int .i64 i_94)] ∧ SH (fun _ => False) w w' [Box g1 [.int .i64 0, .int .i64 0, .string (ByteArray.mk #[]), .string (ByteArray.mk #[]), .int .u64 0, .int .u64 0] 43]) k ?_ ?_
     · exact ⟨0, H, hst.keep _ ⟨rfl, rfl, rfl, rfl, rfl, rfl, rfl, trivial⟩, hsh.pick [0]⟩
     · rintro k_116 a W_95 ⟨i_94, H, hst, hsh⟩
       cases k_116 with
       | zero => rw [version_Find.l0] at H; cases H
       | succ k_116 =>
        rw [version_Find.l0] at H
        refine wq_seq ?_
        refine wq_region_lit (.inl rfl) ?_
        refine r_t hst trivial rfl (x_cmpI (b := decide (i_94 < (a0.length : Int))) hst rfl rfl rfl) ?_; intro a hst
        refine wpL_nil ?_
        refine then_normal ?_
        refine wq_seq ?_
        by_cases c615 : (decide (i_94 < (a0.length : Int))) = true
        · rw [if_pos c615] at H
          refine wq_condT hst rfl c615 ?_
          refine wq_skip ?_
          refine then_normal ?_
          obtain ⟨J_126, hJ_126, H⟩ := Jn.elim H
          refine wq_cut (fun a w' => J_126 = some r ∧ ST [] Try.f24.ntmps a [(1, .int .i64 a1), (4, .int .i64 0), (5, .pointer (some ⟨g1, 0, none⟩)), (6, .bool false), (15, va0), (16, .int .i64 (a0.length : Int)), (17, .int .i64 i_94)] ∧ SH (fun _ => False) w w' [Box g1 [.int .i64 0, .int .i64 0, .string (ByteArray.mk #[]), .string (ByteArray.mk #[]), .int .u64 0, .int .u64 0] 43]) ?_ ?_
          · rintro a W_125 ⟨H, hst, hsh⟩
            subst hJ_126
            refine wq_region_lit (.inl rfl) ?_
            refine r_t hst trivial rfl (x_arI (r := w64 (i_94 + 1)) hst rfl rfl rfl) ?_; intro a hst
            refine r_t hst trivial rfl (x_move hst rfl) ?_; intro a hst
            refine wpL_nil ?_
            refine then_normal ?_
            exact ⟨k_116, Nat.lt_succ_self _, (w64 (i_94 + 1)), H, hst.keep _ ⟨rfl, rfl, rfl, rfl, rfl, rfl, rfl, trivial⟩, hsh.pick [0]⟩
          · refine wq_block ?_
            refine wq_seq ?_
            refine wq_region_lit (.inl rfl) ?_
            refine r_t hst trivial rfl (x_move hst rfl) ?_; intro a hst
            obtain ⟨x675, hx675, H⟩ := Option.bind_eq_some_iff.1 H
            refine r_t hst trivial rfl (x_indexAddr hst Try.underlying23 el_39 rfl rfl hra0 hx675) ?_; intro a hst
            obtain ⟨_, hk676, hc677⟩ := RD.cells2 hra0 hx675
            obtain ⟨v678, rfl, hr679⟩ := hk676
            refine r_t hst trivial rfl (x_loadC hst sc_39 rfl (hc677 _ (Same.sh0 hsa0 hsh) 0 _ rfl)) ?_; intro a hst
            refine r_t hst trivial rfl (x_assign hst rfl) ?_; intro a hst
            refine r_t hst trivial rfl (x_assign hst rfl) ?_; intro a hst
            refine wpL_nil ?_
            refine then_normal ?_
            refine wq_seq ?_
            refine wq_region_lit (.inl rfl) ?_
            refine r_t hst trivial rfl (x_move hst rfl) ?_; intro a hst
            refine r_t hst trivial rfl (x_lenSl hst Try.underlying39 rfl hr679.slen) ?_; intro a hst
            refine r_t hst trivial rfl (x_move hst rfl) ?_; intro a hst
            refine wpL_nil ?_
            refine then_normal ?_
            refine wq_block ?_
            refine wq_loop_fuel (fun k_134 a w' => ∃ (i_130 : Int), version_Find.l1 a1 J_72 i_94 J_126 x675 k_134 i_130 = some r ∧ ST [] Try.f24.ntmps a [(1, .int .i64 a1), (4, .int .i64 0), (5, .pointer (some ⟨g1, 0, none⟩)), (6, .bool false), (7, .int .i64 i_94), (15, va0), (16, .int .i64 (a0.length : Int)), (17, .int .i64 i_94), (22, v678), (23, .int .i64 (x675.length : Int)), (24, .int .i64 i_130)] ∧ SH (fun _ => False) w w' [Box g1 [.int .i64 0, .int .i64 0, .string (ByteArray.mk #[]), .string (ByteArray.mk #[]), .int .u64 0, .int .u64 0] 43]) k_116 ?_ ?_
            · exact ⟨0, H, hst.keep _ ⟨rfl, rfl, rfl, rfl, rfl, rfl, rfl, rfl, rfl, rfl, rfl, trivial⟩, hsh.pick [0]⟩
            · rintro k_134 a W_131 ⟨i_130, H, hst, hsh⟩
              cases k_134 with
              | zero => rw [version_Find.l1] at H; cases H
              | succ k_134 =>
               rw [version_Find.l1] at H
               refine wq_seq ?_
               refine wq_region_lit (.inl rfl) ?_
               refine r_t hst trivial rfl (x_cmpI (b := decide (i_130 < (x675.length : Int))) hst rfl rfl rfl) ?_; intro a hst
               refine wpL_nil ?_
               refine then_normal ?_
               refine wq_seq ?_
               by_cases c717 : (decide (i_130 < (x675.length : Int))) = true
               · rw [if_pos c717] at H
                 refine wq_condT hst rfl c717 ?_
                 refine wq_skip ?_
                 refine then_normal ?_
                 refine wq_seq ?_
                 refine wq_block ?_
                 refine wq_seq ?_
                 refine wq_region_lit (.inl rfl) ?_
                 obtain ⟨x726, hx726, H⟩ := Option.bind_eq_some_iff.1 H
                 refine r_t hst trivial rfl (x_indexAddr hst Try.underlying39 el_43 rfl rfl hr679 hx726) ?_; intro a hst
                 refine r_t hst trivial rfl (x_loadEsF (j := 0) (cs := [.int .i64 x726.Number, .int .i64 x726.Size, .string x726.Least, .string x726.Limit, .int .u64 x726.Low, .int .u64 x726.High]) (ps := [.int .i64 x726.Number, .int .i64 x726.Size, .string x726.Least, .string x726.Limit, .int .u64 x726.Low, .int .u64 x726.High]) hst ag_43 rfl hr679 (Same.sh0 hsa0 hsh) hx726 rfl (fun _ h => h) rfl) ?_; intro a hst
                 refine r_alloc hst hsh trivial rfl zr_43 ?_
                 intro g727 a w728 hgg727 hsh hst
                 refine r_storeBs (i := 0) (cs' := [.int .i64 x726.Number, .int .i64 x726.Size, .string x726.Least, .string x726.Limit, .int .u64 x726.Low, .int .u64 x726.High]) (vs := [.int .i64 x726.Number, .int .i64 x726.Size, .string x726.Least, .string x726.Limit, .int .u64 x726.Low, .int .u64 x726.High]) hst hsh trivial ag_43 rfl rfl rfl rfl rfl rfl ?_; intro a w729 hsh hst
                 refine wpL_nil ?_
                 refine then_normal ?_
                 refine wq_seq ?_
                 refine wq_region_lit (.inl rfl) ?_
                 refine r_t hst trivial rfl (x_fieldAddr (j' := 0) hst fa_43_0 rfl rfl) ?_; intro a hst
                 refine r_t hst trivial rfl (x_loadB (i := 0) hst hsh sc_3 rfl rfl rfl) ?_; intro a hst
                 refine r_t hst trivial rfl (x_move hst rfl) ?_; intro a hst
                 refine r_t hst trivial rfl (x_cmpI (b := (x726.Number == a1)) hst rfl rfl rfl) ?_; intro a hst
                 refine wpL_nil ?_
                 refine then_normal ?_
                 by_cases c730 : (x726.Number == a1) = true
                 · rw [if_pos c730] at H
                   refine wq_condT hst rfl c730 ?_
                   refine wq_seq ?_
                   refine wq_region_t (.inl rfl) (.fin [(3, 0), (0, 1), (3, 2), (2, 3), (3, 4)]) (fun w' => SH (fun _ => False) w w' [Box g727 [.int .i64 x726.Number, .int .i64 x726.Size, .string x726.Least, .string x726.Limit, .int .u64 x726.Low, .int .u64 x726.High] 43]) (fun w' => SH (fun _ => False) w w' [Box g727 [.int .i64 x726.Number, .int .i64 x726.Size, .string x726.Least, .string x726.Limit, .int .u64 x726.Low, .int .u64 x726.High] 43, Box g1 [.int .i64 0, .int .i64 0, .string (ByteArray.mk #[]), .string (ByteArray.mk #[]), .int .u64 0, .int .u64 0] 43]) (fun w' => SH (fun _ => False) w w' [Box g727 [.int .i64 x726.Number, .int .i64 x726.Size, .string x726.Least, .string x726.Limit, .int .u64 x726.Low, .int .u64 x726.High] 43, Box g1 [.int .i64 0, .int .i64 0, .string (ByteArray.mk #[]), .string (ByteArray.mk #[]), .int .u64 0, .int .u64 0] 43]) (shut_sh _ _ _) (shut_sh _ _ _) (shut_sh _ _ _) (sub_sh [0] rfl) (sub_sh [0, 0] rfl) hsh.drew fo (by kernel_rfl) ?_
                   refine t_fin ?_
                   refine m_p hst trivial rfl (fun _ => x_move hst rfl) ?_; intro a hst
                   refine m_t hst trivial rfl (fun _ hsh => x_loadBs (i := 0) (ps := [.int .i64 x726.Number, .int .i64 x726.Size, .string x726.Least, .string x726.Limit, .int .u64 x726.Low, .int .u64 x726.High]) hst hsh ag_43 rfl rfl rfl) ?_; intro a hst
                   refine m_p hst trivial rfl (fun _ => x_assign hst rfl) ?_; intro a hst
                   refine m_loud (.inr rfl) ?_
                   intro w731 hsh
                   refine r_storeBs (i := 1) (cs' := [.int .i64 x726.Number, .int .i64 x726.Size, .string x726.Least, .string x726.Limit, .int .u64 x726.Low, .int .u64 x726.High]) (vs := [.int .i64 x726.Number, .int .i64 x726.Size, .string x726.Least, .string x726.Limit, .int .u64 x726.Low, .int .u64 x726.High]) hst hsh trivial ag_43 rfl rfl rfl rfl rfl rfl ?_; intro a w732 hsh hst
                   refine m_turn hsh (sub_sh [1] rfl) ?_
                   refine m_p hst trivial rfl (fun _ => x_assign hst rfl) ?_; intro a hst
                   refine m_nil ?_
                   intro w733 hsh
                   refine qn_normal ?_
                   refine then_normal ?_
                   refine wq_exit ?_
                   refine block_miss rfl ?_
                   refine then_exit ?_
                   refine then_exit ?_
                   refine block_miss rfl ?_
                   refine block_miss rfl ?_
                   refine then_exit ?_
                   refine then_exit ?_
                   refine block_hit ?_
                   refine then_normal ?_
                   exact ⟨i_94, x726.Number, x726.Size, x726.Least, x726.Limit, x726.Low, x726.High, true, H, hst.keep _ ⟨rfl, rfl, rfl, trivial⟩, hsh.pick [0]⟩
                 · rw [if_neg c730] at H
                   replace c730 := Bool.eq_false_iff.2 c730
                   refine wq_condF hst rfl c730 ?_
                   refine wq_skip ?_
                   refine block_normal ?_
                   refine then_normal ?_
                   refine wq_region_lit (.inl rfl) ?_
                   refine r_t hst trivial rfl (x_arI (r := w64 (i_130 + 1)) hst rfl rfl rfl) ?_; intro a hst
                   refine r_t hst trivial rfl (x_move hst rfl) ?_; intro a hst
                   refine wpL_nil ?_
                   refine then_normal ?_
                   exact ⟨k_134, Nat.lt_succ_self _, (w64 (i_130 + 1)), H, hst.keep _ ⟨rfl, rfl, rfl, rfl, rfl, rfl, rfl, rfl, rfl, rfl, rfl, trivial⟩, hsh.pick [1]⟩
               · rw [if_neg c717] at H
                 replace c717 := Bool.eq_false_iff.2 c717
                 refine wq_condF hst rfl c717 ?_
                 refine wq_exit ?_
                 refine then_exit ?_
                 refine then_exit ?_
                 refine block_hit ?_
                 refine block_normal ?_
                 refine then_normal ?_
                 exact ⟨H, hst.keep _ ⟨rfl, rfl, rfl, rfl, rfl, rfl, rfl, trivial⟩, hsh.pick [0]⟩
        · rw [if_neg c615] at H
          replace c615 := Bool.eq_false_iff.2 c615
          refine wq_condF hst rfl c615 ?_
          refine wq_exit ?_
          refine then_exit ?_
          refine then_exit ?_
          refine block_hit ?_
          refine then_normal ?_
          exact ⟨0, 0, 0, (ByteArray.mk #[]), (ByteArray.mk #[]), 0, 0, false, H, hst.keep _ ⟨rfl, rfl, rfl, trivial⟩, hsh.pick [0]⟩

set_option maxHeartbeats 4000000 in
set_option maxRecDepth 100000 in
theorem r16_May.calls (w : World) (a0 : File) (r : Bool) (h : r16_May a0 = some r) :
    Calls Try.prog 38 ([.agg #[.int .i64 a0.Number, .int .i64 a0.Size, .string a0.Least, .string a0.Limit, .int .u64 a0.Low, .int .u64 a0.High]] : List Value).toArray w fun e w' => e = .returned (.bool r) ∧ SH (fun _ => False) w w' [] := by
 have H := h
 clear h
 unfold r16_May at H
 refine calls_enter Try.func38 rfl rfl ?_
 intro a hst
 have hsh := SH.zero (fun _ => False) w
 refine wq_seq ?_
 refine wq_region_lit (.inl rfl) ?_
 refine r_box hst hsh trivial rfl rfl rfl ?_
 intro g1 a w2 hgg1 hsh hst
 refine r_t hst trivial rfl (x_assign hst rfl) ?_; intro a hst
 refine wpL_nil ?_
 refine then_normal ?_
 refine wq_seq ?_
 refine wq_region_lit (.inl rfl) ?_
 refine r_t hst trivial rfl (x_fieldAddr (j' := 0) hst fa_43_0 rfl rfl) ?_; intro a hst
 refine r_t hst trivial rfl (x_loadB (i := 0) hst hsh sc_3 rfl rfl rfl) ?_; intro a hst
 refine r_t hst trivial rfl (x_cmpI (b := decide (1 ≤ a0.Number)) hst rfl rfl rfl) ?_; intro a hst
 refine r_t hst trivial rfl (x_move hst rfl) ?_; intro a hst
 refine wl_join0 (Δ := []) (N := Try.f38.ntmps) 8 [(1, .pointer (some ⟨g1, 0, none⟩)), (2, .bool false), (10, .bool ((decide (1 ≤ a0.Number)) && (decide (a0.Number ≤ 2147483647))))] ?_ ?_
 · intro a hst
   refine r_t hst trivial rfl (x_move hst rfl) ?_; intro a hst
   refine wl_join0 (Δ := []) (N := Try.f38.ntmps) 13 [(1, .pointer (some ⟨g1, 0, none⟩)), (2, .bool false), (15, .bool (((decide (1 ≤ a0.Number)) && (decide (a0.Number ≤ 2147483647))) && (decide (1 ≤ a0.Size))))] ?_ ?_
   · intro a hst
     refine r_t hst trivial rfl (x_move hst rfl) ?_; intro a hst
     refine wl_join0 (Δ := []) (N := Try.f38.ntmps) 18 [(1, .pointer (some ⟨g1, 0, none⟩)), (2, .bool false), (20, .bool ((((decide (1 ≤ a0.Number)) && (decide (a0.Number ≤ 2147483647))) && (decide (1 ≤ a0.Size))) && (decide (a0.Size ≤ 268435456))))] ?_ ?_
     · intro a hst
       refine r_t hst trivial rfl (x_move hst rfl) ?_; intro a hst
       refine wl_join0 (Δ := []) (N := Try.f38.ntmps) 24 [(1, .pointer (some ⟨g1, 0, none⟩)), (2, .bool false), (26, .bool (((((decide (1 ≤ a0.Number)) && (decide (a0.Number ≤ 2147483647))) && (decide (1 ≤ a0.Size))) && (decide (a0.Size ≤ 268435456))) && (decide (1 ≤ (a0.Least.size : Int)))))] ?_ ?_
       · intro a hst
         refine r_t hst trivial rfl (x_move hst rfl) ?_; intro a hst
         refine wl_join0 (Δ := []) (N := Try.f38.ntmps) 30 [(1, .pointer (some ⟨g1, 0, none⟩)), (2, .bool false), (32, .bool ((((((decide (1 ≤ a0.Number)) && (decide (a0.Number ≤ 2147483647))) && (decide (1 ≤ a0.Size))) && (decide (a0.Size ≤ 268435456))) && (decide (1 ≤ (a0.Least.size : Int)))) && (decide ((a0.Least.size : Int) ≤ 1024))))] ?_ ?_
         · intro a hst
           refine r_t hst trivial rfl (x_move hst rfl) ?_; intro a hst
           refine wl_join0 (Δ := []) (N := Try.f38.ntmps) 36 [(1, .pointer (some ⟨g1, 0, none⟩)), (2, .bool false), (38, .bool (((((((decide (1 ≤ a0.Number)) && (decide (a0.Number ≤ 2147483647))) && (decide (1 ≤ a0.Size))) && (decide (a0.Size ≤ 268435456))) && (decide (1 ≤ (a0.Least.size : Int)))) && (decide ((a0.Least.size : Int) ≤ 1024))) && (decide ((a0.Limit.size : Int) ≤ 1025))))] ?_ ?_
           · intro a hst
             refine r_t hst trivial rfl (x_move hst rfl) ?_; intro a hst
             refine wl_join0 (Δ := []) (N := Try.f38.ntmps) 43 [(1, .pointer (some ⟨g1, 0, none⟩)), (2, .bool false), (45, .bool ((((((((decide (1 ≤ a0.Number)) && (decide (a0.Number ≤ 2147483647))) && (decide (1 ≤ a0.Size))) && (decide (a0.Size ≤ 268435456))) && (decide (1 ≤ (a0.Least.size : Int)))) && (decide ((a0.Least.size : Int) ≤ 1024))) && (decide ((a0.Limit.size : Int) ≤ 1025))) && (sLt a0.Least a0.Limit)))] ?_ ?_
             · intro a hst
               refine r_t hst trivial rfl (x_move hst rfl) ?_; intro a hst
               refine wl_join0 (Δ := []) (N := Try.f38.ntmps) 48 [(1, .pointer (some ⟨g1, 0, none⟩)), (2, .bool false), (50, .bool (((((((((decide (1 ≤ a0.Number)) && (decide (a0.Number ≤ 2147483647))) && (decide (1 ≤ a0.Size))) && (decide (a0.Size ≤ 268435456))) && (decide (1 ≤ (a0.Least.size : Int)))) && (decide ((a0.Least.size : Int) ≤ 1024))) && (decide ((a0.Limit.size : Int) ≤ 1025))) && (sLt a0.Least a0.Limit)) && (decide (1 ≤ a0.Low))))] ?_ ?_
               · intro a hst
                 refine r_t hst trivial rfl (x_move hst rfl) ?_; intro a hst
                 refine wl_join0 (Δ := []) (N := Try.f38.ntmps) 55 [(1, .pointer (some ⟨g1, 0, none⟩)), (2, .bool false), (57, .bool ((((((((((decide (1 ≤ a0.Number)) && (decide (a0.Number ≤ 2147483647))) && (decide (1 ≤ a0.Size))) && (decide (a0.Size ≤ 268435456))) && (decide (1 ≤ (a0.Least.size : Int)))) && (decide ((a0.Least.size : Int) ≤ 1024))) && (decide ((a0.Limit.size : Int) ≤ 1025))) && (sLt a0.Least a0.Limit)) && (decide (1 ≤ a0.Low))) && (decide (a0.Low ≤ a0.High))))] ?_ ?_
                 · intro a hst
                   refine r_t hst trivial rfl (x_move hst rfl) ?_; intro a hst
                   refine wl_join0 (Δ := []) (N := Try.f38.ntmps) 60 [(2, .bool false), (62, .bool (((((((((((decide (1 ≤ a0.Number)) && (decide (a0.Number ≤ 2147483647))) && (decide (1 ≤ a0.Size))) && (decide (a0.Size ≤ 268435456))) && (decide (1 ≤ (a0.Least.size : Int)))) && (decide ((a0.Least.size : Int) ≤ 1024))) && (decide ((a0.Limit.size : Int) ≤ 1025))) && (sLt a0.Least a0.Limit)) && (decide (1 ≤ a0.Low))) && (decide (a0.Low ≤ a0.High))) && (decide (a0.High ≤ 72057594037927935))))] ?_ ?_
                   · intro a hst
                     refine r_t hst trivial rfl (x_assign hst rfl) ?_; intro a hst
                     refine wpL_nil ?_
                     refine then_normal ?_
                     refine wq_ret ?_
                     obtain rfl := Option.some.inj H
                     exact ret1 hst rfl rfl ⟨rfl, hsh.pick []⟩
                   · intro hj
                     by_cases c12 : ((((((((((decide (1 ≤ a0.Number)) && (decide (a0.Number ≤ 2147483647))) && (decide (1 ≤ a0.Size))) && (decide (a0.Size ≤ 268435456))) && (decide (1 ≤ (a0.Least.size : Int)))) && (decide ((a0.Least.size : Int) ≤ 1024))) && (decide ((a0.Limit.size : Int) ≤ 1025))) && (sLt a0.Least a0.Limit)) && (decide (1 ≤ a0.Low))) && (decide (a0.Low ≤ a0.High))) = true
                     · refine r_t hst (wt_of 58 rfl rfl c12) rfl (x_fieldAddr (j' := 5) hst fa_43_5 rfl rfl) ?_; intro a hst
                       refine r_t hst (wt_of 58 rfl rfl c12) rfl (x_loadB (i := 0) hst hsh sc_24 rfl rfl rfl) ?_; intro a hst
                       refine r_t hst (wt_of 58 rfl rfl c12) rfl (x_cmpI (b := decide (a0.High ≤ 72057594037927935)) hst rfl rfl rfl) ?_; intro a hst
                       refine r_t hst trivial rfl (x_andT hst rfl c12 rfl) ?_; intro a hst
                       exact hj _ (hst.keep _ ⟨rfl, rfl, trivial⟩)
                     · replace c12 := Bool.eq_false_iff.2 c12
                       refine r_not hst 58 rfl rfl c12 rfl ?_; intro a hst
                       refine r_not hst 58 rfl rfl c12 rfl ?_; intro a hst
                       refine r_not hst 58 rfl rfl c12 rfl ?_; intro a hst
                       refine r_t hst trivial rfl (x_andF (decide (a0.High ≤ 72057594037927935)) hst rfl c12 rfl) ?_; intro a hst
                       exact hj _ (hst.keep _ ⟨rfl, rfl, trivial⟩)
                 · intro hj
                   by_cases c11 : (((((((((decide (1 ≤ a0.Number)) && (decide (a0.Number ≤ 2147483647))) && (decide (1 ≤ a0.Size))) && (decide (a0.Size ≤ 268435456))) && (decide (1 ≤ (a0.Least.size : Int)))) && (decide ((a0.Least.size : Int) ≤ 1024))) && (decide ((a0.Limit.size : Int) ≤ 1025))) && (sLt a0.Least a0.Limit)) && (decide (1 ≤ a0.Low))) = true
                   · refine r_t hst (wt_of 51 rfl rfl c11) rfl (x_fieldAddr (j' := 4) hst fa_43_4 rfl rfl) ?_; intro a hst
                     refine r_t hst (wt_of 51 rfl rfl c11) rfl (x_loadB (i := 0) hst hsh sc_24 rfl rfl rfl) ?_; intro a hst
                     refine r_t hst (wt_of 51 rfl rfl c11) rfl (x_fieldAddr (j' := 5) hst fa_43_5 rfl rfl) ?_; intro a hst
                     refine r_t hst (wt_of 51 rfl rfl c11) rfl (x_loadB (i := 0) hst hsh sc_24 rfl rfl rfl) ?_; intro a hst
                     refine r_t hst (wt_of 51 rfl rfl c11) rfl (x_cmpI (b := decide (a0.Low ≤ a0.High)) hst rfl rfl rfl) ?_; intro a hst
                     refine r_t hst trivial rfl (x_andT hst rfl c11 rfl) ?_; intro a hst
                     exact hj _ (hst.keep _ ⟨rfl, rfl, rfl, trivial⟩)
                   · replace c11 := Bool.eq_false_iff.2 c11
                     refine r_not hst 51 rfl rfl c11 rfl ?_; intro a hst
                     refine r_not hst 51 rfl rfl c11 rfl ?_; intro a hst
                     refine r_not hst 51 rfl rfl c11 rfl ?_; intro a hst
                     refine r_not hst 51 rfl rfl c11 rfl ?_; intro a hst
                     refine r_not hst 51 rfl rfl c11 rfl ?_; intro a hst
                     refine r_t hst trivial rfl (x_andF (decide (a0.Low ≤ a0.High)) hst rfl c11 rfl) ?_; intro a hst
                     exact hj _ (hst.keep _ ⟨rfl, rfl, rfl, trivial⟩)
               · intro hj
                 by_cases c10 : ((((((((decide (1 ≤ a0.Number)) && (decide (a0.Number ≤ 2147483647))) && (decide (1 ≤ a0.Size))) && (decide (a0.Size ≤ 268435456))) && (decide (1 ≤ (a0.Least.size : Int)))) && (decide ((a0.Least.size : Int) ≤ 1024))) && (decide ((a0.Limit.size : Int) ≤ 1025))) && (sLt a0.Least a0.Limit)) = true
                 · refine r_t hst (wt_of 46 rfl rfl c10) rfl (x_fieldAddr (j' := 4) hst fa_43_4 rfl rfl) ?_; intro a hst
                   refine r_t hst (wt_of 46 rfl rfl c10) rfl (x_loadB (i := 0) hst hsh sc_24 rfl rfl rfl) ?_; intro a hst
                   refine r_t hst (wt_of 46 rfl rfl c10) rfl (x_cmpI (b := decide (1 ≤ a0.Low)) hst rfl rfl rfl) ?_; intro a hst
                   refine r_t hst trivial rfl (x_andT hst rfl c10 rfl) ?_; intro a hst
                   exact hj _ (hst.keep _ ⟨rfl, rfl, rfl, trivial⟩)
                 · replace c10 := Bool.eq_false_iff.2 c10
                   refine r_not hst 46 rfl rfl c10 rfl ?_; intro a hst
                   refine r_not hst 46 rfl rfl c10 rfl ?_; intro a hst
                   refine r_not hst 46 rfl rfl c10 rfl ?_; intro a hst
                   refine r_t hst trivial rfl (x_andF (decide (1 ≤ a0.Low)) hst rfl c10 rfl) ?_; intro a hst
                   exact hj _ (hst.keep _ ⟨rfl, rfl, rfl, trivial⟩)
             · intro hj
               by_cases c9 : (((((((decide (1 ≤ a0.Number)) && (decide (a0.Number ≤ 2147483647))) && (decide (1 ≤ a0.Size))) && (decide (a0.Size ≤ 268435456))) && (decide (1 ≤ (a0.Least.size : Int)))) && (decide ((a0.Least.size : Int) ≤ 1024))) && (decide ((a0.Limit.size : Int) ≤ 1025))) = true
               · refine r_t hst (wt_of 39 rfl rfl c9) rfl (x_fieldAddr (j' := 2) hst fa_43_2 rfl rfl) ?_; intro a hst
                 refine r_t hst (wt_of 39 rfl rfl c9) rfl (x_loadB (i := 0) hst hsh sc_9 rfl rfl rfl) ?_; intro a hst
                 refine r_t hst (wt_of 39 rfl rfl c9) rfl (x_fieldAddr (j' := 3) hst fa_43_3 rfl rfl) ?_; intro a hst
                 refine r_t hst (wt_of 39 rfl rfl c9) rfl (x_loadB (i := 0) hst hsh sc_9 rfl rfl rfl) ?_; intro a hst
                 refine r_t hst (wt_of 39 rfl rfl c9) rfl (x_cmpS (b := sLt a0.Least a0.Limit) hst rfl rfl rfl) ?_; intro a hst
                 refine r_t hst trivial rfl (x_andT hst rfl c9 rfl) ?_; intro a hst
                 exact hj _ (hst.keep _ ⟨rfl, rfl, rfl, trivial⟩)
               · replace c9 := Bool.eq_false_iff.2 c9
                 refine r_not hst 39 rfl rfl c9 rfl ?_; intro a hst
                 refine r_not hst 39 rfl rfl c9 rfl ?_; intro a hst
                 refine r_not hst 39 rfl rfl c9 rfl ?_; intro a hst
                 refine r_not hst 39 rfl rfl c9 rfl ?_; intro a hst
                 refine r_not hst 39 rfl rfl c9 rfl ?_; intro a hst
                 refine r_t hst trivial rfl (x_andF (sLt a0.Least a0.Limit) hst rfl c9 rfl) ?_; intro a hst
                 exact hj _ (hst.keep _ ⟨rfl, rfl, rfl, trivial⟩)
           · intro hj
             by_cases c8 : ((((((decide (1 ≤ a0.Number)) && (decide (a0.Number ≤ 2147483647))) && (decide (1 ≤ a0.Size))) && (decide (a0.Size ≤ 268435456))) && (decide (1 ≤ (a0.Least.size : Int)))) && (decide ((a0.Least.size : Int) ≤ 1024))) = true
             · refine r_t hst (wt_of 33 rfl rfl c8) rfl (x_fieldAddr (j' := 3) hst fa_43_3 rfl rfl) ?_; intro a hst
               refine r_t hst (wt_of 33 rfl rfl c8) rfl (x_loadB (i := 0) hst hsh sc_9 rfl rfl rfl) ?_; intro a hst
               refine r_t hst (wt_of 33 rfl rfl c8) rfl (x_lenStr hst Try.underlying9 rfl) ?_; intro a hst
               refine r_t hst (wt_of 33 rfl rfl c8) rfl (x_cmpI (b := decide ((a0.Limit.size : Int) ≤ 1025)) hst rfl rfl rfl) ?_; intro a hst
               refine r_t hst trivial rfl (x_andT hst rfl c8 rfl) ?_; intro a hst
               exact hj _ (hst.keep _ ⟨rfl, rfl, rfl, trivial⟩)
             · replace c8 := Bool.eq_false_iff.2 c8
               refine r_not hst 33 rfl rfl c8 rfl ?_; intro a hst
               refine r_not hst 33 rfl rfl c8 rfl ?_; intro a hst
               refine r_not hst 33 rfl rfl c8 rfl ?_; intro a hst
               refine r_not hst 33 rfl rfl c8 rfl ?_; intro a hst
               refine r_t hst trivial rfl (x_andF (decide ((a0.Limit.size : Int) ≤ 1025)) hst rfl c8 rfl) ?_; intro a hst
               exact hj _ (hst.keep _ ⟨rfl, rfl, rfl, trivial⟩)
         · intro hj
           by_cases c7 : (((((decide (1 ≤ a0.Number)) && (decide (a0.Number ≤ 2147483647))) && (decide (1 ≤ a0.Size))) && (decide (a0.Size ≤ 268435456))) && (decide (1 ≤ (a0.Least.size : Int)))) = true
           · refine r_t hst (wt_of 27 rfl rfl c7) rfl (x_fieldAddr (j' := 2) hst fa_43_2 rfl rfl) ?_; intro a hst
             refine r_t hst (wt_of 27 rfl rfl c7) rfl (x_loadB (i := 0) hst hsh sc_9 rfl rfl rfl) ?_; intro a hst
             refine r_t hst (wt_of 27 rfl rfl c7) rfl (x_lenStr hst Try.underlying9 rfl) ?_; intro a hst
             refine r_t hst (wt_of 27 rfl rfl c7) rfl (x_cmpI (b := decide ((a0.Least.size : Int) ≤ 1024)) hst rfl rfl rfl) ?_; intro a hst
             refine r_t hst trivial rfl (x_andT hst rfl c7 rfl) ?_; intro a hst
             exact hj _ (hst.keep _ ⟨rfl, rfl, rfl, trivial⟩)
           · replace c7 := Bool.eq_false_iff.2 c7
             refine r_not hst 27 rfl rfl c7 rfl ?_; intro a hst
             refine r_not hst 27 rfl rfl c7 rfl ?_; intro a hst
             refine r_not hst 27 rfl rfl c7 rfl ?_; intro a hst
             refine r_not hst 27 rfl rfl c7 rfl ?_; intro a hst
             refine r_t hst trivial rfl (x_andF (decide ((a0.Least.size : Int) ≤ 1024)) hst rfl c7 rfl) ?_; intro a hst
             exact hj _ (hst.keep _ ⟨rfl, rfl, rfl, trivial⟩)
       · intro hj
         by_cases c6 : ((((decide (1 ≤ a0.Number)) && (decide (a0.Number ≤ 2147483647))) && (decide (1 ≤ a0.Size))) && (decide (a0.Size ≤ 268435456))) = true
         · refine r_t hst (wt_of 21 rfl rfl c6) rfl (x_fieldAddr (j' := 2) hst fa_43_2 rfl rfl) ?_; intro a hst
           refine r_t hst (wt_of 21 rfl rfl c6) rfl (x_loadB (i := 0) hst hsh sc_9 rfl rfl rfl) ?_; intro a hst
           refine r_t hst (wt_of 21 rfl rfl c6) rfl (x_lenStr hst Try.underlying9 rfl) ?_; intro a hst
           refine r_t hst (wt_of 21 rfl rfl c6) rfl (x_cmpI (b := decide (1 ≤ (a0.Least.size : Int))) hst rfl rfl rfl) ?_; intro a hst
           refine r_t hst trivial rfl (x_andT hst rfl c6 rfl) ?_; intro a hst
           exact hj _ (hst.keep _ ⟨rfl, rfl, rfl, trivial⟩)
         · replace c6 := Bool.eq_false_iff.2 c6
           refine r_not hst 21 rfl rfl c6 rfl ?_; intro a hst
           refine r_not hst 21 rfl rfl c6 rfl ?_; intro a hst
           refine r_not hst 21 rfl rfl c6 rfl ?_; intro a hst
           refine r_not hst 21 rfl rfl c6 rfl ?_; intro a hst
           refine r_t hst trivial rfl (x_andF (decide (1 ≤ (a0.Least.size : Int))) hst rfl c6 rfl) ?_; intro a hst
           exact hj _ (hst.keep _ ⟨rfl, rfl, rfl, trivial⟩)
     · intro hj
       by_cases c5 : (((decide (1 ≤ a0.Number)) && (decide (a0.Number ≤ 2147483647))) && (decide (1 ≤ a0.Size))) = true
       · refine r_t hst (wt_of 16 rfl rfl c5) rfl (x_fieldAddr (j' := 1) hst fa_43_1 rfl rfl) ?_; intro a hst
         refine r_t hst (wt_of 16 rfl rfl c5) rfl (x_loadB (i := 0) hst hsh sc_3 rfl rfl rfl) ?_; intro a hst
         refine r_t hst (wt_of 16 rfl rfl c5) rfl (x_cmpI (b := decide (a0.Size ≤ 268435456)) hst rfl rfl rfl) ?_; intro a hst
         refine r_t hst trivial rfl (x_andT hst rfl c5 rfl) ?_; intro a hst
         exact hj _ (hst.keep _ ⟨rfl, rfl, rfl, trivial⟩)
       · replace c5 := Bool.eq_false_iff.2 c5
         refine r_not hst 16 rfl rfl c5 rfl ?_; intro a hst
         refine r_not hst 16 rfl rfl c5 rfl ?_; intro a hst
         refine r_not hst 16 rfl rfl c5 rfl ?_; intro a hst
         refine r_t hst trivial rfl (x_andF (decide (a0.Size ≤ 268435456)) hst rfl c5 rfl) ?_; intro a hst
         exact hj _ (hst.keep _ ⟨rfl, rfl, rfl, trivial⟩)
   · intro hj
     by_cases c4 : ((decide (1 ≤ a0.Number)) && (decide (a0.Number ≤ 2147483647))) = true
     · refine r_t hst (wt_of 11 rfl rfl c4) rfl (x_fieldAddr (j' := 1) hst fa_43_1 rfl rfl) ?_; intro a hst
       refine r_t hst (wt_of 11 rfl rfl c4) rfl (x_loadB (i := 0) hst hsh sc_3 rfl rfl rfl) ?_; intro a hst
       refine r_t hst (wt_of 11 rfl rfl c4) rfl (x_cmpI (b := decide (1 ≤ a0.Size)) hst rfl rfl rfl) ?_; intro a hst
       refine r_t hst trivial rfl (x_andT hst rfl c4 rfl) ?_; intro a hst
       exact hj _ (hst.keep _ ⟨rfl, rfl, rfl, trivial⟩)
     · replace c4 := Bool.eq_false_iff.2 c4
       refine r_not hst 11 rfl rfl c4 rfl ?_; intro a hst
       refine r_not hst 11 rfl rfl c4 rfl ?_; intro a hst
       refine r_not hst 11 rfl rfl c4 rfl ?_; intro a hst
       refine r_t hst trivial rfl (x_andF (decide (1 ≤ a0.Size)) hst rfl c4 rfl) ?_; intro a hst
       exact hj _ (hst.keep _ ⟨rfl, rfl, rfl, trivial⟩)
 · intro hj
   by_cases c3 : (decide (1 ≤ a0.Number)) = true
   · refine r_t hst (wt_of 6 rfl rfl c3) rfl (x_fieldAddr (j' := 0) hst fa_43_0 rfl rfl) ?_; intro a hst
     refine r_t hst (wt_of 6 rfl rfl c3) rfl (x_loadB (i := 0) hst hsh sc_3 rfl rfl rfl) ?_; intro a hst
     refine r_t hst (wt_of 6 rfl rfl c3) rfl (x_cmpI (b := decide (a0.Number ≤ 2147483647)) hst rfl rfl rfl) ?_; intro a hst
     refine r_t hst trivial rfl (x_andT hst rfl c3 rfl) ?_; intro a hst
     exact hj _ (hst.keep _ ⟨rfl, rfl, rfl, trivial⟩)
   · replace c3 := Bool.eq_false_iff.2 c3
     refine r_not hst 6 rfl rfl c3 rfl ?_; intro a hst
     refine r_not hst 6 rfl rfl c3 rfl ?_; intro a hst
     refine r_not hst 6 rfl rfl c3 rfl ?_; intro a hst
     refine r_t hst trivial rfl (x_andF (decide (a0.Number ≤ 2147483647)) hst rfl c3 rfl) ?_; intro a hst
     exact hj _ (hst.keep _ ⟨rfl, rfl, rfl, trivial⟩)

set_option maxHeartbeats 4000000 in
set_option maxRecDepth 100000 in
theorem r16_sorted.calls (k : Nat) (w : World) (va0 : Value) (Za0 : Nat → Prop) (wra0 : World) (hsa0 : Same Za0 wra0 w) (a0 : (List Int)) (hra0 : RD (Kd.int .i64) Za0 wra0 va0 a0) (r : (List Int)) (h : r16_sorted k a0 = some r) :
    Calls Try.prog 58 ([va0] : List Value).toArray w fun e w' => ∃ v0_ : Value, e = .returned (v0_) ∧ SH (fun _ => False) w w' [Row (Kd.int .i64) 3 v0_ r] := by
 have H := h
 clear h
 unfold r16_sorted at H
 refine calls_enter Try.func58 rfl rfl ?_
 intro a hst
 have hsh := SH.zero (fun _ => False) w
 refine wq_seq ?_
 refine wq_region_lit (.inl rfl) ?_
 refine r_t hst trivial rfl (x_assign hst rfl) ?_; intro a hst
 refine wpL_nil ?_
 refine then_normal ?_
 refine wq_seq ?_
 refine wq_region_lit (.inl rfl) ?_
 refine r_t hst trivial rfl (x_assign hst rfl) ?_; intro a hst
 refine wpL_nil ?_
 refine then_normal ?_
 refine wq_seq ?_
 refine wq_seq ?_
 refine wq_region_lit (.inl rfl) ?_
 refine r_t hst trivial rfl (x_assign hst rfl) ?_; intro a hst
 refine wpL_nil ?_
 refine then_normal ?_
 refine wq_block ?_
 have hsh := hsh.addNil (Kd.int .i64) 3
 refine wq_loop_fuel (fun k_346 a w' => ∃ (v_275 : Value), ∃ (l_276 : (List Int)), ∃ (i_277 : Int), r16_sorted.l0 a0 k_346 l_276 i_277 = some r ∧ ST [] Try.f58.ntmps a [(0, va0), (2, (.slice none 0 0)), (3, v_275), (4, .int .i64 i_277)] ∧ SH (fun _ => False) w w' [Row (Kd.int .i64) 3 v_275 l_276]) k ?_ ?_
 · exact ⟨(.slice none 0 0), ([]), 0, H, hst.keep _ ⟨rfl, rfl, rfl, rfl, trivial⟩, hsh.pick [0]⟩
 · rintro k_346 a W_278 ⟨v_275, l_276, i_277, H, hst, hsh⟩
   cases k_346 with
   | zero => rw [r16_sorted.l0] at H; cases H
   | succ k_346 =>
    rw [r16_sorted.l0] at H
    refine wq_seq ?_
    refine wq_seq ?_
    refine wq_region_lit (.inl rfl) ?_
    refine r_t hst trivial rfl (x_move hst rfl) ?_; intro a hst
    refine r_t hst trivial rfl (x_move hst rfl) ?_; intro a hst
    refine r_t hst trivial rfl (x_lenSl hst Try.underlying56 rfl hra0.slen) ?_; intro a hst
    refine r_t hst trivial rfl (x_cmpI (b := decide (i_277 < (a0.length : Int))) hst rfl rfl rfl) ?_; intro a hst
    refine wpL_nil ?_
    refine then_normal ?_
    by_cases c827 : (decide (i_277 < (a0.length : Int))) = true
    · rw [if_pos c827] at H
      refine wq_condT hst rfl c827 ?_
      refine wq_skip ?_
      refine then_normal ?_
      obtain ⟨J_379, hJ_379, H⟩ := Jn.elim H
      refine wq_cut (fun a w' => ∃ (v_376 : Value), ∃ (l_377 : (List Int)), J_379 l_377 = some r ∧ ST [] Try.f58.ntmps a [(0, va0), (2, (.slice none 0 0)), (3, v_376), (4, .int .i64 i_277)] ∧ SH (fun _ => False) w w' [Row (Kd.int .i64) 3 v_376 l_377]) ?_ ?_
      · rintro a W_378 ⟨v_376, l_377, H, hst, hsh⟩
        subst hJ_379
        dsimp only at H
        refine wq_region_lit (.inl rfl) ?_
        refine r_t hst trivial rfl (x_move hst rfl) ?_; intro a hst
        refine r_t hst trivial rfl (x_arI (r := w64 (i_277 + 1)) hst rfl rfl rfl) ?_; intro a hst
        refine r_t hst trivial rfl (x_assign hst rfl) ?_; intro a hst
        refine wpL_nil ?_
        refine then_normal ?_
        exact ⟨k_346, Nat.lt_succ_self _, v_376, l_377, (w64 (i_277 + 1)), H, hst.keep _ ⟨rfl, rfl, rfl, rfl, trivial⟩, hsh.pick [0]⟩
      · refine wq_block ?_
        refine wq_seq ?_
        refine wq_region_lit (.inl rfl) ?_
        refine r_t hst trivial rfl (x_move hst rfl) ?_; intro a hst
        refine r_t hst trivial rfl (x_lenSl hst Try.underlying56 rfl (hsh.row 0 rfl).slen) ?_; intro a hst
        refine r_t hst trivial rfl (x_assign hst rfl) ?_; intro a hst
        refine wpL_nil ?_
        refine then_normal ?_
        refine wq_seq ?_
        refine wq_region_lit (.inl rfl) ?_
        refine r_t hst trivial rfl (x_move hst rfl) ?_; intro a hst
        refine r_t hst trivial rfl (x_move hst rfl) ?_; intro a hst
        refine r_t hst trivial rfl (x_move hst rfl) ?_; intro a hst
        obtain ⟨x909, hx909, H⟩ := Option.bind_eq_some_iff.1 H
        refine r_t hst trivial rfl (x_indexAddr hst Try.underlying56 el_3 rfl rfl hra0 hx909) ?_; intro a hst
        refine r_t hst trivial rfl (x_loadEF (j := 0) (cs := [.int .i64 x909]) hst sc_3 rfl hra0 (Same.sh0 hsa0 hsh) hx909 rfl (fun _ h => h) rfl) ?_; intro a hst
        refine r_buildSlice (vs := [.int .i64 x909]) (cs := [.int .i64 x909]) hst hsh trivial rfl Try.underlying56 el_3 rfl rfl (by simp [Value.cells]) rfl rfl ?_
        intro g910 a w911 hgg910 hsh hst
        replace hsh := hsh.pick [1, 0]
        obtain ⟨l912, hl912, H⟩ := Option.bind_eq_some_iff.1 H
        refine r_append1 (xx := x909) (C := []) (M := []) hst hsh trivial rfl Try.underlying56 el_3 (by decide) (by decide) (by decide) rfl rfl (fun _ _ _ => rfl) hl912 ?_
        intro v913 a w914 hsh hst
        refine r_t hst trivial rfl (x_assign hst rfl) ?_; intro a hst
        refine wpL_nil ?_
        refine then_normal ?_
        refine wq_block ?_
        refine wq_loop_fuel (fun k_402 a w' => ∃ (l_390 : (List Int)), ∃ (i_391 : Int), r16_sorted.l1 J_379 k_402 l_390 i_391 = some r ∧ ST [] Try.f58.ntmps a [(0, va0), (2, (.slice none 0 0)), (3, v913), (4, .int .i64 i_277), (5, .int .i64 i_391)] ∧ SH (fun _ => False) w w' [Row (Kd.int .i64) 3 v913 l_390]) k_346 ?_ ?_
        · exact ⟨l912, (l_276.length : Int), H, hst.keep _ ⟨rfl, rfl, rfl, rfl, rfl, trivial⟩, hsh.pick [0]⟩
        · rintro k_402 a W_392 ⟨l_390, i_391, H, hst, hsh⟩
          cases k_402 with
          | zero => rw [r16_sorted.l1] at H; cases H
          | succ k_402 =>
           rw [r16_sorted.l1] at H
           refine wq_seq ?_
           refine wq_seq ?_
           refine wq_region_q (.inl rfl) (fun w' => SH (fun _ => False) w w' [Row (Kd.int .i64) 3 v913 l_390]) (shut_sh _ _ _) hsh.drew fo (by kernel_rfl) ?_
           refine q_t hst trivial rfl (fun _ hsh => x_move hst rfl) ?_; intro a hst
           refine q_t hst trivial rfl (fun _ hsh => x_cmpI (b := decide (0 < i_391)) hst rfl rfl rfl) ?_; intro a hst
           refine q_t hst trivial rfl (fun _ hsh => x_move hst rfl) ?_; intro a hst
           obtain ⟨J_407, hJ_407, H⟩ := Jn.elim H
           refine q_join 14 (fun a => ∃ (b_406 : Bool), J_407 b_406 = some r ∧ ST [] Try.f58.ntmps a [(0, va0), (2, (.slice none 0 0)), (3, v913), (4, .int .i64 i_277), (5, .int .i64 i_391), (34, .bool b_406)]) ?_ ?_
           · rintro a ⟨b_406, H, hst⟩
             subst hJ_407
             dsimp only at H
             refine q_nil ?_
             intro w975 hsh
             refine then_normal ?_
             by_cases c976 : b_406 = true
             · rw [if_pos c976] at H
               refine wq_condT hst rfl c976 ?_
               refine wq_skip ?_
               refine then_normal ?_
               refine wq_block ?_
               refine wq_seq ?_
               have hw976_0 := hsh.row 0 rfl
               refine wq_region_t (.inl rfl) (.fin [(3, 0), (3, 1), (3, 2), (3, 3), (3, 4), (3, 5), (3, 6), (3, 7), (0, 8), (3, 9), (3, 10), (3, 11), (3, 12), (0, 13), (3, 14), (2, 15), (0, 16), (2, 17)]) (fun w' => SH (fun _ => False) w w' []) (fun w' => SH (fun _ => False) w w' [Row (Kd.int .i64) 3 v913 l_390]) (fun w' => SH (fun _ => False) w w' [Row (Kd.int .i64) 3 v913 l_390]) (shut_sh _ _ _) (shut_sh _ _ _) (shut_sh _ _ _) (sub_sh [] rfl) (sub_sh [0] rfl) hsh.drew fo (by kernel_rfl) ?_
               refine t_fin ?_
               refine m_p hst trivial rfl (fun _ => x_move hst rfl) ?_; intro a hst
               refine m_p hst trivial rfl (fun _ => x_move hst rfl) ?_; intro a hst
               refine m_p hst trivial rfl (fun _ => x_arI (r := w64 (i_391 - 1)) hst rfl rfl rfl) ?_; intro a hst
               refine m_p hst trivial rfl (fun _ => x_move hst rfl) ?_; intro a hst
               refine m_p hst trivial rfl (fun _ => x_move hst rfl) ?_; intro a hst
               refine m_p hst trivial rfl (fun _ => x_move hst rfl) ?_; intro a hst
               refine m_p hst trivial rfl (fun _ => x_move hst rfl) ?_; intro a hst
               obtain ⟨x977, hx977, H⟩ := Option.bind_eq_some_iff.1 H
               refine m_p hst trivial rfl (fun _ => x_indexAddr hst Try.underlying56 el_3 rfl rfl hw976_0 hx977) ?_; intro a hst
               refine m_t hst trivial rfl (fun _ hsh => x_loadEF (j := 0) (cs := [.int .i64 x977]) hst sc_3 rfl (hsh.row 0 rfl) (Same.refl _ _) hx977 rfl (fun _ h => h) rfl) ?_; intro a hst
               refine m_p hst trivial rfl (fun _ => x_move hst rfl) ?_; intro a hst
               refine m_p hst trivial rfl (fun _ => x_move hst rfl) ?_; intro a hst
               refine m_p hst trivial rfl (fun _ => x_arI (r := w64 (i_391 - 1)) hst rfl rfl rfl) ?_; intro a hst
               obtain ⟨x978, hx978, H⟩ := Option.bind_eq_some_iff.1 H
               refine m_p hst trivial rfl (fun _ => x_indexAddr hst Try.underlying56 el_3 rfl rfl hw976_0 hx978) ?_; intro a hst
               refine m_t hst trivial rfl (fun _ hsh => x_loadEF (j := 0) (cs := [.int .i64 x978]) hst sc_3 rfl (hsh.row 0 rfl) (Same.refl _ _) hx978 rfl (fun _ h => h) rfl) ?_; intro a hst
               obtain ⟨x979, hx979, H⟩ := Option.bind_eq_some_iff.1 H
               refine m_p hst trivial rfl (fun _ => x_indexAddr hst Try.underlying56 el_3 rfl rfl hw976_0 hx979) ?_; intro a hst
               refine m_loud (.inr rfl) ?_
               intro w980 hsh
               obtain ⟨l981, hl981, H⟩ := Option.bind_eq_some_iff.1 H
               refine r_storeE (i := 0) (off := 0) (new := x977) (cs' := [.int .i64 x977]) hst hsh trivial sc_3 rfl rfl rfl hx979 rfl (Nat.le_of_ble_eq_true rfl) rfl (fun _ _ _ h => by rw [h]; rfl) (fun _ _ => rfl) ?_; intro a w982 hsh hst
               rw [← upd_some hl981] at hsh
               refine m_turn hsh (sub_sh [] rfl) ?_
               obtain ⟨x983, hx983, H⟩ := Option.bind_eq_some_iff.1 H
               refine m_t hst trivial rfl (fun _ hsh => x_indexAddr hst Try.underlying56 el_3 rfl rfl (hsh.row 0 rfl) hx983) ?_; intro a hst
               refine m_loud (.inr rfl) ?_
               intro w984 hsh
               obtain ⟨l985, hl985, H⟩ := Option.bind_eq_some_iff.1 H
               refine r_storeE (i := 0) (off := 0) (new := x978) (cs' := [.int .i64 x978]) hst hsh trivial sc_3 rfl rfl rfl hx983 rfl (Nat.le_of_ble_eq_true rfl) rfl (fun _ _ _ h => by rw [h]; rfl) (fun _ _ => rfl) ?_; intro a w986 hsh hst
               rw [← upd_some hl985] at hsh
               refine m_turn hsh (sub_sh [] rfl) ?_
               refine m_nil ?_
               intro w987 hsh
               refine qn_normal ?_
               refine then_normal ?_
               refine wq_region_lit (.inl rfl) ?_
               refine r_t hst trivial rfl (x_move hst rfl) ?_; intro a hst
               refine r_t hst trivial rfl (x_arI (r := w64 (i_391 - 1)) hst rfl rfl rfl) ?_; intro a hst
               refine r_t hst trivial rfl (x_assign hst rfl) ?_; intro a hst
               refine wpL_nil ?_
               refine block_normal ?_
               refine then_normal ?_
               exact ⟨k_402, Nat.lt_succ_self _, l985, (w64 (i_391 - 1)), H, hst.keep _ ⟨rfl, rfl, rfl, rfl, rfl, trivial⟩, hsh.pick [0]⟩
             · rw [if_neg c976] at H
               replace c976 := Bool.eq_false_iff.2 c976
               refine wq_condF hst rfl c976 ?_
               refine wq_exit ?_
               refine then_exit ?_
               refine then_exit ?_
               refine block_hit ?_
               refine block_normal ?_
               refine then_normal ?_
               exact ⟨v913, l_390, H, hst.keep _ ⟨rfl, rfl, rfl, rfl, trivial⟩, hsh.pick [0]⟩
           · intro hj
             by_cases c972 : (decide (0 < i_391)) = true
             · rw [if_pos c972] at H
               refine q_t hst (wt_of 23 rfl rfl c972) rfl (fun _ hsh => x_move hst rfl) ?_; intro a hst
               refine q_t hst (wt_of 23 rfl rfl c972) rfl (fun _ hsh => x_move hst rfl) ?_; intro a hst
               refine q_t hst (wt_of 23 rfl rfl c972) rfl (fun _ hsh => x_arI (r := w64 (i_391 - 1)) hst rfl rfl rfl) ?_; intro a hst
               obtain ⟨x988, hx988, H⟩ := Option.bind_eq_some_iff.1 H
               refine q_t hst (wt_of 23 rfl rfl c972) rfl (fun _ hsh => x_indexAddr hst Try.underlying56 el_3 rfl rfl (hsh.row 0 rfl) hx988) ?_; intro a hst
               refine q_t hst (wt_of 23 rfl rfl c972) rfl (fun _ hsh => x_loadEF (j := 0) (cs := [.int .i64 x988]) hst sc_3 rfl (hsh.row 0 rfl) (Same.refl _ _) hx988 rfl (fun _ h => h) rfl) ?_; intro a hst
               refine q_t hst (wt_of 23 rfl rfl c972) rfl (fun _ hsh => x_move hst rfl) ?_; intro a hst
               refine q_t hst (wt_of 23 rfl rfl c972) rfl (fun _ hsh => x_move hst rfl) ?_; intro a hst
               obtain ⟨x989, hx989, H⟩ := Option.bind_eq_some_iff.1 H
               refine q_t hst (wt_of 23 rfl rfl c972) rfl (fun _ hsh => x_indexAddr hst Try.underlying56 el_3 rfl rfl (hsh.row 0 rfl) hx989) ?_; intro a hst
               refine q_t hst (wt_of 23 rfl rfl c972) rfl (fun _ hsh => x_loadEF (j := 0) (cs := [.int .i64 x989]) hst sc_3 rfl (hsh.row 0 rfl) (Same.refl _ _) hx989 rfl (fun _ h => h) rfl) ?_; intro a hst
               refine q_t hst (wt_of 23 rfl rfl c972) rfl (fun _ hsh => x_cmpI (b := decide (x989 < x988)) hst rfl rfl rfl) ?_; intro a hst
               refine q_t hst trivial rfl (fun _ hsh => x_pickT hst rfl c972 rfl) ?_; intro a hst
               exact hj _ ⟨(decide (x989 < x988)), H, hst.keep _ ⟨rfl, rfl, rfl, rfl, rfl, rfl, trivial⟩⟩
             · rw [if_neg c972] at H
               replace c972 := Bool.eq_false_iff.2 c972
               refine q_not hst 23 rfl rfl c972 rfl ?_; intro a hst
               refine q_not hst 23 rfl rfl c972 rfl ?_; intro a hst
               refine q_not hst 23 rfl rfl c972 rfl ?_; intro a hst
               refine q_not hst 23 rfl rfl c972 rfl ?_; intro a hst
               refine q_not hst 23 rfl rfl c972 rfl ?_; intro a hst
               refine q_not hst 23 rfl rfl c972 rfl ?_; intro a hst
               refine q_not hst 23 rfl rfl c972 rfl ?_; intro a hst
               refine q_not hst 23 rfl rfl c972 rfl ?_; intro a hst
               refine q_not hst 23 rfl rfl c972 rfl ?_; intro a hst
               refine q_not hst 23 rfl rfl c972 rfl ?_; intro a hst
               refine q_t hst trivial rfl (fun _ hsh => x_pickF hst rfl c972 rfl) ?_; intro a hst
               exact hj _ ⟨false, H, hst.keep _ ⟨rfl, rfl, rfl, rfl, rfl, rfl, trivial⟩⟩
    · rw [if_neg c827] at H
      replace c827 := Bool.eq_false_iff.2 c827
      refine wq_condF hst rfl c827 ?_
      refine wq_exit ?_
      refine then_exit ?_
      refine then_exit ?_
      refine block_hit ?_
      refine then_normal ?_
      refine wq_seq ?_
      refine wq_region_lit (.inl rfl) ?_
      refine r_t hst trivial rfl (x_move hst rfl) ?_; intro a hst
      refine r_t hst trivial rfl (x_assign hst rfl) ?_; intro a hst
      refine wpL_nil ?_
      refine then_normal ?_
      refine wq_ret ?_
      obtain rfl := Option.some.inj H
      exact ret1 hst rfl rfl ⟨v_275, rfl, hsh.pick [0]⟩

set_option maxHeartbeats 4000000 in
set_option maxRecDepth 100000 in
theorem r16_numbers.calls (k : Nat) (w : World) (va0 : Value) (Za0 : Nat → Prop) (wra0 : World) (hsa0 : Same Za0 wra0 w) (a0 : (List (List File))) (hra0 : RD (Kd.slice 43 k_File) Za0 wra0 va0 a0) (r : (List Int)) (h : r16_numbers k a0 = some r) :
    Calls Try.prog 39 ([va0] : List Value).toArray w fun e w' => ∃ v0_ : Value, e = .returned (v0_) ∧ SH (fun _ => False) w w' [Row (Kd.int .i64) 3 v0_ r] := by
 have H := h
 clear h
 unfold r16_numbers at H
 refine calls_enter Try.func39 rfl rfl ?_
 intro a hst
 have hsh := SH.zero (fun _ => False) w
 refine wq_seq ?_
 refine wq_region_lit (.inl rfl) ?_
 refine r_t hst trivial rfl (x_assign hst rfl) ?_; intro a hst
 refine wpL_nil ?_
 refine then_normal ?_
 refine wq_seq ?_
 refine wq_region_lit (.inl rfl) ?_
 refine r_t hst trivial rfl (x_assign hst rfl) ?_; intro a hst
 refine wpL_nil ?_
 refine then_normal ?_
 refine wq_seq ?_
 refine wq_seq ?_
 refine wq_region_lit (.inl rfl) ?_
 refine r_t hst trivial rfl (x_assign hst rfl) ?_; intro a hst
 refine wpL_nil ?_
 refine then_normal ?_
 refine wq_block ?_
 have hsh := hsh.addNil (Kd.int .i64) 3
 refine wq_loop_fuel (fun k_208 a w' => ∃ (v_167 : Value), ∃ (l_168 : (List Int)), ∃ (i_169 : Int), r16_numbers.l0 a0 k_208 l_168 i_169 = some r ∧ ST [] Try.f39.ntmps a [(0, va0), (2, (.slice none 0 0)), (3, v_167), (4, .int .i64 i_169)] ∧ SH (fun _ => False) w w' [Row (Kd.int .i64) 3 v_167 l_168]) k ?_ ?_
 · exact ⟨(.slice none 0 0), ([]), 0, H, hst.keep _ ⟨rfl, rfl, rfl, rfl, trivial⟩, hsh.pick [0]⟩
 · rintro k_208 a W_170 ⟨v_167, l_168, i_169, H, hst, hsh⟩
   cases k_208 with
   | zero => rw [r16_numbers.l0] at H; cases H
   | succ k_208 =>
    rw [r16_numbers.l0] at H
    refine wq_seq ?_
    refine wq_seq ?_
    refine wq_region_lit (.inl rfl) ?_
    refine r_t hst trivial rfl (x_move hst rfl) ?_; intro a hst
    refine r_t hst trivial rfl (x_move hst rfl) ?_; intro a hst
    refine r_t hst trivial rfl (x_lenSl hst Try.underlying23 rfl hra0.slen) ?_; intro a hst
    refine r_t hst trivial rfl (x_cmpI (b := decide (i_169 < (a0.length : Int))) hst rfl rfl rfl) ?_; intro a hst
    refine wpL_nil ?_
    refine then_normal ?_
    by_cases c1045 : (decide (i_169 < (a0.length : Int))) = true
    · rw [if_pos c1045] at H
      refine wq_condT hst rfl c1045 ?_
      refine wq_skip ?_
      refine then_normal ?_
      obtain ⟨J_226, hJ_226, H⟩ := Jn.elim H
      refine wq_cut (fun a w' => ∃ (v_223 : Value), ∃ (l_224 : (List Int)), J_226 l_224 = some r ∧ ST [] Try.f39.ntmps a [(0, va0), (2, (.slice none 0 0)), (3, v_223), (4, .int .i64 i_169)] ∧ SH (fun _ => False) w w' [Row (Kd.int .i64) 3 v_223 l_224]) ?_ ?_
      · rintro a W_225 ⟨v_223, l_224, H, hst, hsh⟩
        subst hJ_226
        dsimp only at H
        refine wq_region_lit (.inl rfl) ?_
        refine r_t hst trivial rfl (x_move hst rfl) ?_; intro a hst
        refine r_t hst trivial rfl (x_arI (r := w64 (i_169 + 1)) hst rfl rfl rfl) ?_; intro a hst
        refine r_t hst trivial rfl (x_assign hst rfl) ?_; intro a hst
        refine wpL_nil ?_
        refine then_normal ?_
        exact ⟨k_208, Nat.lt_succ_self _, v_223, l_224, (w64 (i_169 + 1)), H, hst.keep _ ⟨rfl, rfl, rfl, rfl, trivial⟩, hsh.pick [0]⟩
      · refine wq_block ?_
        refine wq_seq ?_
        refine wq_region_lit (.inl rfl) ?_
        refine r_t hst trivial rfl (x_assign hst rfl) ?_; intro a hst
        refine wpL_nil ?_
        refine then_normal ?_
        refine wq_block ?_
        refine wq_loop_fuel (fun k_240 a w' => ∃ (v_232 : Value), ∃ (l_233 : (List Int)), ∃ (i_234 : Int), r16_numbers.l1 a0 i_169 J_226 k_240 l_233 i_234 = some r ∧ ST [] Try.f39.ntmps a [(0, va0), (2, (.slice none 0 0)), (3, v_232), (4, .int .i64 i_169), (5, .int .i64 i_234)] ∧ SH (fun _ => False) w w' [Row (Kd.int .i64) 3 v_232 l_233]) k_208 ?_ ?_
        · exact ⟨v_167, l_168, 0, H, hst.keep _ ⟨rfl, rfl, rfl, rfl, rfl, trivial⟩, hsh.pick [0]⟩
        · rintro k_240 a W_235 ⟨v_232, l_233, i_234, H, hst, hsh⟩
          cases k_240 with
          | zero => rw [r16_numbers.l1] at H; cases H
          | succ k_240 =>
           rw [r16_numbers.l1] at H
           refine wq_seq ?_
           refine wq_seq ?_
           refine wq_region_lit (.inl rfl) ?_
           refine r_t hst trivial rfl (x_move hst rfl) ?_; intro a hst
           refine r_t hst trivial rfl (x_move hst rfl) ?_; intro a hst
           refine r_t hst trivial rfl (x_move hst rfl) ?_; intro a hst
           obtain ⟨x1222, hx1222, H⟩ := Option.bind_eq_some_iff.1 H
           refine r_t hst trivial rfl (x_indexAddr hst Try.underlying23 el_39 rfl rfl hra0 hx1222) ?_; intro a hst
           obtain ⟨_, hk1223, hc1224⟩ := RD.cells2 hra0 hx1222
           obtain ⟨v1225, rfl, hr1226⟩ := hk1223
           refine r_t hst trivial rfl (x_loadC hst sc_39 rfl (hc1224 _ (Same.sh0 hsa0 hsh) 0 _ rfl)) ?_; intro a hst
           refine r_t hst trivial rfl (x_lenSl hst Try.underlying39 rfl hr1226.slen) ?_; intro a hst
           refine r_t hst trivial rfl (x_cmpI (b := decide (i_234 < (x1222.length : Int))) hst rfl rfl rfl) ?_; intro a hst
           refine wpL_nil ?_
           refine then_normal ?_
           by_cases c1227 : (decide (i_234 < (x1222.length : Int))) = true
           · rw [if_pos c1227] at H
             refine wq_condT hst rfl c1227 ?_
             refine wq_skip ?_
             refine then_normal ?_
             refine wq_seq ?_
             refine wq_block ?_
             refine wq_region_lit (.inl rfl) ?_
             refine r_t hst trivial rfl (x_move hst rfl) ?_; intro a hst
             refine r_t hst trivial rfl (x_move hst rfl) ?_; intro a hst
             refine r_t hst trivial rfl (x_move hst rfl) ?_; intro a hst
             obtain ⟨x1239, hx1239, H⟩ := Option.bind_eq_some_iff.1 H
             refine r_t hst trivial rfl (x_indexAddr hst Try.underlying23 el_39 rfl rfl hra0 hx1239) ?_; intro a hst
             obtain ⟨_, hk1240, hc1241⟩ := RD.cells2 hra0 hx1239
             obtain ⟨v1242, rfl, hr1243⟩ := hk1240
             refine r_t hst trivial rfl (x_loadC hst sc_39 rfl (hc1241 _ (Same.sh0 hsa0 hsh) 0 _ rfl)) ?_; intro a hst
             refine r_t hst trivial rfl (x_move hst rfl) ?_; intro a hst
             obtain ⟨x1244, hx1244, H⟩ := Option.bind_eq_some_iff.1 H
             refine r_t hst trivial rfl (x_indexAddr hst Try.underlying39 el_43 rfl rfl hr1243 hx1244) ?_; intro a hst
             refine r_t hst trivial rfl (x_fieldAddrE (n' := Int.toNat i_234 * k_File.sz) hst fa_43_0 rfl rfl) ?_; intro a hst
             refine r_t hst trivial rfl (x_loadEF (j := 0) (cs := [.int .i64 x1244.Number, .int .i64 x1244.Size, .string x1244.Least, .string x1244.Limit, .int .u64 x1244.Low, .int .u64 x1244.High]) hst sc_3 rfl hr1243 (Same.sh0 hsa0 hsh) hx1244 rfl (fun _ h => h) rfl) ?_; intro a hst
             refine r_buildSlice (vs := [.int .i64 x1244.Number]) (cs := [.int .i64 x1244.Number]) hst hsh trivial rfl Try.underlying56 el_3 rfl rfl (by simp [Value.cells]) rfl rfl ?_
             intro g1245 a w1246 hgg1245 hsh hst
             replace hsh := hsh.pick [1, 0]
             obtain ⟨l1247, hl1247, H⟩ := Option.bind_eq_some_iff.1 H
             refine r_append1 (xx := x1244.Number) (C := []) (M := []) hst hsh trivial rfl Try.underlying56 el_3 (by decide) (by decide) (by decide) rfl rfl (fun _ _ _ => rfl) hl1247 ?_
             intro v1248 a w1249 hsh hst
             refine r_t hst trivial rfl (x_assign hst rfl) ?_; intro a hst
             refine wpL_nil ?_
             refine block_normal ?_
             refine then_normal ?_
             refine wq_region_lit (.inl rfl) ?_
             refine r_t hst trivial rfl (x_move hst rfl) ?_; intro a hst
             refine r_t hst trivial rfl (x_arI (r := w64 (i_234 + 1)) hst rfl rfl rfl) ?_; intro a hst
             refine r_t hst trivial rfl (x_assign hst rfl) ?_; intro a hst
             refine wpL_nil ?_
             refine then_normal ?_
             exact ⟨k_240, Nat.lt_succ_self _, v1248, l1247, (w64 (i_234 + 1)), H, hst.keep _ ⟨rfl, rfl, rfl, rfl, rfl, trivial⟩, hsh.pick [0]⟩
           · rw [if_neg c1227] at H
             replace c1227 := Bool.eq_false_iff.2 c1227
             refine wq_condF hst rfl c1227 ?_
             refine wq_exit ?_
             refine then_exit ?_
             refine then_exit ?_
             refine block_hit ?_
             refine block_normal ?_
             refine then_normal ?_
             exact ⟨v_232, l_233, H, hst.keep _ ⟨rfl, rfl, rfl, rfl, trivial⟩, hsh.pick [0]⟩
    · rw [if_neg c1045] at H
      replace c1045 := Bool.eq_false_iff.2 c1045
      refine wq_condF hst rfl c1045 ?_
      refine wq_exit ?_
      refine then_exit ?_
      refine then_exit ?_
      refine block_hit ?_
      refine then_normal ?_
      refine wq_seq ?_
      refine wq_region_lit (.inl rfl) ?_
      refine r_t hst trivial rfl (x_move hst rfl) ?_; intro a hst
      obtain ⟨r1250, hr1250, H⟩ := Option.bind_eq_some_iff.1 H
      refine r_callD hst trivial rfl fn_58 rfl (r16_sorted.calls k_208 _ _ _ _ (Same.refl _ _) _ (hsh.row 0 rfl) r1250 hr1250) ?_
      rintro e w1251 ⟨v1252, rfl, hc⟩
      replace hsh := hsh.call0 hc
      clear hc
      refine ⟨_, rfl, fun a hst => ?_⟩
      refine r_t hst trivial rfl (x_assign hst rfl) ?_; intro a hst
      refine wpL_nil ?_
      refine then_normal ?_
      refine wq_ret ?_
      obtain rfl := Option.some.inj H
      exact ret1 hst rfl rfl ⟨v1252, rfl, hsh.pick [0]⟩

set_option maxHeartbeats 4000000 in
set_option maxRecDepth 100000 in
theorem r16_Valid.calls (k : Nat) (w : World) (va0 : Value) (Za0 : Nat → Prop) (wra0 : World) (hsa0 : Same Za0 wra0 w) (a0 : (List (List File))) (hra0 : RD (Kd.slice 43 k_File) Za0 wra0 va0 a0) (r : Bool) (h : r16_Valid k a0 = some r) :
    Calls Try.prog 13 ([va0] : List Value).toArray w fun e w' => e = .returned (.bool r) ∧ SH (fun _ => False) w w' [] := by
 have H := h
 clear h
 unfold r16_Valid at H
 refine calls_enter Try.func13 rfl rfl ?_
 intro a hst
 have hsh := SH.zero (fun _ => False) w
 refine wq_seq ?_
 refine wq_region_lit (.inl rfl) ?_
 refine r_t hst trivial rfl (x_assign hst rfl) ?_; intro a hst
 refine wpL_nil ?_
 refine then_normal ?_
 refine wq_seq ?_
 refine wq_seq ?_
 refine wq_region_lit (.inl rfl) ?_
 refine r_t hst trivial rfl (x_move hst rfl) ?_; intro a hst
 refine r_t hst trivial rfl (x_lenSl hst Try.underlying23 rfl hra0.slen) ?_; intro a hst
 refine r_t hst trivial rfl (x_cmpI (b := decide ((a0.length : Int) < 1)) hst rfl rfl rfl) ?_; intro a hst
 refine r_t hst trivial rfl (x_move hst rfl) ?_; intro a hst
 refine wl_join0 (Δ := []) (N := Try.f13.ntmps) 8 [(0, va0), (2, .bool false), (14, .bool ((decide ((a0.length : Int) < 1)) || (decide (7 < (a0.length : Int)))))] ?_ ?_
 · intro a hst
   refine wpL_nil ?_
   refine then_normal ?_
   by_cases c4 : ((decide ((a0.length : Int) < 1)) || (decide (7 < (a0.length : Int)))) = true
   · rw [if_pos c4] at H
     refine wq_condT hst rfl c4 ?_
     refine wq_seq ?_
     refine wq_region_lit (.inl rfl) ?_
     refine r_t hst trivial rfl (x_assign hst rfl) ?_; intro a hst
     refine wpL_nil ?_
     refine then_normal ?_
     refine wq_ret ?_
     refine then_ret ?_
     obtain rfl := Option.some.inj H
     exact ret1 hst rfl rfl ⟨rfl, hsh.pick []⟩
   · rw [if_neg c4] at H
     replace c4 := Bool.eq_false_iff.2 c4
     refine wq_condF hst rfl c4 ?_
     refine wq_skip ?_
     refine then_normal ?_
     refine wq_seq ?_
     refine wq_seq ?_
     refine wq_region_lit (.inl rfl) ?_
     refine r_t hst trivial rfl (x_assign hst rfl) ?_; intro a hst
     refine wpL_nil ?_
     refine then_normal ?_
     refine wq_block ?_
     refine wq_loop_fuel (fun k_1006 a w' => ∃ (i_804 : Int), r16_Valid.l0 a0 k_1006 i_804 = some r ∧ ST [] Try.f13.ntmps a [(0, va0), (2, .bool false), (3, .int .i64 i_804)] ∧ SH (fun _ => False) w w' []) k ?_ ?_
     · exact ⟨0, H, hst.keep _ ⟨rfl, rfl, rfl, trivial⟩, hsh.pick []⟩
     · rintro k_1006 a W_805 ⟨i_804, H, hst, hsh⟩
       cases k_1006 with
       | zero => rw [r16_Valid.l0] at H; cases H
       | succ k_1006 =>
        rw [r16_Valid.l0] at H
        refine wq_seq ?_
        refine wq_seq ?_
        refine wq_region_lit (.inl rfl) ?_
        refine r_t hst trivial rfl (x_move hst rfl) ?_; intro a hst
        refine r_t hst trivial rfl (x_move hst rfl) ?_; intro a hst
        refine r_t hst trivial rfl (x_lenSl hst Try.underlying23 rfl hra0.slen) ?_; intro a hst
        refine r_t hst trivial rfl (x_cmpI (b := decide (i_804 < (a0.length : Int))) hst rfl rfl rfl) ?_; intro a hst
        refine wpL_nil ?_
        refine then_normal ?_
        by_cases c6316 : (decide (i_804 < (a0.length : Int))) = true
        · rw [if_pos c6316] at H
          refine wq_condT hst rfl c6316 ?_
          refine wq_skip ?_
          refine then_normal ?_
          obtain ⟨J_1106, hJ_1106, H⟩ := Jn.elim H
          refine wq_cut (fun a w' => J_1106 = some r ∧ ST [] Try.f13.ntmps a [(0, va0), (2, .bool false), (3, .int .i64 i_804)] ∧ SH (fun _ => False) w w' []) ?_ ?_
          · rintro a W_1105 ⟨H, hst, hsh⟩
            subst hJ_1106
            refine wq_region_lit (.inl rfl) ?_
            refine r_t hst trivial rfl (x_move hst rfl) ?_; intro a hst
            refine r_t hst trivial rfl (x_arI (r := w64 (i_804 + 1)) hst rfl rfl rfl) ?_; intro a hst
            refine r_t hst trivial rfl (x_assign hst rfl) ?_; intro a hst
            refine wpL_nil ?_
            refine then_normal ?_
            exact ⟨k_1006, Nat.lt_succ_self _, (w64 (i_804 + 1)), H, hst.keep _ ⟨rfl, rfl, rfl, trivial⟩, hsh.pick []⟩
          · refine wq_block ?_
            refine wq_seq ?_
            refine wq_region_lit (.inl rfl) ?_
            refine r_t hst trivial rfl (x_assign hst rfl) ?_; intro a hst
            refine wpL_nil ?_
            refine then_normal ?_
            refine wq_block ?_
            refine wq_loop_fuel (fun k_1174 a w' => ∃ (i_1140 : Int), r16_Valid.l1 a0 i_804 J_1106 k_1174 i_1140 = some r ∧ ST [] Try.f13.ntmps a [(0, va0), (2, .bool false), (3, .int .i64 i_804), (4, .int .i64 i_1140)] ∧ SH (fun _ => False) w w' []) k_1006 ?_ ?_
            · exact ⟨0, H, hst.keep _ ⟨rfl, rfl, rfl, rfl, trivial⟩, hsh.pick []⟩
            · rintro k_1174 a W_1141 ⟨i_1140, H, hst, hsh⟩
              cases k_1174 with
              | zero => rw [r16_Valid.l1] at H; cases H
              | succ k_1174 =>
               rw [r16_Valid.l1] at H
               refine wq_seq ?_
               refine wq_seq ?_
               refine wq_region_lit (.inl rfl) ?_
               refine r_t hst trivial rfl (x_move hst rfl) ?_; intro a hst
               refine r_t hst trivial rfl (x_move hst rfl) ?_; intro a hst
               refine r_t hst trivial rfl (x_move hst rfl) ?_; intro a hst
               obtain ⟨x7373, hx7373, H⟩ := Option.bind_eq_some_iff.1 H
               refine r_t hst trivial rfl (x_indexAddr hst Try.underlying23 el_39 rfl rfl hra0 hx7373) ?_; intro a hst
               obtain ⟨_, hk7374, hc7375⟩ := RD.cells2 hra0 hx7373
               obtain ⟨v7376, rfl, hr7377⟩ := hk7374
               refine r_t hst trivial rfl (x_loadC hst sc_39 rfl (hc7375 _ (Same.sh0 hsa0 hsh) 0 _ rfl)) ?_; intro a hst
               refine r_t hst trivial rfl (x_lenSl hst Try.underlying39 rfl hr7377.slen) ?_; intro a hst
               refine r_t hst trivial rfl (x_cmpI (b := decide (i_1140 < (x7373.length : Int))) hst rfl rfl rfl) ?_; intro a hst
               refine wpL_nil ?_
               refine then_normal ?_
               by_cases c7378 : (decide (i_1140 < (x7373.length : Int))) = true
               · rw [if_pos c7378] at H
                 refine wq_condT hst rfl c7378 ?_
                 refine wq_skip ?_
                 refine then_normal ?_
                 refine wq_seq ?_
                 refine wq_block ?_
                 refine wq_seq ?_
                 refine wq_seq ?_
                 refine wq_region_lit (.inl rfl) ?_
                 refine r_t hst trivial rfl (x_move hst rfl) ?_; intro a hst
                 refine r_t hst trivial rfl (x_move hst rfl) ?_; intro a hst
                 obtain ⟨x7487, hx7487, H⟩ := Option.bind_eq_some_iff.1 H
                 refine r_t hst trivial rfl (x_indexAddr hst Try.underlying23 el_39 rfl rfl hra0 hx7487) ?_; intro a hst
                 obtain ⟨_, hk7488, hc7489⟩ := RD.cells2 hra0 hx7487
                 obtain ⟨v7490, rfl, hr7491⟩ := hk7488
                 refine r_t hst trivial rfl (x_loadC hst sc_39 rfl (hc7489 _ (Same.sh0 hsa0 hsh) 0 _ rfl)) ?_; intro a hst
                 refine r_t hst trivial rfl (x_move hst rfl) ?_; intro a hst
                 obtain ⟨x7492, hx7492, H⟩ := Option.bind_eq_some_iff.1 H
                 refine r_t hst trivial rfl (x_indexAddr hst Try.underlying39 el_43 rfl rfl hr7491 hx7492) ?_; intro a hst
                 refine r_t hst trivial rfl (x_loadEsF (j := 0) (cs := [.int .i64 x7492.Number, .int .i64 x7492.Size, .string x7492.Least, .string x7492.Limit, .int .u64 x7492.Low, .int .u64 x7492.High]) (ps := [.int .i64 x7492.Number, .int .i64 x7492.Size, .string x7492.Least, .string x7492.Limit, .int .u64 x7492.Low, .int .u64 x7492.High]) hst ag_43 rfl hr7491 (Same.sh0 hsa0 hsh) hx7492 rfl (fun _ h => h) rfl) ?_; intro a hst
                 obtain ⟨r7493, hr7493, H⟩ := Option.bind_eq_some_iff.1 H
                 refine r_callD hst trivial rfl fn_38 rfl (r16_May.calls _ x7492 r7493 hr7493) ?_
                 rintro e w7494 ⟨rfl, hc⟩
                 replace hsh := hsh.call0 hc
                 clear hc
                 refine ⟨_, rfl, fun a hst => ?_⟩
                 refine r_t hst trivial rfl (x_notB hst rfl) ?_; intro a hst
                 refine wpL_nil ?_
                 refine then_normal ?_
                 by_cases c7495 : (!r7493) = true
                 · rw [if_pos c7495] at H
                   refine wq_condT hst rfl c7495 ?_
                   refine wq_seq ?_
                   refine wq_region_lit (.inl rfl) ?_
                   refine r_t hst trivial rfl (x_assign hst rfl) ?_; intro a hst
                   refine wpL_nil ?_
                   refine then_normal ?_
                   refine wq_ret ?_
                   refine then_ret ?_
                   refine block_ret ?_
                   refine then_ret ?_
                   refine then_ret ?_
                   refine block_ret ?_
                   refine block_ret ?_
                   refine then_ret ?_
                   refine then_ret ?_
                   refine block_ret ?_
                   refine then_ret ?_
                   obtain rfl := Option.some.inj H
                   exact ret1 hst rfl rfl ⟨rfl, hsh.pick []⟩
                 · rw [if_neg c7495] at H
                   replace c7495 := Bool.eq_false_iff.2 c7495
                   refine wq_condF hst rfl c7495 ?_
                   refine wq_skip ?_
                   refine then_normal ?_
                   refine wq_seq ?_
                   refine wq_region_q (.inl rfl) (fun w' => SH (fun _ => False) w w' []) (shut_sh _ _ _) hsh.drew fo (by kernel_rfl) ?_
                   refine q_t hst trivial rfl (fun _ hsh => x_move hst rfl) ?_; intro a hst
                   refine q_t hst trivial rfl (fun _ hsh => x_cmpI (b := decide (0 < i_1140)) hst rfl rfl rfl) ?_; intro a hst
                   refine q_t hst trivial rfl (fun _ hsh => x_move hst rfl) ?_; intro a hst
                   refine q_join0 (Δ := []) (N := Try.f13.ntmps) 6 [(0, va0), (2, .bool false), (3, .int .i64 i_804), (4, .int .i64 i_1140), (44, .bool ((decide (0 < i_1140)) && (i_804 == 0)))] ?_ ?_
                   · intro a hst
                     refine q_t hst trivial rfl (fun _ hsh => x_move hst rfl) ?_; intro a hst
                     obtain ⟨J_1191, hJ_1191, H⟩ := Jn.elim H
                     refine q_join 26 (fun a => ∃ (b_1190 : Bool), J_1191 b_1190 = some r ∧ ST [] Try.f13.ntmps a [(0, va0), (2, .bool false), (3, .int .i64 i_804), (4, .int .i64 i_1140), (64, .bool b_1190)]) ?_ ?_
                     · rintro a ⟨b_1190, H, hst⟩
                       subst hJ_1191
                       dsimp only at H
                       refine q_t hst trivial rfl (fun _ hsh => x_move hst rfl) ?_; intro a hst
                       obtain ⟨J_1197, hJ_1197, H⟩ := Jn.elim H
                       refine q_join 54 (fun a => ∃ (b_1196 : Bool), J_1197 b_1196 = some r ∧ ST [] Try.f13.ntmps a [(0, va0), (2, .bool false), (3, .int .i64 i_804), (4, .int .i64 i_1140), (92, .bool b_1196)]) ?_ ?_
                       · rintro a ⟨b_1196, H, hst⟩
                         subst hJ_1197
                         dsimp only at H
                         refine q_nil ?_
                         intro w7537 hsh
                         refine then_normal ?_
                         by_cases c7538 : b_1196 = true
                         · rw [if_pos c7538] at H
                           refine wq_condT hst rfl c7538 ?_
                           refine wq_seq ?_
                           refine wq_region_lit (.inl rfl) ?_
                           refine r_t hst trivial rfl (x_assign hst rfl) ?_; intro a hst
                           refine wpL_nil ?_
                           refine then_normal ?_
                           refine wq_ret ?_
                           refine block_ret ?_
                           refine then_ret ?_
                           refine then_ret ?_
                           refine block_ret ?_
                           refine block_ret ?_
                           refine then_ret ?_
                           refine then_ret ?_
                           refine block_ret ?_
                           refine then_ret ?_
                           obtain rfl := Option.some.inj H
                           exact ret1 hst rfl rfl ⟨rfl, hsh.pick []⟩
                         · rw [if_neg c7538] at H
                           replace c7538 := Bool.eq_false_iff.2 c7538
                           refine wq_condF hst rfl c7538 ?_
                           refine wq_skip ?_
                           refine block_normal ?_
                           refine then_normal ?_
                           refine wq_region_lit (.inl rfl) ?_
                           refine r_t hst trivial rfl (x_move hst rfl) ?_; intro a hst
                           refine r_t hst trivial rfl (x_arI (r := w64 (i_1140 + 1)) hst rfl rfl rfl) ?_; intro a hst
                           refine r_t hst trivial rfl (x_assign hst rfl) ?_; intro a hst
                           refine wpL_nil ?_
                           refine then_normal ?_
                           exact ⟨k_1174, Nat.lt_succ_self _, (w64 (i_1140 + 1)), H, hst.keep _ ⟨rfl, rfl, rfl, rfl, trivial⟩, hsh.pick []⟩
                       · intro hj
                         by_cases c7510 : b_1190 = true
                         · rw [if_pos c7510] at H
                           refine q_not hst 65 rfl rfl c7510 rfl ?_; intro a hst
                           refine q_not hst 65 rfl rfl c7510 rfl ?_; intro a hst
                           refine q_not hst 65 rfl rfl c7510 rfl ?_; intro a hst
                           refine q_notU hst 68 rfl rfl rfl ?_; intro a hst
                           refine q_notU hst 68 rfl rfl rfl ?_; intro a hst
                           refine q_not hst 65 rfl rfl c7510 rfl ?_; intro a hst
                           refine q_not hst 65 rfl rfl c7510 rfl ?_; intro a hst
                           refine q_notU hst 72 rfl rfl rfl ?_; intro a hst
                           refine q_notU hst 72 rfl rfl rfl ?_; intro a hst
                           refine q_notU hst 72 rfl rfl rfl ?_; intro a hst
                           refine q_notU hst 72 rfl rfl rfl ?_; intro a hst
                           refine q_notU hst 72 rfl rfl rfl ?_; intro a hst
                           refine q_notU hst 72 rfl rfl rfl ?_; intro a hst
                           refine q_notU hst 72 rfl rfl rfl ?_; intro a hst
                           refine q_notU hst 72 rfl rfl rfl ?_; intro a hst
                           refine q_notU hst 72 rfl rfl rfl ?_; intro a hst
                           refine q_notU hst 72 rfl rfl rfl ?_; intro a hst
                           refine q_notU hst 72 rfl rfl rfl ?_; intro a hst
                           refine q_notU hst 72 rfl rfl rfl ?_; intro a hst
                           refine q_notU hst 72 rfl rfl rfl ?_; intro a hst
                           refine q_notU hst 72 rfl rfl rfl ?_; intro a hst
                           refine q_notU hst 72 rfl rfl rfl ?_; intro a hst
                           refine q_notU hst 72 rfl rfl rfl ?_; intro a hst
                           refine q_notU hst 72 rfl rfl rfl ?_; intro a hst
                           refine q_notU hst 72 rfl rfl rfl ?_; intro a hst
                           refine q_not hst 65 rfl rfl c7510 rfl ?_; intro a hst
                           refine q_t hst trivial rfl (fun _ hsh => x_pickT hst rfl c7510 rfl) ?_; intro a hst
                           exact hj _ ⟨true, H, hst.keep _ ⟨rfl, rfl, rfl, rfl, rfl, trivial⟩⟩
                         · rw [if_neg c7510] at H
                           replace c7510 := Bool.eq_false_iff.2 c7510
                           refine q_t hst (wt_of 65 rfl rfl c7510) rfl (fun _ hsh => x_move hst rfl) ?_; intro a hst
                           refine q_t hst (wt_of 65 rfl rfl c7510) rfl (fun _ hsh => x_cmpI (b := decide (0 < i_1140)) hst rfl rfl rfl) ?_; intro a hst
                           refine q_t hst (wt_of 65 rfl rfl c7510) rfl (fun _ hsh => x_move hst rfl) ?_; intro a hst
                           refine q_join0 (Δ := []) (N := Try.f13.ntmps) 33 [(0, va0), (2, .bool false), (3, .int .i64 i_804), (4, .int .i64 i_1140), (65, .bool b_1190), (71, .bool ((decide (0 < i_1140)) && (decide (0 < i_804))))] ?_ ?_
                           · intro a hst
                             refine q_t hst (wt_of 65 rfl rfl c7510) rfl (fun _ hsh => x_move hst rfl) ?_; intro a hst
                             obtain ⟨J_1203, hJ_1203, H⟩ := Jn.elim H
                             refine q_join 53 (fun a => ∃ (b_1202 : Bool), J_1203 b_1202 = some r ∧ ST [] Try.f13.ntmps a [(0, va0), (2, .bool false), (3, .int .i64 i_804), (4, .int .i64 i_1140), (65, .bool b_1190), (91, .bool b_1202)]) ?_ ?_
                             · rintro a ⟨b_1202, H, hst⟩
                               subst hJ_1203
                               dsimp only at H
                               refine q_t hst trivial rfl (fun _ hsh => x_pickF hst rfl c7510 rfl) ?_; intro a hst
                               exact hj _ ⟨b_1202, H, hst.keep _ ⟨rfl, rfl, rfl, rfl, rfl, trivial⟩⟩
                             · intro hj
                               by_cases c7540 : ((decide (0 < i_1140)) && (decide (0 < i_804))) = true
                               · rw [if_pos c7540] at H
                                 refine q_t hst (wt_of 72 rfl rfl c7540) rfl (fun _ hsh => x_move hst rfl) ?_; intro a hst
                                 refine q_t hst (wt_of 72 rfl rfl c7540) rfl (fun _ hsh => x_move hst rfl) ?_; intro a hst
                                 obtain ⟨x7553, hx7553, H⟩ := Option.bind_eq_some_iff.1 H
                                 refine q_t hst (wt_of 72 rfl rfl c7540) rfl (fun _ hsh => x_indexAddr hst Try.underlying23 el_39 rfl rfl hra0 hx7553) ?_; intro a hst
                                 obtain ⟨_, hk7554, hc7555⟩ := RD.cells2 hra0 hx7553
                                 obtain ⟨v7556, rfl, hr7557⟩ := hk7554
                                 refine q_t hst (wt_of 72 rfl rfl c7540) rfl (fun _ hsh => x_loadC hst sc_39 rfl (hc7555 _ (Same.sh0 hsa0 hsh) 0 _ rfl)) ?_; intro a hst
                                 refine q_t hst (wt_of 72 rfl rfl c7540) rfl (fun _ hsh => x_move hst rfl) ?_; intro a hst
                                 refine q_t hst (wt_of 72 rfl rfl c7540) rfl (fun _ hsh => x_arI (r := w64 (i_1140 - 1)) hst rfl rfl rfl) ?_; intro a hst
                                 obtain ⟨x7558, hx7558, H⟩ := Option.bind_eq_some_iff.1 H
                                 refine q_t hst (wt_of 72 rfl rfl c7540) rfl (fun _ hsh => x_indexAddr hst Try.underlying39 el_43 rfl rfl hr7557 hx7558) ?_; intro a hst
                                 refine q_t hst (wt_of 72 rfl rfl c7540) rfl (fun _ hsh => x_fieldAddrE (n' := Int.toNat (w64 (i_1140 - 1)) * k_File.sz + 3) hst fa_43_3 rfl rfl) ?_; intro a hst
                                 refine q_t hst (wt_of 72 rfl rfl c7540) rfl (fun _ hsh => x_loadEF (j := 3) (cs := [.int .i64 x7558.Number, .int .i64 x7558.Size, .string x7558.Least, .string x7558.Limit, .int .u64 x7558.Low, .int .u64 x7558.High]) hst sc_9 rfl hr7557 (Same.sh0 hsa0 hsh) hx7558 rfl (fun _ h => h) rfl) ?_; intro a hst
                                 refine q_t hst (wt_of 72 rfl rfl c7540) rfl (fun _ hsh => x_move hst rfl) ?_; intro a hst
                                 refine q_t hst (wt_of 72 rfl rfl c7540) rfl (fun _ hsh => x_move hst rfl) ?_; intro a hst
                                 obtain ⟨x7559, hx7559, H⟩ := Option.bind_eq_some_iff.1 H
                                 refine q_t hst (wt_of 72 rfl rfl c7540) rfl (fun _ hsh => x_indexAddr hst Try.underlying23 el_39 rfl rfl hra0 hx7559) ?_; intro a hst
                                 obtain ⟨_, hk7560, hc7561⟩ := RD.cells2 hra0 hx7559
                                 obtain ⟨v7562, rfl, hr7563⟩ := hk7560
                                 refine q_t hst (wt_of 72 rfl rfl c7540) rfl (fun _ hsh => x_loadC hst sc_39 rfl (hc7561 _ (Same.sh0 hsa0 hsh) 0 _ rfl)) ?_; intro a hst
                                 refine q_t hst (wt_of 72 rfl rfl c7540) rfl (fun _ hsh => x_move hst rfl) ?_; intro a hst
                                 obtain ⟨x7564, hx7564, H⟩ := Option.bind_eq_some_iff.1 H
                                 refine q_t hst (wt_of 72 rfl rfl c7540) rfl (fun _ hsh => x_indexAddr hst Try.underlying39 el_43 rfl rfl hr7563 hx7564) ?_; intro a hst
                                 refine q_t hst (wt_of 72 rfl rfl c7540) rfl (fun _ hsh => x_fieldAddrE (n' := Int.toNat i_1140 * k_File.sz + 2) hst fa_43_2 rfl rfl) ?_; intro a hst
                                 refine q_t hst (wt_of 72 rfl rfl c7540) rfl (fun _ hsh => x_loadEF (j := 2) (cs := [.int .i64 x7564.Number, .int .i64 x7564.Size, .string x7564.Least, .string x7564.Limit, .int .u64 x7564.Low, .int .u64 x7564.High]) hst sc_9 rfl hr7563 (Same.sh0 hsa0 hsh) hx7564 rfl (fun _ h => h) rfl) ?_; intro a hst
                                 refine q_t hst (wt_of 72 rfl rfl c7540) rfl (fun _ hsh => x_cmpS (b := (!(sLt x7558.Limit x7564.Least || sEq x7558.Limit x7564.Least))) hst rfl rfl rfl) ?_; intro a hst
                                 refine q_t hst (wt_of 65 rfl rfl c7510) rfl (fun _ hsh => x_pickT hst rfl c7540 rfl) ?_; intro a hst
                                 exact hj _ ⟨(!(sLt x7558.Limit x7564.Least || sEq x7558.Limit x7564.Least)), H, hst.keep _ ⟨rfl, rfl, rfl, rfl, rfl, rfl, trivial⟩⟩
                               · rw [if_neg c7540] at H
                                 replace c7540 := Bool.eq_false_iff.2 c7540
                                 refine q_not hst 72 rfl rfl c7540 rfl ?_; intro a hst
                                 refine q_not hst 72 rfl rfl c7540 rfl ?_; intro a hst
                                 refine q_not hst 72 rfl rfl c7540 rfl ?_; intro a hst
                                 refine q_not hst 72 rfl rfl c7540 rfl ?_; intro a hst
                                 refine q_not hst 72 rfl rfl c7540 rfl ?_; intro a hst
                                 refine q_not hst 72 rfl rfl c7540 rfl ?_; intro a hst
                                 refine q_not hst 72 rfl rfl c7540 rfl ?_; intro a hst
                                 refine q_not hst 72 rfl rfl c7540 rfl ?_; intro a hst
                                 refine q_not hst 72 rfl rfl c7540 rfl ?_; intro a hst
                                 refine q_not hst 72 rfl rfl c7540 rfl ?_; intro a hst
                                 refine q_not hst 72 rfl rfl c7540 rfl ?_; intro a hst
                                 refine q_not hst 72 rfl rfl c7540 rfl ?_; intro a hst
                                 refine q_not hst 72 rfl rfl c7540 rfl ?_; intro a hst
                                 refine q_not hst 72 rfl rfl c7540 rfl ?_; intro a hst
                                 refine q_not hst 72 rfl rfl c7540 rfl ?_; intro a hst
                                 refine q_not hst 72 rfl rfl c7540 rfl ?_; intro a hst
                                 refine q_not hst 72 rfl rfl c7540 rfl ?_; intro a hst
                                 refine q_not hst 72 rfl rfl c7540 rfl ?_; intro a hst
                                 refine q_t hst (wt_of 65 rfl rfl c7510) rfl (fun _ hsh => x_pickF hst rfl c7540 rfl) ?_; intro a hst
                                 exact hj _ ⟨false, H, hst.keep _ ⟨rfl, rfl, rfl, rfl, rfl, rfl, trivial⟩⟩
                           · intro hj
                             by_cases c7539 : (decide (0 < i_1140)) = true
                             · refine q_t hst (wt_of 68 rfl rfl c7539) rfl (fun _ hsh => x_move hst rfl) ?_; intro a hst
                               refine q_t hst (wt_of 68 rfl rfl c7539) rfl (fun _ hsh => x_cmpI (b := decide (0 < i_804)) hst rfl rfl rfl) ?_; intro a hst
                               refine q_t hst (wt_of 65 rfl rfl c7510) rfl (fun _ hsh => x_andT hst rfl c7539 rfl) ?_; intro a hst
                               exact hj _ (hst.keep _ ⟨rfl, rfl, rfl, rfl, rfl, rfl, trivial⟩)
                             · replace c7539 := Bool.eq_false_iff.2 c7539
                               refine q_not hst 68 rfl rfl c7539 rfl ?_; intro a hst
                               refine q_not hst 68 rfl rfl c7539 rfl ?_; intro a hst
                               refine q_t hst (wt_of 65 rfl rfl c7510) rfl (fun _ hsh => x_andF (decide (0 < i_804)) hst rfl c7539 rfl) ?_; intro a hst
                               exact hj _ (hst.keep _ ⟨rfl, rfl, rfl, rfl, rfl, rfl, trivial⟩)
                     · intro hj
                       by_cases c7497 : ((decide (0 < i_1140)) && (i_804 == 0)) = true
                       · rw [if_pos c7497] at H
                         refine q_t hst (wt_of 45 rfl rfl c7497) rfl (fun _ hsh => x_move hst rfl) ?_; intro a hst
                         refine q_t hst (wt_of 45 rfl rfl c7497) rfl (fun _ hsh => x_move hst rfl) ?_; intro a hst
                         obtain ⟨x7565, hx7565, H⟩ := Option.bind_eq_some_iff.1 H
                         refine q_t hst (wt_of 45 rfl rfl c7497) rfl (fun _ hsh => x_indexAddr hst Try.underlying23 el_39 rfl rfl hra0 hx7565) ?_; intro a hst
                         obtain ⟨_, hk7566, hc7567⟩ := RD.cells2 hra0 hx7565
                         obtain ⟨v7568, rfl, hr7569⟩ := hk7566
                         refine q_t hst (wt_of 45 rfl rfl c7497) rfl (fun _ hsh => x_loadC hst sc_39 rfl (hc7567 _ (Same.sh0 hsa0 hsh) 0 _ rfl)) ?_; intro a hst
                         refine q_t hst (wt_of 45 rfl rfl c7497) rfl (fun _ hsh => x_move hst rfl) ?_; intro a hst
                         refine q_t hst (wt_of 45 rfl rfl c7497) rfl (fun _ hsh => x_arI (r := w64 (i_1140 - 1)) hst rfl rfl rfl) ?_; intro a hst
                         obtain ⟨x7570, hx7570, H⟩ := Option.bind_eq_some_iff.1 H
                         refine q_t hst (wt_of 45 rfl rfl c7497) rfl (fun _ hsh => x_indexAddr hst Try.underlying39 el_43 rfl rfl hr7569 hx7570) ?_; intro a hst
                         refine q_t hst (wt_of 45 rfl rfl c7497) rfl (fun _ hsh => x_fieldAddrE (n' := Int.toNat (w64 (i_1140 - 1)) * k_File.sz) hst fa_43_0 rfl rfl) ?_; intro a hst
                         refine q_t hst (wt_of 45 rfl rfl c7497) rfl (fun _ hsh => x_loadEF (j := 0) (cs := [.int .i64 x7570.Number, .int .i64 x7570.Size, .string x7570.Least, .string x7570.Limit, .int .u64 x7570.Low, .int .u64 x7570.High]) hst sc_3 rfl hr7569 (Same.sh0 hsa0 hsh) hx7570 rfl (fun _ h => h) rfl) ?_; intro a hst
                         refine q_t hst (wt_of 45 rfl rfl c7497) rfl (fun _ hsh => x_move hst rfl) ?_; intro a hst
                         refine q_t hst (wt_of 45 rfl rfl c7497) rfl (fun _ hsh => x_move hst rfl) ?_; intro a hst
                         obtain ⟨x7571, hx7571, H⟩ := Option.bind_eq_some_iff.1 H
                         refine q_t hst (wt_of 45 rfl rfl c7497) rfl (fun _ hsh => x_indexAddr hst Try.underlying23 el_39 rfl rfl hra0 hx7571) ?_; intro a hst
                         obtain ⟨_, hk7572, hc7573⟩ := RD.cells2 hra0 hx7571
                         obtain ⟨v7574, rfl, hr7575⟩ := hk7572
                         refine q_t hst (wt_of 45 rfl rfl c7497) rfl (fun _ hsh => x_loadC hst sc_39 rfl (hc7573 _ (Same.sh0 hsa0 hsh) 0 _ rfl)) ?_; intro a hst
                         refine q_t hst (wt_of 45 rfl rfl c7497) rfl (fun _ hsh => x_move hst rfl) ?_; intro a hst
                         obtain ⟨x7576, hx7576, H⟩ := Option.bind_eq_some_iff.1 H
                         refine q_t hst (wt_of 45 rfl rfl c7497) rfl (fun _ hsh => x_indexAddr hst Try.underlying39 el_43 rfl rfl hr7575 hx7576) ?_; intro a hst
                         refine q_t hst (wt_of 45 rfl rfl c7497) rfl (fun _ hsh => x_fieldAddrE (n' := Int.toNat i_1140 * k_File.sz) hst fa_43_0 rfl rfl) ?_; intro a hst
                         refine q_t hst (wt_of 45 rfl rfl c7497) rfl (fun _ hsh => x_loadEF (j := 0) (cs := [.int .i64 x7576.Number, .int .i64 x7576.Size, .string x7576.Least, .string x7576.Limit, .int .u64 x7576.Low, .int .u64 x7576.High]) hst sc_3 rfl hr7575 (Same.sh0 hsa0 hsh) hx7576 rfl (fun _ h => h) rfl) ?_; intro a hst
                         refine q_t hst (wt_of 45 rfl rfl c7497) rfl (fun _ hsh => x_cmpI (b := decide (x7576.Number ≤ x7570.Number)) hst rfl rfl rfl) ?_; intro a hst
                         refine q_t hst trivial rfl (fun _ hsh => x_pickT hst rfl c7497 rfl) ?_; intro a hst
                         exact hj _ ⟨(decide (x7576.Number ≤ x7570.Number)), H, hst.keep _ ⟨rfl, rfl, rfl, rfl, rfl, trivial⟩⟩
                       · rw [if_neg c7497] at H
                         replace c7497 := Bool.eq_false_iff.2 c7497
                         refine q_not hst 45 rfl rfl c7497 rfl ?_; intro a hst
                         refine q_not hst 45 rfl rfl c7497 rfl ?_; intro a hst
                         refine q_not hst 45 rfl rfl c7497 rfl ?_; intro a hst
                         refine q_not hst 45 rfl rfl c7497 rfl ?_; intro a hst
                         refine q_not hst 45 rfl rfl c7497 rfl ?_; intro a hst
                         refine q_not hst 45 rfl rfl c7497 rfl ?_; intro a hst
                         refine q_not hst 45 rfl rfl c7497 rfl ?_; intro a hst
                         refine q_not hst 45 rfl rfl c7497 rfl ?_; intro a hst
                         refine q_not hst 45 rfl rfl c7497 rfl ?_; intro a hst
                         refine q_not hst 45 rfl rfl c7497 rfl ?_; intro a hst
                         refine q_not hst 45 rfl rfl c7497 rfl ?_; intro a hst
                         refine q_not hst 45 rfl rfl c7497 rfl ?_; intro a hst
                         refine q_not hst 45 rfl rfl c7497 rfl ?_; intro a hst
                         refine q_not hst 45 rfl rfl c7497 rfl ?_; intro a hst
                         refine q_not hst 45 rfl rfl c7497 rfl ?_; intro a hst
                         refine q_not hst 45 rfl rfl c7497 rfl ?_; intro a hst
                         refine q_not hst 45 rfl rfl c7497 rfl ?_; intro a hst
                         refine q_not hst 45 rfl rfl c7497 rfl ?_; intro a hst
                         refine q_t hst trivial rfl (fun _ hsh => x_pickF hst rfl c7497 rfl) ?_; intro a hst
                         exact hj _ ⟨false, H, hst.keep _ ⟨rfl, rfl, rfl, rfl, rfl, trivial⟩⟩
                   · intro hj
                     by_cases c7496 : (decide (0 < i_1140)) = true
                     · refine q_t hst (wt_of 41 rfl rfl c7496) rfl (fun _ hsh => x_move hst rfl) ?_; intro a hst
                       refine q_t hst (wt_of 41 rfl rfl c7496) rfl (fun _ hsh => x_cmpI (b := (i_804 == 0)) hst rfl rfl rfl) ?_; intro a hst
                       refine q_t hst trivial rfl (fun _ hsh => x_andT hst rfl c7496 rfl) ?_; intro a hst
                       exact hj _ (hst.keep _ ⟨rfl, rfl, rfl, rfl, rfl, trivial⟩)
                     · replace c7496 := Bool.eq_false_iff.2 c7496
                       refine q_not hst 41 rfl rfl c7496 rfl ?_; intro a hst
                       refine q_not hst 41 rfl rfl c7496 rfl ?_; intro a hst
                       refine q_t hst trivial rfl (fun _ hsh => x_andF (i_804 == 0) hst rfl c7496 rfl) ?_; intro a hst
                       exact hj _ (hst.keep _ ⟨rfl, rfl, rfl, rfl, rfl, trivial⟩)
               · rw [if_neg c7378] at H
                 replace c7378 := Bool.eq_false_iff.2 c7378
                 refine wq_condF hst rfl c7378 ?_
                 refine wq_exit ?_
                 refine then_exit ?_
                 refine then_exit ?_
                 refine block_hit ?_
                 refine block_normal ?_
                 refine then_normal ?_
                 exact ⟨H, hst.keep _ ⟨rfl, rfl, rfl, trivial⟩, hsh.pick []⟩
        · rw [if_neg c6316] at H
          replace c6316 := Bool.eq_false_iff.2 c6316
          refine wq_condF hst rfl c6316 ?_
          refine wq_exit ?_
          refine then_exit ?_
          refine then_exit ?_
          refine block_hit ?_
          refine then_normal ?_
          refine wq_seq ?_
          refine wq_region_lit (.inl rfl) ?_
          refine r_t hst trivial rfl (x_move hst rfl) ?_; intro a hst
          obtain ⟨r7577, hr7577, H⟩ := Option.bind_eq_some_iff.1 H
          refine r_callD hst trivial rfl fn_39 rfl (r16_numbers.calls k_1006 _ _ _ _ (Same.sh0 hsa0 hsh) _ hra0 r7577 hr7577) ?_
          rintro e w7578 ⟨v7579, rfl, hc⟩
          replace hsh := hsh.call0 hc
          clear hc
          refine ⟨_, rfl, fun a hst => ?_⟩
          refine r_t hst trivial rfl (x_assign hst rfl) ?_; intro a hst
          refine wpL_nil ?_
          refine then_normal ?_
          obtain ⟨J_1214, hJ_1214, H⟩ := Jn.elim H
          refine wq_cut (fun a w' => J_1214 = some r ∧ ST [] Try.f13.ntmps a [(2, .bool false)] ∧ SH (fun _ => False) w w' []) ?_ ?_
          · rintro a W_1213 ⟨H, hst, hsh⟩
            subst hJ_1214
            refine wq_seq ?_
            refine wq_region_lit (.inl rfl) ?_
            refine r_t hst trivial rfl (x_assign hst rfl) ?_; intro a hst
            refine wpL_nil ?_
            refine then_normal ?_
            refine wq_ret ?_
            obtain rfl := Option.some.inj H
            exact ret1 hst rfl rfl ⟨rfl, hsh.pick []⟩
          · refine wq_seq ?_
            refine wq_region_lit (.inl rfl) ?_
            refine r_t hst trivial rfl (x_assign hst rfl) ?_; intro a hst
            refine wpL_nil ?_
            refine then_normal ?_
            refine wq_block ?_
            refine wq_loop_fuel (fun k_1222 a w' => ∃ (i_1218 : Int), r16_Valid.l2 r7577 J_1214 k_1222 i_1218 = some r ∧ ST [] Try.f13.ntmps a [(2, .bool false), (5, v7579), (6, .int .i64 i_1218)] ∧ SH (fun _ => False) w w' [Row (Kd.int .i64) 3 v7579 r7577]) k_1006 ?_ ?_
            · exact ⟨1, H, hst.keep _ ⟨rfl, rfl, rfl, trivial⟩, hsh.pick [0]⟩
            · rintro k_1222 a W_1219 ⟨i_1218, H, hst, hsh⟩
              cases k_1222 with
              | zero => rw [r16_Valid.l2] at H; cases H
              | succ k_1222 =>
               rw [r16_Valid.l2] at H
               refine wq_seq ?_
               refine wq_seq ?_
               refine wq_region_lit (.inl rfl) ?_
               refine r_t hst trivial rfl (x_move hst rfl) ?_; intro a hst
               refine r_t hst trivial rfl (x_move hst rfl) ?_; intro a hst
               refine r_t hst trivial rfl (x_lenSl hst Try.underlying56 rfl (hsh.row 0 rfl).slen) ?_; intro a hst
               refine r_t hst trivial rfl (x_cmpI (b := decide (i_1218 < (r7577.length : Int))) hst rfl rfl rfl) ?_; intro a hst
               refine wpL_nil ?_
               refine then_normal ?_
               by_cases c7632 : (decide (i_1218 < (r7577.length : Int))) = true
               · rw [if_pos c7632] at H
                 refine wq_condT hst rfl c7632 ?_
                 refine wq_skip ?_
                 refine then_normal ?_
                 refine wq_seq ?_
                 refine wq_block ?_
                 refine wq_seq ?_
                 refine wq_region_q (.inl rfl) (fun w' => SH (fun _ => False) w w' [Row (Kd.int .i64) 3 v7579 r7577]) (shut_sh _ _ _) hsh.drew fo (by kernel_rfl) ?_
                 refine q_t hst trivial rfl (fun _ hsh => x_move hst rfl) ?_; intro a hst
                 refine q_t hst trivial rfl (fun _ hsh => x_move hst rfl) ?_; intro a hst
                 refine q_t hst trivial rfl (fun _ hsh => x_arI (r := w64 (i_1218 - 1)) hst rfl rfl rfl) ?_; intro a hst
                 obtain ⟨x7637, hx7637, H⟩ := Option.bind_eq_some_iff.1 H
                 refine q_t hst trivial rfl (fun _ hsh => x_indexAddr hst Try.underlying56 el_3 rfl rfl (hsh.row 0 rfl) hx7637) ?_; intro a hst
                 refine q_t hst trivial rfl (fun _ hsh => x_loadEF (j := 0) (cs := [.int .i64 x7637]) hst sc_3 rfl (hsh.row 0 rfl) (Same.refl _ _) hx7637 rfl (fun _ h => h) rfl) ?_; intro a hst
                 refine q_t hst trivial rfl (fun _ hsh => x_move hst rfl) ?_; intro a hst
                 refine q_t hst trivial rfl (fun _ hsh => x_move hst rfl) ?_; intro a hst
                 obtain ⟨x7638, hx7638, H⟩ := Option.bind_eq_some_iff.1 H
                 refine q_t hst trivial rfl (fun _ hsh => x_indexAddr hst Try.underlying56 el_3 rfl rfl (hsh.row 0 rfl) hx7638) ?_; intro a hst
                 refine q_t hst trivial rfl (fun _ hsh => x_loadEF (j := 0) (cs := [.int .i64 x7638]) hst sc_3 rfl (hsh.row 0 rfl) (Same.refl _ _) hx7638 rfl (fun _ h => h) rfl) ?_; intro a hst
                 refine q_t hst trivial rfl (fun _ hsh => x_cmpI (b := (x7637 == x7638)) hst rfl rfl rfl) ?_; intro a hst
                 refine q_nil ?_
                 intro w7639 hsh
                 refine then_normal ?_
                 by_cases c7640 : (x7637 == x7638) = true
                 · rw [if_pos c7640] at H
                   refine wq_condT hst rfl c7640 ?_
                   refine wq_seq ?_
                   refine wq_region_lit (.inl rfl) ?_
                   refine r_t hst trivial rfl (x_assign hst rfl) ?_; intro a hst
                   refine wpL_nil ?_
                   refine then_normal ?_
                   refine wq_ret ?_
                   refine block_ret ?_
                   refine then_ret ?_
                   refine then_ret ?_
                   refine block_ret ?_
                   refine then_ret ?_
                   obtain rfl := Option.some.inj H
                   exact ret1 hst rfl rfl ⟨rfl, hsh.pick []⟩
                 · rw [if_neg c7640] at H
                   replace c7640 := Bool.eq_false_iff.2 c7640
                   refine wq_condF hst rfl c7640 ?_
                   refine wq_skip ?_
                   refine block_normal ?_
                   refine then_normal ?_
                   refine wq_region_lit (.inl rfl) ?_
                   refine r_t hst trivial rfl (x_move hst rfl) ?_; intro a hst
                   refine r_t hst trivial rfl (x_arI (r := w64 (i_1218 + 1)) hst rfl rfl rfl) ?_; intro a hst
                   refine r_t hst trivial rfl (x_assign hst rfl) ?_; intro a hst
                   refine wpL_nil ?_
                   refine then_normal ?_
                   exact ⟨k_1222, Nat.lt_succ_self _, (w64 (i_1218 + 1)), H, hst.keep _ ⟨rfl, rfl, rfl, trivial⟩, hsh.pick [0]⟩
               · rw [if_neg c7632] at H
                 replace c7632 := Bool.eq_false_iff.2 c7632
                 refine wq_condF hst rfl c7632 ?_
                 refine wq_exit ?_
                 refine then_exit ?_
                 refine then_exit ?_
                 refine block_hit ?_
                 refine then_normal ?_
                 exact ⟨H, hst.keep _ ⟨rfl, trivial⟩, hsh.pick []⟩
 · intro hj
   by_cases c3 : (decide ((a0.length : Int) < 1)) = true
   · refine r_not hst 10 rfl rfl c3 rfl ?_; intro a hst
     refine r_not hst 10 rfl rfl c3 rfl ?_; intro a hst
     refine r_not hst 10 rfl rfl c3 rfl ?_; intro a hst
     refine r_t hst trivial rfl (x_orT (decide (7 < (a0.length : Int))) hst rfl c3 rfl) ?_; intro a hst
     exact hj _ (hst.keep _ ⟨rfl, rfl, rfl, trivial⟩)
   · replace c3 := Bool.eq_false_iff.2 c3
     refine r_t hst (wt_of 10 rfl rfl c3) rfl (x_move hst rfl) ?_; intro a hst
     refine r_t hst (wt_of 10 rfl rfl c3) rfl (x_lenSl hst Try.underlying23 rfl hra0.slen) ?_; intro a hst
     refine r_t hst (wt_of 10 rfl rfl c3) rfl (x_cmpI (b := decide (7 < (a0.length : Int))) hst rfl rfl rfl) ?_; intro a hst
     refine r_t hst trivial rfl (x_orF hst rfl c3 rfl) ?_; intro a hst
     exact hj _ (hst.keep _ ⟨rfl, rfl, rfl, trivial⟩)

set_option maxHeartbeats 4000000 in
set_option maxRecDepth 100000 in
theorem r16_level.calls (k : Nat) (w : World) (va0 : Value) (Za0 : Nat → Prop) (wra0 : World) (hsa0 : Same Za0 wra0 w) (a0 : (List (List File))) (hra0 : RD (Kd.slice 43 k_File) Za0 wra0 va0 a0) (a1 : Int) (r : (List File)) (h : r16_level k a0 a1 = some r) :
    Calls Try.prog 51 ([va0, .int .i64 a1] : List Value).toArray w fun e w' => ∃ v0_ : Value, e = .returned (v0_) ∧ SH (fun _ => False) w w' [] ∧ RD k_File Za0 wra0 v0_ r := by
 have H := h
 clear h
 unfold r16_level at H
 refine calls_enter Try.func51 rfl rfl ?_
 intro a hst
 have hsh := SH.zero (fun _ => False) w
 refine wq_seq ?_
 refine wq_region_lit (.inl rfl) ?_
 refine r_t hst trivial rfl (x_assign hst rfl) ?_; intro a hst
 refine wpL_nil ?_
 refine then_normal ?_
 refine wq_seq ?_
 refine wq_seq ?_
 refine wq_region_lit (.inl rfl) ?_
 refine r_t hst trivial rfl (x_move hst rfl) ?_; intro a hst
 obtain ⟨r6, hr6, H⟩ := Option.bind_eq_some_iff.1 H
 refine r_callD hst trivial rfl fn_13 rfl (r16_Valid.calls k _ _ _ _ (Same.sh0 hsa0 hsh) _ hra0 r6 hr6) ?_
 rintro e w7 ⟨rfl, hc⟩
 replace hsh := hsh.call0 hc
 clear hc
 refine ⟨_, rfl, fun a hst => ?_⟩
 refine r_t hst trivial rfl (x_notB hst rfl) ?_; intro a hst
 refine r_t hst trivial rfl (x_move hst rfl) ?_; intro a hst
 refine wl_join0 (Δ := []) (N := Try.f51.ntmps) 7 [(0, va0), (1, .int .i64 a1), (4, (.slice none 0 0)), (11, .bool ((!r6) || (decide (a1 < 0))))] ?_ ?_
 · intro a hst
   refine r_t hst trivial rfl (x_move hst rfl) ?_; intro a hst
   refine wl_join0 (Δ := []) (N := Try.f51.ntmps) 13 [(0, va0), (1, .int .i64 a1), (4, (.slice none 0 0)), (17, .bool (((!r6) || (decide (a1 < 0))) || (decide ((a0.length : Int) ≤ a1))))] ?_ ?_
   · intro a hst
     refine wpL_nil ?_
     refine then_normal ?_
     by_cases c10 : (((!r6) || (decide (a1 < 0))) || (decide ((a0.length : Int) ≤ a1))) = true
     · rw [if_pos c10] at H
       refine wq_condT hst rfl c10 ?_
       refine wq_seq ?_
       refine wq_region_lit (.inl rfl) ?_
       refine r_t hst trivial rfl (x_assign hst rfl) ?_; intro a hst
       refine wpL_nil ?_
       refine then_normal ?_
       refine wq_ret ?_
       refine then_ret ?_
       obtain rfl := Option.some.inj H
       exact ret1 hst rfl rfl ⟨(.slice none 0 0), rfl, hsh.pick [], (RD.nil _ _ _)⟩
     · rw [if_neg c10] at H
       replace c10 := Bool.eq_false_iff.2 c10
       refine wq_condF hst rfl c10 ?_
       refine wq_skip ?_
       refine then_normal ?_
       refine wq_seq ?_
       refine wq_region_lit (.inl rfl) ?_
       refine r_t hst trivial rfl (x_move hst rfl) ?_; intro a hst
       refine r_t hst trivial rfl (x_move hst rfl) ?_; intro a hst
       obtain ⟨x11, hx11, H⟩ := Option.bind_eq_some_iff.1 H
       refine r_t hst trivial rfl (x_indexAddr hst Try.underlying23 el_39 rfl rfl hra0 hx11) ?_; intro a hst
       obtain ⟨_, hk12, hc13⟩ := RD.cells2 hra0 hx11
       obtain ⟨v14, rfl, hr15⟩ := hk12
       refine r_t hst trivial rfl (x_loadC hst sc_39 rfl (hc13 _ (Same.sh0 hsa0 hsh) 0 _ rfl)) ?_; intro a hst
       refine r_t hst trivial rfl (x_assign hst rfl) ?_; intro a hst
       refine wpL_nil ?_
       refine then_normal ?_
       refine wq_ret ?_
       obtain rfl := Option.some.inj H
       exact ret1 hst rfl rfl ⟨v14, rfl, hsh.pick [], hr15⟩
   · intro hj
     by_cases c9 : ((!r6) || (decide (a1 < 0))) = true
     · refine r_not hst 12 rfl rfl c9 rfl ?_; intro a hst
       refine r_not hst 12 rfl rfl c9 rfl ?_; intro a hst
       refine r_not hst 12 rfl rfl c9 rfl ?_; intro a hst
       refine r_not hst 12 rfl rfl c9 rfl ?_; intro a hst
       refine r_t hst trivial rfl (x_orT (decide ((a0.length : Int) ≤ a1)) hst rfl c9 rfl) ?_; intro a hst
       exact hj _ (hst.keep _ ⟨rfl, rfl, rfl, rfl, trivial⟩)
     · replace c9 := Bool.eq_false_iff.2 c9
       refine r_t hst (wt_of 12 rfl rfl c9) rfl (x_move hst rfl) ?_; intro a hst
       refine r_t hst (wt_of 12 rfl rfl c9) rfl (x_move hst rfl) ?_; intro a hst
       refine r_t hst (wt_of 12 rfl rfl c9) rfl (x_lenSl hst Try.underlying23 rfl hra0.slen) ?_; intro a hst
       refine r_t hst (wt_of 12 rfl rfl c9) rfl (x_cmpI (b := decide ((a0.length : Int) ≤ a1)) hst rfl rfl rfl) ?_; intro a hst
       refine r_t hst trivial rfl (x_orF hst rfl c9 rfl) ?_; intro a hst
       exact hj _ (hst.keep _ ⟨rfl, rfl, rfl, rfl, trivial⟩)
 · intro hj
   by_cases c8 : (!r6) = true
   · refine r_not hst 8 rfl rfl c8 rfl ?_; intro a hst
     refine r_not hst 8 rfl rfl c8 rfl ?_; intro a hst
     refine r_t hst trivial rfl (x_orT (decide (a1 < 0)) hst rfl c8 rfl) ?_; intro a hst
     exact hj _ (hst.keep _ ⟨rfl, rfl, rfl, rfl, trivial⟩)
   · replace c8 := Bool.eq_false_iff.2 c8
     refine r_t hst (wt_of 8 rfl rfl c8) rfl (x_move hst rfl) ?_; intro a hst
     refine r_t hst (wt_of 8 rfl rfl c8) rfl (x_cmpI (b := decide (a1 < 0)) hst rfl rfl rfl) ?_; intro a hst
     refine r_t hst trivial rfl (x_orF hst rfl c8 rfl) ?_; intro a hst
     exact hj _ (hst.keep _ ⟨rfl, rfl, rfl, rfl, trivial⟩)

set_option maxHeartbeats 4000000 in
set_option maxRecDepth 100000 in
theorem r16_Find.calls (k : Nat) (w : World) (va0 : Value) (Za0 : Nat → Prop) (wra0 : World) (hsa0 : Same Za0 wra0 w) (a0 : (List (List File))) (hra0 : RD (Kd.slice 43 k_File) Za0 wra0 va0 a0) (a1 : Int) (r : (Int × File × Bool)) (h : r16_Find k a0 a1 = some r) :
    Calls Try.prog 25 ([va0, .int .i64 a1] : List Value).toArray w fun e w' => e = .returned (.tuple #[.int .i64 r.1, .agg #[.int .i64 r.2.1.Number, .int .i64 r.2.1.Size, .string r.2.1.Least, .string r.2.1.Limit, .int .u64 r.2.1.Low, .int .u64 r.2.1.High], .bool r.2.2]) ∧ SH (fun _ => False) w w' [] := by
 have H := h
 clear h
 unfold r16_Find at H
 refine calls_enter Try.func25 rfl rfl ?_
 intro a hst
 have hsh := SH.zero (fun _ => False) w
 refine wq_seq ?_
 refine wq_region_lit (.inl rfl) ?_
 refine r_t hst trivial rfl (x_assign hst rfl) ?_; intro a hst
 refine r_alloc hst hsh trivial rfl zr_43 ?_
 intro g1 a w2 hgg1 hsh hst
 refine r_t hst trivial rfl (x_assign hst rfl) ?_; intro a hst
 refine wpL_nil ?_
 refine then_normal ?_
 refine wq_seq ?_
 refine wq_seq ?_
 refine wq_region_lit (.inl rfl) ?_
 refine r_t hst trivial rfl (x_assign hst rfl) ?_; intro a hst
 refine wpL_nil ?_
 refine then_normal ?_
 refine wq_block ?_
 refine wq_loop_fuel (fun k_106 a w' => ∃ (i_84 : Int), r16_Find.l0 a0 a1 k_106 i_84 = some r ∧ ST [] Try.f25.ntmps a [(0, va0), (1, .int .i64 a1), (4, .int .i64 0), (5, .pointer (some ⟨g1, 0, none⟩)), (6, .bool false), (7, .int .i64 i_84)] ∧ SH (fun _ => False) w w' [Box g1 [.int .i64 0, .int .i64 0, .string (ByteArray.mk #[]), .string (ByteArray.mk #[]), .int .u64 0, .int .u64 0] 43]) k ?_ ?_
 · exact ⟨0, H, hst.keep _ ⟨rfl, rfl, rfl, rfl, rfl, rfl, trivial⟩, hsh.pick [0]⟩
 · rintro k_106 a W_85 ⟨i_84, H, hst, hsh⟩
   cases k_106 with
   | zero => rw [r16_Find.l0] at H; cases H
   | succ k_106 =>
    rw [r16_Find.l0] at H
    refine wq_seq ?_
    refine wq_seq ?_
    refine wq_region_lit (.inl rfl) ?_
    refine r_t hst trivial rfl (x_move hst rfl) ?_; intro a hst
    refine r_t hst trivial rfl (x_move hst rfl) ?_; intro a hst
    refine r_t hst trivial rfl (x_lenSl hst Try.underlying23 rfl hra0.slen) ?_; intro a hst
    refine r_t hst trivial rfl (x_cmpI (b := decide (i_84 < (a0.length : Int))) hst rfl rfl rfl) ?_; intro a hst
    refine wpL_nil ?_
    refine then_normal ?_
    by_cases c474 : (decide (i_84 < (a0.length : Int))) = true
    · rw [if_pos c474] at H
      refine wq_condT hst rfl c474 ?_
      refine wq_skip ?_
      refine then_normal ?_
      obtain ⟨J_116, hJ_116, H⟩ := Jn.elim H
      refine wq_cut (fun a w' => J_116 = some r ∧ ST [] Try.f25.ntmps a [(0, va0), (1, .int .i64 a1), (4, .int .i64 0), (5, .pointer (some ⟨g1, 0, none⟩)), (6, .bool false), (7, .int .i64 i_84)] ∧ SH (fun _ => False) w w' [Box g1 [.int .i64 0, .int .i64 0, .string (ByteArray.mk #[]), .string (ByteArray.mk #[]), .int .u64 0, .int .u64 0] 43]) ?_ ?_
      · rintro a W_115 ⟨H, hst, hsh⟩
        subst hJ_116
        refine wq_region_lit (.inl rfl) ?_
        refine r_t hst trivial rfl (x_move hst rfl) ?_; intro a hst
        refine r_t hst trivial rfl (x_arI (r := w64 (i_84 + 1)) hst rfl rfl rfl) ?_; intro a hst
        refine r_t hst trivial rfl (x_assign hst rfl) ?_; intro a hst
        refine wpL_nil ?_
        refine then_normal ?_
        exact ⟨k_106, Nat.lt_succ_self _, (w64 (i_84 + 1)), H, hst.keep _ ⟨rfl, rfl, rfl, rfl, rfl, rfl, trivial⟩, hsh.pick [0]⟩
      · refine wq_block ?_
        refine wq_seq ?_
        refine wq_region_lit (.inl rfl) ?_
        refine r_t hst trivial rfl (x_move hst rfl) ?_; intro a hst
        refine r_t hst trivial rfl (x_move hst rfl) ?_; intro a hst
        obtain ⟨r521, hr521, H⟩ := Option.bind_eq_some_iff.1 H
        refine r_callD hst trivial rfl fn_51 rfl (r16_level.calls k_106 _ _ _ _ (Same.sh0 hsa0 hsh) _ hra0 i_84 r521 hr521) ?_
        rintro e w522 ⟨v523, rfl, hc, hv524⟩
        replace hsh := hsh.call0 hc
        clear hc
        refine ⟨_, rfl, fun a hst => ?_⟩
        refine r_t hst trivial rfl (x_assign hst rfl) ?_; intro a hst
        refine wpL_nil ?_
        refine then_normal ?_
        refine wq_seq ?_
        refine wq_region_lit (.inl rfl) ?_
        refine r_t hst trivial rfl (x_assign hst rfl) ?_; intro a hst
        refine wpL_nil ?_
        refine then_normal ?_
        refine wq_block ?_
        refine wq_loop_fuel (fun k_124 a w' => ∃ (i_120 : Int), r16_Find.l1 a1 i_84 J_116 r521 k_124 i_120 = some r ∧ ST [] Try.f25.ntmps a [(0, va0), (1, .int .i64 a1), (4, .int .i64 0), (5, .pointer (some ⟨g1, 0, none⟩)), (6, .bool false), (7, .int .i64 i_84), (8, v523), (9, .int .i64 i_120)] ∧ SH (fun _ => False) w w' [Box g1 [.int .i64 0, .int .i64 0, .string (ByteArray.mk #[]), .string (ByteArray.mk #[]), .int .u64 0, .int .u64 0] 43]) k_106 ?_ ?_
        · exact ⟨0, H, hst.keep _ ⟨rfl, rfl, rfl, rfl, rfl, rfl, rfl, rfl, trivial⟩, hsh.pick [0]⟩
        · rintro k_124 a W_121 ⟨i_120, H, hst, hsh⟩
          cases k_124 with
          | zero => rw [r16_Find.l1] at H; cases H
          | succ k_124 =>
           rw [r16_Find.l1] at H
           refine wq_seq ?_
           refine wq_seq ?_
           refine wq_region_lit (.inl rfl) ?_
           refine r_t hst trivial rfl (x_move hst rfl) ?_; intro a hst
           refine r_t hst trivial rfl (x_move hst rfl) ?_; intro a hst
           refine r_t hst trivial rfl (x_lenSl hst Try.underlying39 rfl hv524.slen) ?_; intro a hst
           refine r_t hst trivial rfl (x_cmpI (b := decide (i_120 < (r521.length : Int))) hst rfl rfl rfl) ?_; intro a hst
           refine wpL_nil ?_
           refine then_normal ?_
           by_cases c554 : (decide (i_120 < (r521.length : Int))) = true
           · rw [if_pos c554] at H
             refine wq_condT hst rfl c554 ?_
             refine wq_skip ?_
             refine then_normal ?_
             refine wq_seq ?_
             refine wq_block ?_
             refine wq_seq ?_
             refine wq_region_lit (.inl rfl) ?_
             refine r_t hst trivial rfl (x_move hst rfl) ?_; intro a hst
             refine r_t hst trivial rfl (x_move hst rfl) ?_; intro a hst
             obtain ⟨x561, hx561, H⟩ := Option.bind_eq_some_iff.1 H
             refine r_t hst trivial rfl (x_indexAddr hst Try.underlying39 el_43 rfl rfl hv524 hx561) ?_; intro a hst
             refine r_t hst trivial rfl (x_fieldAddrE (n' := Int.toNat i_120 * k_File.sz) hst fa_43_0 rfl rfl) ?_; intro a hst
             refine r_t hst trivial rfl (x_loadEF (j := 0) (cs := [.int .i64 x561.Number, .int .i64 x561.Size, .string x561.Least, .string x561.Limit, .int .u64 x561.Low, .int .u64 x561.High]) hst sc_3 rfl hv524 (Same.sh0 hsa0 hsh) hx561 rfl (fun _ h => h) rfl) ?_; intro a hst
             refine r_t hst trivial rfl (x_move hst rfl) ?_; intro a hst
             refine r_t hst trivial rfl (x_cmpI (b := (x561.Number == a1)) hst rfl rfl rfl) ?_; intro a hst
             refine wpL_nil ?_
             refine then_normal ?_
             by_cases c562 : (x561.Number == a1) = true
             · rw [if_pos c562] at H
               refine wq_condT hst rfl c562 ?_
               refine wq_seq ?_
               refine wq_region_t (.inl rfl) (.fin [(3, 0), (3, 1), (3, 2), (3, 3), (0, 4), (3, 5), (2, 6), (3, 7)]) (fun w' => SH (fun _ => False) w w' []) (fun w' => SH (fun _ => False) w w' [Box g1 [.int .i64 0, .int .i64 0, .string (ByteArray.mk #[]), .string (ByteArray.mk #[]), .int .u64 0, .int .u64 0] 43]) (fun w' => SH (fun _ => False) w w' [Box g1 [.int .i64 0, .int .i64 0, .string (ByteArray.mk #[]), .string (ByteArray.mk #[]), .int .u64 0, .int .u64 0] 43]) (shut_sh _ _ _) (shut_sh _ _ _) (shut_sh _ _ _) (sub_sh [] rfl) (sub_sh [0] rfl) hsh.drew fo (by kernel_rfl) ?_
               refine t_fin ?_
               refine m_p hst trivial rfl (fun _ => x_move hst rfl) ?_; intro a hst
               refine m_p hst trivial rfl (fun _ => x_move hst rfl) ?_; intro a hst
               refine m_p hst trivial rfl (fun _ => x_move hst rfl) ?_; intro a hst
               obtain ⟨x563, hx563, H⟩ := Option.bind_eq_some_iff.1 H
               refine m_p hst trivial rfl (fun _ => x_indexAddr hst Try.underlying39 el_43 rfl rfl hv524 hx563) ?_; intro a hst
               refine m_t hst trivial rfl (fun _ hsh => x_loadEsF (j := 0) (cs := [.int .i64 x563.Number, .int .i64 x563.Size, .string x563.Least, .string x563.Limit, .int .u64 x563.Low, .int .u64 x563.High]) (ps := [.int .i64 x563.Number, .int .i64 x563.Size, .string x563.Least, .string x563.Limit, .int .u64 x563.Low, .int .u64 x563.High]) hst ag_43 rfl hv524 (Same.sh0 hsa0 hsh) hx563 rfl (fun _ h => h) rfl) ?_; intro a hst
               refine m_p hst trivial rfl (fun _ => x_assign hst rfl) ?_; intro a hst
               refine m_loud (.inr rfl) ?_
               intro w564 hsh
               refine r_storeBs (i := 0) (cs' := [.int .i64 x563.Number, .int .i64 x563.Size, .string x563.Least, .string x563.Limit, .int .u64 x563.Low, .int .u64 x563.High]) (vs := [.int .i64 x563.Number, .int .i64 x563.Size, .string x563.Least, .string x563.Limit, .int .u64 x563.Low, .int .u64 x563.High]) hst hsh trivial ag_43 rfl rfl rfl rfl rfl rfl ?_; intro a w565 hsh hst
               refine m_turn hsh (sub_sh [] rfl) ?_
               refine m_p hst trivial rfl (fun _ => x_assign hst rfl) ?_; intro a hst
               refine m_nil ?_
               intro w566 hsh
               refine qn_normal ?_
               refine then_normal ?_
               refine wq_ret ?_
               refine block_ret ?_
               refine then_ret ?_
               refine then_ret ?_
               refine block_ret ?_
               refine block_ret ?_
               refine then_ret ?_
               refine then_ret ?_
               refine block_ret ?_
               refine then_ret ?_
               obtain rfl := Option.some.inj H
               exact ret_tct hst rfl rfl rfl (box_var (i := 0) hsh ag_43 rfl rfl) rfl ⟨rfl, hsh.pick []⟩
             · rw [if_neg c562] at H
               replace c562 := Bool.eq_false_iff.2 c562
               refine wq_condF hst rfl c562 ?_
               refine wq_skip ?_
               refine block_normal ?_
               refine then_normal ?_
               refine wq_region_lit (.inl rfl) ?_
               refine r_t hst trivial rfl (x_move hst rfl) ?_; intro a hst
               refine r_t hst trivial rfl (x_arI (r := w64 (i_120 + 1)) hst rfl rfl rfl) ?_; intro a hst
               refine r_t hst trivial rfl (x_assign hst rfl) ?_; intro a hst
               refine wpL_nil ?_
               refine then_normal ?_
               exact ⟨k_124, Nat.lt_succ_self _, (w64 (i_120 + 1)), H, hst.keep _ ⟨rfl, rfl, rfl, rfl, rfl, rfl, rfl, rfl, trivial⟩, hsh.pick [0]⟩
           · rw [if_neg c554] at H
             replace c554 := Bool.eq_false_iff.2 c554
             refine wq_condF hst rfl c554 ?_
             refine wq_exit ?_
             refine then_exit ?_
             refine then_exit ?_
             refine block_hit ?_
             refine block_normal ?_
             refine then_normal ?_
             exact ⟨H, hst.keep _ ⟨rfl, rfl, rfl, rfl, rfl, rfl, trivial⟩, hsh.pick [0]⟩
    · rw [if_neg c474] at H
      replace c474 := Bool.eq_false_iff.2 c474
      refine wq_condF hst rfl c474 ?_
      refine wq_exit ?_
      refine then_exit ?_
      refine then_exit ?_
      refine block_hit ?_
      refine then_normal ?_
      refine wq_seq ?_
      refine wq_region_lit (.inl rfl) ?_
      refine r_t hst trivial rfl (x_build (cs := [.int .i64 0, .int .i64 0, .string (ByteArray.mk #[]), .string (ByteArray.mk #[]), .int .u64 0, .int .u64 0]) hst rfl (by kernel_rfl)) ?_; intro a hst
      refine r_t hst trivial rfl (x_assign hst rfl) ?_; intro a hst
      refine r_storeBs (i := 0) (cs' := [.int .i64 0, .int .i64 0, .string (ByteArray.mk #[]), .string (ByteArray.mk #[]), .int .u64 0, .int .u64 0]) (vs := [.int .i64 0, .int .i64 0, .string (ByteArray.mk #[]), .string (ByteArray.mk #[]), .int .u64 0, .int .u64 0]) hst hsh trivial ag_43 rfl rfl rfl rfl rfl rfl ?_; intro a w567 hsh hst
      refine r_t hst trivial rfl (x_assign hst rfl) ?_; intro a hst
      refine wpL_nil ?_
      refine then_normal ?_
      refine wq_ret ?_
      obtain rfl := Option.some.inj H
      exact ret_tct hst rfl rfl rfl (box_var (i := 0) hsh ag_43 rfl rfl) rfl ⟨rfl, hsh.pick []⟩

set_option maxHeartbeats 4000000 in
set_option maxRecDepth 100000 in
theorem r16_Numbers.calls (k : Nat) (w : World) (va0 : Value) (Za0 : Nat → Prop) (wra0 : World) (hsa0 : Same Za0 wra0 w) (a0 : (List (List File))) (hra0 : RD (Kd.slice 43 k_File) Za0 wra0 va0 a0) (r : (List Int)) (h : r16_Numbers k a0 = some r) :
    Calls Try.prog 26 ([va0] : List Value).toArray w fun e w' => ∃ v0_ : Value, e = .returned (v0_) ∧ SH (fun _ => False) w w' [Row (Kd.int .i64) 3 v0_ r] := by
 have H := h
 clear h
 unfold r16_Numbers at H
 refine calls_enter Try.func26 rfl rfl ?_
 intro a hst
 have hsh := SH.zero (fun _ => False) w
 refine wq_seq ?_
 refine wq_region_lit (.inl rfl) ?_
 refine r_t hst trivial rfl (x_assign hst rfl) ?_; intro a hst
 refine wpL_nil ?_
 refine then_normal ?_
 refine wq_seq ?_
 refine wq_seq ?_
 refine wq_region_lit (.inl rfl) ?_
 refine r_t hst trivial rfl (x_move hst rfl) ?_; intro a hst
 obtain ⟨r4, hr4, H⟩ := Option.bind_eq_some_iff.1 H
 refine r_callD hst trivial rfl fn_13 rfl (r16_Valid.calls k _ _ _ _ (Same.sh0 hsa0 hsh) _ hra0 r4 hr4) ?_
 rintro e w5 ⟨rfl, hc⟩
 replace hsh := hsh.call0 hc
 clear hc
 refine ⟨_, rfl, fun a hst => ?_⟩
 refine r_t hst trivial rfl (x_notB hst rfl) ?_; intro a hst
 refine wpL_nil ?_
 refine then_normal ?_
 by_cases c6 : (!r4) = true
 · rw [if_pos c6] at H
   refine wq_condT hst rfl c6 ?_
   refine wq_seq ?_
   refine wq_region_lit (.inl rfl) ?_
   refine r_t hst trivial rfl (x_assign hst rfl) ?_; intro a hst
   refine wpL_nil ?_
   refine then_normal ?_
   refine wq_ret ?_
   refine then_ret ?_
   obtain rfl := Option.some.inj H
   have hsh := hsh.addNil (Kd.int .i64) 3
   exact ret1 hst rfl rfl ⟨(.slice none 0 0), rfl, hsh.pick [0]⟩
 · rw [if_neg c6] at H
   replace c6 := Bool.eq_false_iff.2 c6
   refine wq_condF hst rfl c6 ?_
   refine wq_skip ?_
   refine then_normal ?_
   refine wq_seq ?_
   refine wq_region_lit (.inl rfl) ?_
   refine r_t hst trivial rfl (x_move hst rfl) ?_; intro a hst
   obtain ⟨r8, hr8, H⟩ := Option.bind_eq_some_iff.1 H
   refine r_callD hst trivial rfl fn_39 rfl (r16_numbers.calls k _ _ _ _ (Same.sh0 hsa0 hsh) _ hra0 r8 hr8) ?_
   rintro e w9 ⟨v10, rfl, hc⟩
   replace hsh := hsh.call0 hc
   clear hc
   refine ⟨_, rfl, fun a hst => ?_⟩
   refine r_t hst trivial rfl (x_assign hst rfl) ?_; intro a hst
   refine wpL_nil ?_
   refine then_normal ?_
   refine wq_ret ?_
   obtain rfl := Option.some.inj H
   exact ret1 hst rfl rfl ⟨v10, rfl, hsh.pick [0]⟩

set_option maxHeartbeats 4000000 in
set_option maxRecDepth 100000 in
theorem math_bits_Len32.calls (w : World) (a0 : Int) (r : Int) (h : math_bits_Len32 a0 = some r) :
    Calls Try.prog 79 ([.int .u32 a0] : List Value).toArray w fun e w' => e = .returned (.int .i64 r) ∧ SH (fun _ => False) w w' [] := by
 have H := h
 clear h
 unfold math_bits_Len32 at H
 refine calls_enter Try.func79 rfl rfl ?_
 intro a hst
 have hsh := SH.zero (fun _ => False) w
 refine wq_seq ?_
 refine wq_region_lit (.inl rfl) ?_
 refine r_t hst trivial rfl (x_assign hst rfl) ?_; intro a hst
 refine wpL_nil ?_
 refine then_normal ?_
 obtain ⟨J_4, hJ_4, H⟩ := Jn.elim H
 refine wq_cut (fun a w' => ∃ (i_1 : Int), ∃ (i_2 : Int), J_4 i_1 i_2 = some r ∧ ST [] Try.f79.ntmps a [(0, .int .u32 i_1), (2, .int .i64 i_2)] ∧ SH (fun _ => False) w w' []) ?_ ?_
 · rintro a W_3 ⟨i_1, i_2, H, hst, hsh⟩
   subst hJ_4
   dsimp only at H
   obtain ⟨J_8, hJ_8, H⟩ := Jn.elim H
   refine wq_cut (fun a w' => ∃ (i_5 : Int), ∃ (i_6 : Int), J_8 i_5 i_6 = some r ∧ ST [] Try.f79.ntmps a [(0, .int .u32 i_5), (2, .int .i64 i_6)] ∧ SH (fun _ => False) w w' []) ?_ ?_
   · rintro a W_7 ⟨i_5, i_6, H, hst, hsh⟩
     subst hJ_8
     dsimp only at H
     refine wq_seq ?_
     refine wq_region_lit (.inl rfl) ?_
     refine r_t hst trivial rfl (x_move hst rfl) ?_; intro a hst
     refine r_t hst trivial rfl (x_move hst rfl) ?_; intro a hst
     refine r_t hst trivial rfl (x_convI hst Try.underlying103 Try.underlying5 rfl) ?_; intro a hst
     obtain ⟨n3, hn4, H⟩ := Option.bind_eq_some_iff.1 H
     refine r_t hst trivial rfl (x_indexS hst Try.underlying9 rfl rfl hn4) ?_; intro a hst
     refine r_t hst trivial rfl (x_convI hst Try.underlying5 Try.underlying3 rfl) ?_; intro a hst
     refine r_t hst trivial rfl (x_arI (r := w64 (i_6 + (w64 n3))) hst rfl rfl rfl) ?_; intro a hst
     refine r_t hst trivial rfl (x_assign hst rfl) ?_; intro a hst
     refine wpL_nil ?_
     refine then_normal ?_
     refine wq_ret ?_
     obtain rfl := Option.some.inj H
     exact ret1 hst rfl rfl ⟨rfl, hsh.pick []⟩
   · refine wq_seq ?_
     refine wq_region_lit (.inl rfl) ?_
     refine r_t hst trivial rfl (x_move hst rfl) ?_; intro a hst
     refine r_t hst trivial rfl (x_cmpI (b := decide (256 ≤ i_1)) hst rfl rfl rfl) ?_; intro a hst
     refine wpL_nil ?_
     refine then_normal ?_
     by_cases c5 : (decide (256 ≤ i_1)) = true
     · rw [if_pos c5] at H
       refine wq_condT hst rfl c5 ?_
       refine wq_seq ?_
       refine wq_region_lit (.inl rfl) ?_
       refine r_t hst trivial rfl (x_move hst rfl) ?_; intro a hst
       refine r_t hst trivial rfl (x_shr hst rfl rfl (by decide) (by decide)) ?_; intro a hst
       refine r_t hst trivial rfl (x_assign hst rfl) ?_; intro a hst
       refine wpL_nil ?_
       refine then_normal ?_
       refine wq_region_lit (.inl rfl) ?_
       refine r_t hst trivial rfl (x_move hst rfl) ?_; intro a hst
       refine r_t hst trivial rfl (x_arI (r := w64 (i_2 + 8)) hst rfl rfl rfl) ?_; intro a hst
       refine r_t hst trivial rfl (x_assign hst rfl) ?_; intro a hst
       refine wpL_nil ?_
       refine then_normal ?_
       exact ⟨(i_1 / 2 ^ (Int.toNat 8)), (w64 (i_2 + 8)), H, hst.keep _ ⟨rfl, rfl, trivial⟩, hsh.pick []⟩
     · rw [if_neg c5] at H
       replace c5 := Bool.eq_false_iff.2 c5
       refine wq_condF hst rfl c5 ?_
       refine wq_skip ?_
       refine then_normal ?_
       exact ⟨i_1, i_2, H, hst.keep _ ⟨rfl, rfl, trivial⟩, hsh.pick []⟩
 · refine wq_seq ?_
   refine wq_region_lit (.inl rfl) ?_
   refine r_t hst trivial rfl (x_move hst rfl) ?_; intro a hst
   refine r_t hst trivial rfl (x_cmpI (b := decide (65536 ≤ a0)) hst rfl rfl rfl) ?_; intro a hst
   refine wpL_nil ?_
   refine then_normal ?_
   by_cases c6 : (decide (65536 ≤ a0)) = true
   · rw [if_pos c6] at H
     refine wq_condT hst rfl c6 ?_
     refine wq_seq ?_
     refine wq_region_lit (.inl rfl) ?_
     refine r_t hst trivial rfl (x_move hst rfl) ?_; intro a hst
     refine r_t hst trivial rfl (x_shr hst rfl rfl (by decide) (by decide)) ?_; intro a hst
     refine r_t hst trivial rfl (x_assign hst rfl) ?_; intro a hst
     refine wpL_nil ?_
     refine then_normal ?_
     refine wq_region_lit (.inl rfl) ?_
     refine r_t hst trivial rfl (x_assign hst rfl) ?_; intro a hst
     refine wpL_nil ?_
     refine then_normal ?_
     exact ⟨(a0 / 2 ^ (Int.toNat 16)), 16, H, hst.keep _ ⟨rfl, rfl, trivial⟩, hsh.pick []⟩
   · rw [if_neg c6] at H
     replace c6 := Bool.eq_false_iff.2 c6
     refine wq_condF hst rfl c6 ?_
     refine wq_skip ?_
     refine then_normal ?_
     exact ⟨a0, 0, H, hst.keep _ ⟨rfl, rfl, trivial⟩, hsh.pick []⟩

set_option maxHeartbeats 4000000 in
set_option maxRecDepth 100000 in
theorem math_bits_Len64.calls (w : World) (a0 : Int) (r : Int) (h : math_bits_Len64 a0 = some r) :
    Calls Try.prog 80 ([.int .u64 a0] : List Value).toArray w fun e w' => e = .returned (.int .i64 r) ∧ SH (fun _ => False) w w' [] := by
 have H := h
 clear h
 unfold math_bits_Len64 at H
 refine calls_enter Try.func80 rfl rfl ?_
 intro a hst
 have hsh := SH.zero (fun _ => False) w
 refine wq_seq ?_
 refine wq_region_lit (.inl rfl) ?_
 refine r_t hst trivial rfl (x_assign hst rfl) ?_; intro a hst
 refine wpL_nil ?_
 refine then_normal ?_
 obtain ⟨J_4, hJ_4, H⟩ := Jn.elim H
 refine wq_cut (fun a w' => ∃ (i_1 : Int), ∃ (i_2 : Int), J_4 i_1 i_2 = some r ∧ ST [] Try.f80.ntmps a [(0, .int .u64 i_1), (2, .int .i64 i_2)] ∧ SH (fun _ => False) w w' []) ?_ ?_
 · rintro a W_3 ⟨i_1, i_2, H, hst, hsh⟩
   subst hJ_4
   dsimp only at H
   obtain ⟨J_8, hJ_8, H⟩ := Jn.elim H
   refine wq_cut (fun a w' => ∃ (i_5 : Int), ∃ (i_6 : Int), J_8 i_5 i_6 = some r ∧ ST [] Try.f80.ntmps a [(0, .int .u64 i_5), (2, .int .i64 i_6)] ∧ SH (fun _ => False) w w' []) ?_ ?_
   · rintro a W_7 ⟨i_5, i_6, H, hst, hsh⟩
     subst hJ_8
     dsimp only at H
     obtain ⟨J_12, hJ_12, H⟩ := Jn.elim H
     refine wq_cut (fun a w' => ∃ (i_9 : Int), ∃ (i_10 : Int), J_12 i_9 i_10 = some r ∧ ST [] Try.f80.ntmps a [(0, .int .u64 i_9), (2, .int .i64 i_10)] ∧ SH (fun _ => False) w w' []) ?_ ?_
     · rintro a W_11 ⟨i_9, i_10, H, hst, hsh⟩
       subst hJ_12
       dsimp only at H
       refine wq_seq ?_
       refine wq_region_lit (.inl rfl) ?_
       refine r_t hst trivial rfl (x_move hst rfl) ?_; intro a hst
       refine r_t hst trivial rfl (x_move hst rfl) ?_; intro a hst
       refine r_t hst trivial rfl (x_convI hst Try.underlying24 Try.underlying5 rfl) ?_; intro a hst
       obtain ⟨n4, hn5, H⟩ := Option.bind_eq_some_iff.1 H
       refine r_t hst trivial rfl (x_indexS hst Try.underlying9 rfl rfl hn5) ?_; intro a hst
       refine r_t hst trivial rfl (x_convI hst Try.underlying5 Try.underlying3 rfl) ?_; intro a hst
       refine r_t hst trivial rfl (x_arI (r := w64 (i_10 + (w64 n4))) hst rfl rfl rfl) ?_; intro a hst
       refine r_t hst trivial rfl (x_assign hst rfl) ?_; intro a hst
       refine wpL_nil ?_
       refine then_normal ?_
       refine wq_ret ?_
       obtain rfl := Option.some.inj H
       exact ret1 hst rfl rfl ⟨rfl, hsh.pick []⟩
     · refine wq_seq ?_
       refine wq_region_lit (.inl rfl) ?_
       refine r_t hst trivial rfl (x_move hst rfl) ?_; intro a hst
       refine r_t hst trivial rfl (x_cmpI (b := decide (256 ≤ i_5)) hst rfl rfl rfl) ?_; intro a hst
       refine wpL_nil ?_
       refine then_normal ?_
       by_cases c6 : (decide (256 ≤ i_5)) = true
       · rw [if_pos c6] at H
         refine wq_condT hst rfl c6 ?_
         refine wq_seq ?_
         refine wq_region_lit (.inl rfl) ?_
         refine r_t hst trivial rfl (x_move hst rfl) ?_; intro a hst
         refine r_t hst trivial rfl (x_shr hst rfl rfl (by decide) (by decide)) ?_; intro a hst
         refine r_t hst trivial rfl (x_assign hst rfl) ?_; intro a hst
         refine wpL_nil ?_
         refine then_normal ?_
         refine wq_region_lit (.inl rfl) ?_
         refine r_t hst trivial rfl (x_move hst rfl) ?_; intro a hst
         refine r_t hst trivial rfl (x_arI (r := w64 (i_6 + 8)) hst rfl rfl rfl) ?_; intro a hst
         refine r_t hst trivial rfl (x_assign hst rfl) ?_; intro a hst
         refine wpL_nil ?_
         refine then_normal ?_
         exact ⟨(i_5 / 2 ^ (Int.toNat 8)), (w64 (i_6 + 8)), H, hst.keep _ ⟨rfl, rfl, trivial⟩, hsh.pick []⟩
       · rw [if_neg c6] at H
         replace c6 := Bool.eq_false_iff.2 c6
         refine wq_condF hst rfl c6 ?_
         refine wq_skip ?_
         refine then_normal ?_
         exact ⟨i_5, i_6, H, hst.keep _ ⟨rfl, rfl, trivial⟩, hsh.pick []⟩
   · refine wq_seq ?_
     refine wq_region_lit (.inl rfl) ?_
     refine r_t hst trivial rfl (x_move hst rfl) ?_; intro a hst
     refine r_t hst trivial rfl (x_cmpI (b := decide (65536 ≤ i_1)) hst rfl rfl rfl) ?_; intro a hst
     refine wpL_nil ?_
     refine then_normal ?_
     by_cases c7 : (decide (65536 ≤ i_1)) = true
     · rw [if_pos c7] at H
       refine wq_condT hst rfl c7 ?_
       refine wq_seq ?_
       refine wq_region_lit (.inl rfl) ?_
       refine r_t hst trivial rfl (x_move hst rfl) ?_; intro a hst
       refine r_t hst trivial rfl (x_shr hst rfl rfl (by decide) (by decide)) ?_; intro a hst
       refine r_t hst trivial rfl (x_assign hst rfl) ?_; intro a hst
       refine wpL_nil ?_
       refine then_normal ?_
       refine wq_region_lit (.inl rfl) ?_
       refine r_t hst trivial rfl (x_move hst rfl) ?_; intro a hst
       refine r_t hst trivial rfl (x_arI (r := w64 (i_2 + 16)) hst rfl rfl rfl) ?_; intro a hst
       refine r_t hst trivial rfl (x_assign hst rfl) ?_; intro a hst
       refine wpL_nil ?_
       refine then_normal ?_
       exact ⟨(i_1 / 2 ^ (Int.toNat 16)), (w64 (i_2 + 16)), H, hst.keep _ ⟨rfl, rfl, trivial⟩, hsh.pick []⟩
     · rw [if_neg c7] at H
       replace c7 := Bool.eq_false_iff.2 c7
       refine wq_condF hst rfl c7 ?_
       refine wq_skip ?_
       refine then_normal ?_
       exact ⟨i_1, i_2, H, hst.keep _ ⟨rfl, rfl, trivial⟩, hsh.pick []⟩
 · refine wq_seq ?_
   refine wq_region_lit (.inl rfl) ?_
   refine r_t hst trivial rfl (x_move hst rfl) ?_; intro a hst
   refine r_t hst trivial rfl (x_cmpI (b := decide (4294967296 ≤ a0)) hst rfl rfl rfl) ?_; intro a hst
   refine wpL_nil ?_
   refine then_normal ?_
   by_cases c8 : (decide (4294967296 ≤ a0)) = true
   · rw [if_pos c8] at H
     refine wq_condT hst rfl c8 ?_
     refine wq_seq ?_
     refine wq_region_lit (.inl rfl) ?_
     refine r_t hst trivial rfl (x_move hst rfl) ?_; intro a hst
     refine r_t hst trivial rfl (x_shr hst rfl rfl (by decide) (by decide)) ?_; intro a hst
     refine r_t hst trivial rfl (x_assign hst rfl) ?_; intro a hst
     refine wpL_nil ?_
     refine then_normal ?_
     refine wq_region_lit (.inl rfl) ?_
     refine r_t hst trivial rfl (x_assign hst rfl) ?_; intro a hst
     refine wpL_nil ?_
     refine then_normal ?_
     exact ⟨(a0 / 2 ^ (Int.toNat 32)), 32, H, hst.keep _ ⟨rfl, rfl, trivial⟩, hsh.pick []⟩
   · rw [if_neg c8] at H
     replace c8 := Bool.eq_false_iff.2 c8
     refine wq_condF hst rfl c8 ?_
     refine wq_skip ?_
     refine then_normal ?_
     exact ⟨a0, 0, H, hst.keep _ ⟨rfl, rfl, trivial⟩, hsh.pick []⟩

set_option maxHeartbeats 4000000 in
set_option maxRecDepth 100000 in
theorem math_bits_Len.calls (w : World) (a0 : Int) (r : Int) (h : math_bits_Len a0 = some r) :
    Calls Try.prog 66 ([.int .u64 a0] : List Value).toArray w fun e w' => e = .returned (.int .i64 r) ∧ SH (fun _ => False) w w' [] := by
 have H := h
 clear h
 unfold math_bits_Len at H
 refine calls_enter Try.func66 rfl rfl ?_
 intro a hst
 have hsh := SH.zero (fun _ => False) w
 refine wq_seq ?_
 refine wq_region_lit (.inl rfl) ?_
 refine r_t hst trivial rfl (x_assign hst rfl) ?_; intro a hst
 refine wpL_nil ?_
 refine then_normal ?_
 refine wq_seq ?_
 refine wq_cond_false rfl ?_
 refine wq_skip ?_
 refine then_normal ?_
 refine wq_seq ?_
 refine wq_region_lit (.inl rfl) ?_
 refine r_t hst trivial rfl (x_move hst rfl) ?_; intro a hst
 obtain ⟨r1, hr1, H⟩ := Option.bind_eq_some_iff.1 H
 refine r_callD hst trivial rfl fn_80 rfl (math_bits_Len64.calls _ a0 r1 hr1) ?_
 rintro e w2 ⟨rfl, hc⟩
 replace hsh := hsh.call0 hc
 clear hc
 refine ⟨_, rfl, fun a hst => ?_⟩
 refine r_t hst trivial rfl (x_assign hst rfl) ?_; intro a hst
 refine wpL_nil ?_
 refine then_normal ?_
 refine wq_ret ?_
 obtain rfl := Option.some.inj H
 exact ret1 hst rfl rfl ⟨rfl, hsh.pick []⟩

set_option maxHeartbeats 4000000 in
set_option maxRecDepth 100000 in
theorem cmp_isNaN_int.calls (w : World) (a0 : Int) (r : Bool) (h : cmp_isNaN_int a0 = some r) :
    Calls Try.prog 68 ([.int .i64 a0] : List Value).toArray w fun e w' => e = .returned (.bool r) ∧ SH (fun _ => False) w w' [] := by
 have H := h
 clear h
 unfold cmp_isNaN_int at H
 refine calls_enter Try.func68 rfl rfl ?_
 intro a hst
 have hsh := SH.zero (fun _ => False) w
 refine wq_seq ?_
 refine wq_region_lit (.inl rfl) ?_
 refine r_t hst trivial rfl (x_assign hst rfl) ?_; intro a hst
 refine wpL_nil ?_
 refine then_normal ?_
 refine wq_seq ?_
 refine wq_region_lit (.inl rfl) ?_
 refine r_t hst trivial rfl (x_move hst rfl) ?_; intro a hst
 refine r_t hst trivial rfl (x_move hst rfl) ?_; intro a hst
 refine r_t hst trivial rfl (x_cmpI (b := (a0 != a0)) hst rfl rfl rfl) ?_; intro a hst
 refine r_t hst trivial rfl (x_assign hst rfl) ?_; intro a hst
 refine wpL_nil ?_
 refine then_normal ?_
 refine wq_ret ?_
 obtain rfl := Option.some.inj H
 exact ret1 hst rfl rfl ⟨rfl, hsh.pick []⟩

set_option maxHeartbeats 4000000 in
set_option maxRecDepth 100000 in
theorem cmp_Less_int.calls (w : World) (a0 : Int) (a1 : Int) (r : Bool) (h : cmp_Less_int a0 a1 = some r) :
    Calls Try.prog 76 ([.int .i64 a0, .int .i64 a1] : List Value).toArray w fun e w' => e = .returned (.bool r) ∧ SH (fun _ => False) w w' [] := by
 have H := h
 clear h
 unfold cmp_Less_int at H
 refine calls_enter Try.func76 rfl rfl ?_
 intro a hst
 have hsh := SH.zero (fun _ => False) w
 refine wq_seq ?_
 refine wq_region_lit (.inl rfl) ?_
 refine r_t hst trivial rfl (x_assign hst rfl) ?_; intro a hst
 refine wpL_nil ?_
 refine then_normal ?_
 refine wq_seq ?_
 refine wq_region_lit (.inl rfl) ?_
 refine r_t hst trivial rfl (x_move hst rfl) ?_; intro a hst
 obtain ⟨r1, hr1, H⟩ := Option.bind_eq_some_iff.1 H
 refine r_callD hst trivial rfl fn_68 rfl (cmp_isNaN_int.calls _ a0 r1 hr1) ?_
 rintro e w2 ⟨rfl, hc⟩
 replace hsh := hsh.call0 hc
 clear hc
 refine ⟨_, rfl, fun a hst => ?_⟩
 refine r_t hst trivial rfl (x_move hst rfl) ?_; intro a hst
 obtain ⟨J_2, hJ_2, H⟩ := Jn.elim H
 refine wl_join 7 (fun a w' => ∃ (b_1 : Bool), J_2 b_1 = some r ∧ ST [] Try.f76.ntmps a [(0, .int .i64 a0), (1, .int .i64 a1), (4, .bool false), (11, .bool b_1)] ∧ SH (fun _ => False) w w' []) ?_ ?_
 · rintro a W_3 ⟨b_1, H, hst, hsh⟩
   subst hJ_2
   dsimp only at H
   refine r_t hst trivial rfl (x_move hst rfl) ?_; intro a hst
   refine wl_join0 (Δ := []) (N := Try.f76.ntmps) 12 [(4, .bool false), (16, .bool (b_1 || (decide (a0 < a1))))] ?_ ?_
   · intro a hst
     refine r_t hst trivial rfl (x_assign hst rfl) ?_; intro a hst
     refine wpL_nil ?_
     refine then_normal ?_
     refine wq_ret ?_
     obtain rfl := Option.some.inj H
     exact ret1 hst rfl rfl ⟨rfl, hsh.pick []⟩
   · intro hj
     by_cases c6 : b_1 = true
     · refine r_not hst 12 rfl rfl c6 rfl ?_; intro a hst
       refine r_not hst 12 rfl rfl c6 rfl ?_; intro a hst
       refine r_not hst 12 rfl rfl c6 rfl ?_; intro a hst
       refine r_t hst trivial rfl (x_orT (decide (a0 < a1)) hst rfl c6 rfl) ?_; intro a hst
       exact hj _ (hst.keep _ ⟨rfl, rfl, trivial⟩)
     · replace c6 := Bool.eq_false_iff.2 c6
       refine r_t hst (wt_of 12 rfl rfl c6) rfl (x_move hst rfl) ?_; intro a hst
       refine r_t hst (wt_of 12 rfl rfl c6) rfl (x_move hst rfl) ?_; intro a hst
       refine r_t hst (wt_of 12 rfl rfl c6) rfl (x_cmpI (b := decide (a0 < a1)) hst rfl rfl rfl) ?_; intro a hst
       refine r_t hst trivial rfl (x_orF hst rfl c6 rfl) ?_; intro a hst
       exact hj _ (hst.keep _ ⟨rfl, rfl, trivial⟩)
 · intro hj
   by_cases c3 : r1 = true
   · rw [if_pos c3] at H
     refine r_t hst (wt_of 7 rfl rfl c3) rfl (x_move hst rfl) ?_; intro a hst
     obtain ⟨r7, hr7, H⟩ := Option.bind_eq_some_iff.1 H
     refine r_callD hst (wt_of 7 rfl rfl c3) rfl fn_68 rfl (cmp_isNaN_int.calls _ a1 r7 hr7) ?_
     rintro e w8 ⟨rfl, hc⟩
     replace hsh := hsh.call0 hc
     clear hc
     refine ⟨_, rfl, fun a hst => ?_⟩
     refine r_t hst (wt_of 7 rfl rfl c3) rfl (x_notB hst rfl) ?_; intro a hst
     refine r_t hst trivial rfl (x_pickT hst rfl c3 rfl) ?_; intro a hst
     exact hj _ _ ⟨(!r7), H, hst.keep _ ⟨rfl, rfl, rfl, rfl, trivial⟩, hsh.pick []⟩
   · rw [if_neg c3] at H
     replace c3 := Bool.eq_false_iff.2 c3
     refine r_not hst 7 rfl rfl c3 rfl ?_; intro a hst
     refine r_not hst 7 rfl rfl c3 rfl ?_; intro a hst
     refine r_not hst 7 rfl rfl c3 rfl ?_; intro a hst
     refine r_t hst trivial rfl (x_pickF hst rfl c3 rfl) ?_; intro a hst
     exact hj _ _ ⟨false, H, hst.keep _ ⟨rfl, rfl, rfl, rfl, trivial⟩, hsh.pick []⟩

set_option maxHeartbeats 4000000 in
set_option maxRecDepth 100000 in
theorem slices_insertionSortOrdered_int.calls (k : Nat) (w : World) (GG : Nat → Prop) (va0 : Value) (a0 : (List Int)) (a1 : Int) (a2 : Int) (hsep : Sep GG w [Row (Kd.int .i64) 3 va0 a0]) (r : (List Int)) (h : slices_insertionSortOrdered_int k a0 a1 a2 = some r) :
    Calls Try.prog 70 ([va0, .int .i64 a1, .int .i64 a2] : List Value).toArray w fun e w' => e = .returned (.tuple #[]) ∧ SH GG w w' [Row (Kd.int .i64) 3 va0 r] := by
 have H := h
 clear h
 unfold slices_insertionSortOrdered_int at H
 refine calls_enter Try.func70 rfl rfl ?_
 intro a hst
 have hsh := SH.start hsep
 refine wq_seq ?_
 refine wq_region_lit (.inl rfl) ?_
 refine r_t hst trivial rfl (x_move hst rfl) ?_; intro a hst
 refine r_t hst trivial rfl (x_arI (r := w64 (a1 + 1)) hst rfl rfl rfl) ?_; intro a hst
 refine r_t hst trivial rfl (x_assign hst rfl) ?_; intro a hst
 refine wpL_nil ?_
 refine then_normal ?_
 refine wq_block ?_
 refine wq_loop_fuel (fun k_134 a w' => ∃ (l_67 : (List Int)), ∃ (i_68 : Int), slices_insertionSortOrdered_int.l0 a1 a2 k_134 l_67 i_68 = some r ∧ ST [] Try.f70.ntmps a [(0, va0), (1, .int .i64 a1), (2, .int .i64 a2), (6, .int .i64 i_68)] ∧ SH GG w w' [Row (Kd.int .i64) 3 va0 l_67]) k ?_ ?_
 · exact ⟨a0, (w64 (a1 + 1)), H, hst.keep _ ⟨rfl, rfl, rfl, rfl, trivial⟩, hsh.pick [0]⟩
 · rintro k_134 a W_69 ⟨l_67, i_68, H, hst, hsh⟩
   cases k_134 with
   | zero => rw [slices_insertionSortOrdered_int.l0] at H; cases H
   | succ k_134 =>
    rw [slices_insertionSortOrdered_int.l0] at H
    refine wq_seq ?_
    refine wq_seq ?_
    refine wq_region_lit (.inl rfl) ?_
    refine r_t hst trivial rfl (x_move hst rfl) ?_; intro a hst
    refine r_t hst trivial rfl (x_move hst rfl) ?_; intro a hst
    refine r_t hst trivial rfl (x_cmpI (b := decide (i_68 < a2)) hst rfl rfl rfl) ?_; intro a hst
    refine wpL_nil ?_
    refine then_normal ?_
    by_cases c534 : (decide (i_68 < a2)) = true
    · rw [if_pos c534] at H
      refine wq_condT hst rfl c534 ?_
      refine wq_skip ?_
      refine then_normal ?_
      obtain ⟨J_166, hJ_166, H⟩ := Jn.elim H
      refine wq_cut (fun a w' => ∃ (l_164 : (List Int)), J_166 l_164 = some r ∧ ST [] Try.f70.ntmps a [(0, va0), (1, .int .i64 a1), (2, .int .i64 a2), (6, .int .i64 i_68)] ∧ SH GG w w' [Row (Kd.int .i64) 3 va0 l_164]) ?_ ?_
      · rintro a W_165 ⟨l_164, H, hst, hsh⟩
        subst hJ_166
        dsimp only at H
        refine wq_region_lit (.inl rfl) ?_
        refine r_t hst trivial rfl (x_move hst rfl) ?_; intro a hst
        refine r_t hst trivial rfl (x_arI (r := w64 (i_68 + 1)) hst rfl rfl rfl) ?_; intro a hst
        refine r_t hst trivial rfl (x_assign hst rfl) ?_; intro a hst
        refine wpL_nil ?_
        refine then_normal ?_
        exact ⟨k_134, Nat.lt_succ_self _, l_164, (w64 (i_68 + 1)), H, hst.keep _ ⟨rfl, rfl, rfl, rfl, trivial⟩, hsh.pick [0]⟩
      · refine wq_block ?_
        refine wq_seq ?_
        refine wq_region_lit (.inl rfl) ?_
        refine r_t hst trivial rfl (x_move hst rfl) ?_; intro a hst
        refine r_t hst trivial rfl (x_assign hst rfl) ?_; intro a hst
        refine wpL_nil ?_
        refine then_normal ?_
        refine wq_block ?_
        refine wq_loop_fuel (fun k_189 a w' => ∃ (l_177 : (List Int)), ∃ (i_178 : Int), slices_insertionSortOrdered_int.l1 a1 J_166 k_189 l_177 i_178 = some r ∧ ST [] Try.f70.ntmps a [(0, va0), (1, .int .i64 a1), (2, .int .i64 a2), (6, .int .i64 i_68), (7, .int .i64 i_178)] ∧ SH GG w w' [Row (Kd.int .i64) 3 va0 l_177]) k_134 ?_ ?_
        · exact ⟨l_67, i_68, H, hst.keep _ ⟨rfl, rfl, rfl, rfl, rfl, trivial⟩, hsh.pick [0]⟩
        · rintro k_189 a W_179 ⟨l_177, i_178, H, hst, hsh⟩
          cases k_189 with
          | zero => rw [slices_insertionSortOrdered_int.l1] at H; cases H
          | succ k_189 =>
           rw [slices_insertionSortOrdered_int.l1] at H
           refine wq_seq ?_
           refine wq_seq ?_
           refine wq_region_q (.inl rfl) (fun w' => SH GG w w' [Row (Kd.int .i64) 3 va0 l_177]) (shut_sh _ _ _) hsh.drew fo (by kernel_rfl) ?_
           refine q_t hst trivial rfl (fun _ hsh => x_move hst rfl) ?_; intro a hst
           refine q_t hst trivial rfl (fun _ hsh => x_move hst rfl) ?_; intro a hst
           refine q_t hst trivial rfl (fun _ hsh => x_cmpI (b := decide (a1 < i_178)) hst rfl rfl rfl) ?_; intro a hst
           refine q_t hst trivial rfl (fun _ hsh => x_move hst rfl) ?_; intro a hst
           obtain ⟨J_194, hJ_194, H⟩ := Jn.elim H
           refine q_join 15 (fun a => ∃ (b_193 : Bool), J_194 b_193 = some r ∧ ST [] Try.f70.ntmps a [(0, va0), (1, .int .i64 a1), (2, .int .i64 a2), (6, .int .i64 i_68), (7, .int .i64 i_178), (30, .bool b_193)]) ?_ ?_
           · rintro a ⟨b_193, H, hst⟩
             subst hJ_194
             dsimp only at H
             refine q_nil ?_
             intro w771 hsh
             refine then_normal ?_
             by_cases c772 : b_193 = true
             · rw [if_pos c772] at H
               refine wq_condT hst rfl c772 ?_
               refine wq_skip ?_
               refine then_normal ?_
               refine wq_seq ?_
               refine wq_block ?_
               have hw783_0 := hsh.row 0 rfl
               refine wq_region_t (.inl rfl) (.fin [(3, 0), (3, 1), (3, 2), (3, 3), (3, 4), (3, 5), (3, 6), (3, 7), (3, 8), (0, 9), (3, 10), (3, 11), (3, 12), (0, 13), (3, 14), (2, 15), (0, 16), (2, 17)]) (fun w' => SH GG w w' []) (fun w' => SH GG w w' [Row (Kd.int .i64) 3 va0 l_177]) (fun w' => SH GG w w' [Row (Kd.int .i64) 3 va0 l_177]) (shut_sh _ _ _) (shut_sh _ _ _) (shut_sh _ _ _) (sub_sh [] rfl) (sub_sh [0] rfl) hsh.drew fo (by kernel_rfl) ?_
               refine t_fin ?_
               refine m_p hst trivial rfl (fun _ => x_move hst rfl) ?_; intro a hst
               refine m_p hst trivial rfl (fun _ => x_move hst rfl) ?_; intro a hst
               refine m_p hst trivial rfl (fun _ => x_move hst rfl) ?_; intro a hst
               refine m_p hst trivial rfl (fun _ => x_move hst rfl) ?_; intro a hst
               refine m_p hst trivial rfl (fun _ => x_arI (r := w64 (i_178 - 1)) hst rfl rfl rfl) ?_; intro a hst
               refine m_p hst trivial rfl (fun _ => x_move hst rfl) ?_; intro a hst
               refine m_p hst trivial rfl (fun _ => x_move hst rfl) ?_; intro a hst
               refine m_p hst trivial rfl (fun _ => x_arI (r := w64 (i_178 - 1)) hst rfl rfl rfl) ?_; intro a hst
               obtain ⟨x784, hx784, H⟩ := Option.bind_eq_some_iff.1 H
               refine m_p hst trivial rfl (fun _ => x_indexAddr hst Try.underlying56 el_3 rfl rfl hw783_0 hx784) ?_; intro a hst
               refine m_t hst trivial rfl (fun _ hsh => x_loadEF (j := 0) (cs := [.int .i64 x784]) hst sc_3 rfl (hsh.row 0 rfl) (Same.refl _ _) hx784 rfl (fun _ h => h) rfl) ?_; intro a hst
               refine m_p hst trivial rfl (fun _ => x_move hst rfl) ?_; intro a hst
               refine m_p hst trivial rfl (fun _ => x_move hst rfl) ?_; intro a hst
               obtain ⟨x785, hx785, H⟩ := Option.bind_eq_some_iff.1 H
               refine m_p hst trivial rfl (fun _ => x_indexAddr hst Try.underlying56 el_3 rfl rfl hw783_0 hx785) ?_; intro a hst
               refine m_t hst trivial rfl (fun _ hsh => x_loadEF (j := 0) (cs := [.int .i64 x785]) hst sc_3 rfl (hsh.row 0 rfl) (Same.refl _ _) hx785 rfl (fun _ h => h) rfl) ?_; intro a hst
               obtain ⟨x786, hx786, H⟩ := Option.bind_eq_some_iff.1 H
               refine m_p hst trivial rfl (fun _ => x_indexAddr hst Try.underlying56 el_3 rfl rfl hw783_0 hx786) ?_; intro a hst
               refine m_loud (.inr rfl) ?_
               intro w787 hsh
               obtain ⟨l788, hl788, H⟩ := Option.bind_eq_some_iff.1 H
               refine r_storeE (i := 0) (off := 0) (new := x784) (cs' := [.int .i64 x784]) hst hsh trivial sc_3 rfl rfl rfl hx786 rfl (Nat.le_of_ble_eq_true rfl) rfl (fun _ _ _ h => by rw [h]; rfl) (fun _ _ => rfl) ?_; intro a w789 hsh hst
               rw [← upd_some hl788] at hsh
               refine m_turn hsh (sub_sh [] rfl) ?_
               obtain ⟨x790, hx790, H⟩ := Option.bind_eq_some_iff.1 H
               refine m_t hst trivial rfl (fun _ hsh => x_indexAddr hst Try.underlying56 el_3 rfl rfl (hsh.row 0 rfl) hx790) ?_; intro a hst
               refine m_loud (.inr rfl) ?_
               intro w791 hsh
               obtain ⟨l792, hl792, H⟩ := Option.bind_eq_some_iff.1 H
               refine r_storeE (i := 0) (off := 0) (new := x785) (cs' := [.int .i64 x785]) hst hsh trivial sc_3 rfl rfl rfl hx790 rfl (Nat.le_of_ble_eq_true rfl) rfl (fun _ _ _ h => by rw [h]; rfl) (fun _ _ => rfl) ?_; intro a w793 hsh hst
               rw [← upd_some hl792] at hsh
               refine m_turn hsh (sub_sh [] rfl) ?_
               refine m_nil ?_
               intro w794 hsh
               refine qn_normal ?_
               refine block_normal ?_
               refine then_normal ?_
               refine wq_region_lit (.inl rfl) ?_
               refine r_t hst trivial rfl (x_move hst rfl) ?_; intro a hst
               refine r_t hst trivial rfl (x_arI (r := w64 (i_178 - 1)) hst rfl rfl rfl) ?_; intro a hst
               refine r_t hst trivial rfl (x_assign hst rfl) ?_; intro a hst
               refine wpL_nil ?_
               refine then_normal ?_
               exact ⟨k_189, Nat.lt_succ_self _, l792, (w64 (i_178 - 1)), H, hst.keep _ ⟨rfl, rfl, rfl, rfl, rfl, trivial⟩, hsh.pick [0]⟩
             · rw [if_neg c772] at H
               replace c772 := Bool.eq_false_iff.2 c772
               refine wq_condF hst rfl c772 ?_
               refine wq_exit ?_
               refine then_exit ?_
               refine then_exit ?_
               refine block_hit ?_
               refine block_normal ?_
               refine then_normal ?_
               exact ⟨l_177, H, hst.keep _ ⟨rfl, rfl, rfl, rfl, trivial⟩, hsh.pick [0]⟩
           · intro hj
             by_cases c766 : (decide (a1 < i_178)) = true
             · rw [if_pos c766] at H
               refine q_t hst (wt_of 19 rfl rfl c766) rfl (fun _ hsh => x_move hst rfl) ?_; intro a hst
               refine q_t hst (wt_of 19 rfl rfl c766) rfl (fun _ hsh => x_move hst rfl) ?_; intro a hst
               obtain ⟨x795, hx795, H⟩ := Option.bind_eq_some_iff.1 H
               refine q_t hst (wt_of 19 rfl rfl c766) rfl (fun _ hsh => x_indexAddr hst Try.underlying56 el_3 rfl rfl (hsh.row 0 rfl) hx795) ?_; intro a hst
               refine q_t hst (wt_of 19 rfl rfl c766) rfl (fun _ hsh => x_loadEF (j := 0) (cs := [.int .i64 x795]) hst sc_3 rfl (hsh.row 0 rfl) (Same.refl _ _) hx795 rfl (fun _ h => h) rfl) ?_; intro a hst
               refine q_t hst (wt_of 19 rfl rfl c766) rfl (fun _ hsh => x_move hst rfl) ?_; intro a hst
               refine q_t hst (wt_of 19 rfl rfl c766) rfl (fun _ hsh => x_move hst rfl) ?_; intro a hst
               refine q_t hst (wt_of 19 rfl rfl c766) rfl (fun _ hsh => x_arI (r := w64 (i_178 - 1)) hst rfl rfl rfl) ?_; intro a hst
               obtain ⟨x796, hx796, H⟩ := Option.bind_eq_some_iff.1 H
               refine q_t hst (wt_of 19 rfl rfl c766) rfl (fun _ hsh => x_indexAddr hst Try.underlying56 el_3 rfl rfl (hsh.row 0 rfl) hx796) ?_; intro a hst
               refine q_t hst (wt_of 19 rfl rfl c766) rfl (fun _ hsh => x_loadEF (j := 0) (cs := [.int .i64 x796]) hst sc_3 rfl (hsh.row 0 rfl) (Same.refl _ _) hx796 rfl (fun _ h => h) rfl) ?_; intro a hst
               obtain ⟨r797, hr797, H⟩ := Option.bind_eq_some_iff.1 H
               refine q_call hst (wt_of 19 rfl rfl c766) rfl fn_76 rfl (fun w9 hsh => cmp_Less_int.calls _ x795 x796 r797 hr797) ?_; intro a hst
               refine q_t hst trivial rfl (fun _ hsh => x_pickT hst rfl c766 rfl) ?_; intro a hst
               exact hj _ ⟨r797, H, hst.keep _ ⟨rfl, rfl, rfl, rfl, rfl, rfl, trivial⟩⟩
             · rw [if_neg c766] at H
               replace c766 := Bool.eq_false_iff.2 c766
               refine q_not hst 19 rfl rfl c766 rfl ?_; intro a hst
               refine q_not hst 19 rfl rfl c766 rfl ?_; intro a hst
               refine q_not hst 19 rfl rfl c766 rfl ?_; intro a hst
               refine q_not hst 19 rfl rfl c766 rfl ?_; intro a hst
               refine q_not hst 19 rfl rfl c766 rfl ?_; intro a hst
               refine q_not hst 19 rfl rfl c766 rfl ?_; intro a hst
               refine q_not hst 19 rfl rfl c766 rfl ?_; intro a hst
               refine q_not hst 19 rfl rfl c766 rfl ?_; intro a hst
               refine q_not hst 19 rfl rfl c766 rfl ?_; intro a hst
               refine q_not hst 19 rfl rfl c766 rfl ?_; intro a hst
               refine q_t hst trivial rfl (fun _ hsh => x_pickF hst rfl c766 rfl) ?_; intro a hst
               exact hj _ ⟨false, H, hst.keep _ ⟨rfl, rfl, rfl, rfl, rfl, rfl, trivial⟩⟩
    · rw [if_neg c534] at H
      replace c534 := Bool.eq_false_iff.2 c534
      refine wq_condF hst rfl c534 ?_
      refine wq_exit ?_
      refine then_exit ?_
      refine then_exit ?_
      refine block_hit ?_
      obtain rfl := Option.some.inj H
      exact end0 hst rfl ⟨rfl, hsh.pick [0]⟩

set_option maxHeartbeats 4000000 in
set_option maxRecDepth 100000 in
theorem slices_siftDownOrdered_int.calls (k : Nat) (w : World) (GG : Nat → Prop) (va0 : Value) (a0 : (List Int)) (a1 : Int) (a2 : Int) (a3 : Int) (hsep : Sep GG w [Row (Kd.int .i64) 3 va0 a0]) (r : (List Int)) (h : slices_siftDownOrdered_int k a0 a1 a2 a3 = some r) :
    Calls Try.prog 83 ([va0, .int .i64 a1, .int .i64 a2, .int .i64 a3] : List Value).toArray w fun e w' => e = .returned (.tuple #[]) ∧ SH GG w w' [Row (Kd.int .i64) 3 va0 r] := by
 have H := h
 clear h
 unfold slices_siftDownOrdered_int at H
 refine calls_enter Try.func83 rfl rfl ?_
 intro a hst
 have hsh := SH.start hsep
 refine wq_seq ?_
 refine wq_region_lit (.inl rfl) ?_
 refine r_t hst trivial rfl (x_move hst rfl) ?_; intro a hst
 refine r_t hst trivial rfl (x_assign hst rfl) ?_; intro a hst
 refine wpL_nil ?_
 refine then_normal ?_
 refine wq_block ?_
 refine wq_loop_fuel (fun k_32 a w' => ∃ (l_16 : (List Int)), ∃ (i_17 : Int), slices_siftDownOrdered_int.l0 a2 a3 k_32 l_16 i_17 = some r ∧ ST [] Try.f83.ntmps a [(0, va0), (2, .int .i64 a2), (3, .int .i64 a3), (8, .int .i64 i_17)] ∧ SH GG w w' [Row (Kd.int .i64) 3 va0 l_16]) k ?_ ?_
 · exact ⟨a0, a1, H, hst.keep _ ⟨rfl, rfl, rfl, rfl, trivial⟩, hsh.pick [0]⟩
 · rintro k_32 a W_18 ⟨l_16, i_17, H, hst, hsh⟩
   cases k_32 with
   | zero => rw [slices_siftDownOrdered_int.l0] at H; cases H
   | succ k_32 =>
    rw [slices_siftDownOrdered_int.l0] at H
    refine wq_block ?_
    refine wq_seq ?_
    refine wq_region_lit (.inl rfl) ?_
    refine r_t hst trivial rfl (x_move hst rfl) ?_; intro a hst
    refine r_t hst trivial rfl (x_arI (r := w64 (2 * i_17)) hst rfl rfl rfl) ?_; intro a hst
    refine r_t hst trivial rfl (x_arI (r := w64 ((w64 (2 * i_17)) + 1)) hst rfl rfl rfl) ?_; intro a hst
    refine r_t hst trivial rfl (x_assign hst rfl) ?_; intro a hst
    refine wpL_nil ?_
    refine then_normal ?_
    refine wq_seq ?_
    refine wq_seq ?_
    refine wq_region_lit (.inl rfl) ?_
    refine r_t hst trivial rfl (x_move hst rfl) ?_; intro a hst
    refine r_t hst trivial rfl (x_move hst rfl) ?_; intro a hst
    refine r_t hst trivial rfl (x_cmpI (b := decide (a2 ≤ (w64 ((w64 (2 * i_17)) + 1)))) hst rfl rfl rfl) ?_; intro a hst
    refine wpL_nil ?_
    refine then_normal ?_
    by_cases c96 : (decide (a2 ≤ (w64 ((w64 (2 * i_17)) + 1)))) = true
    · rw [if_pos c96] at H
      refine wq_condT hst rfl c96 ?_
      refine wq_exit ?_
      refine then_exit ?_
      refine block_miss rfl ?_
      refine then_exit ?_
      refine block_hit ?_
      obtain rfl := Option.some.inj H
      exact end0 hst rfl ⟨rfl, hsh.pick [0]⟩
    · rw [if_neg c96] at H
      replace c96 := Bool.eq_false_iff.2 c96
      refine wq_condF hst rfl c96 ?_
      refine wq_skip ?_
      refine then_normal ?_
      obtain ⟨J_38, hJ_38, H⟩ := Jn.elim H
      refine wq_cut (fun a w' => ∃ (i_36 : Int), J_38 i_36 = some r ∧ ST [] Try.f83.ntmps a [(0, va0), (2, .int .i64 a2), (3, .int .i64 a3), (8, .int .i64 i_17), (9, .int .i64 i_36)] ∧ SH GG w w' [Row (Kd.int .i64) 3 va0 l_16]) ?_ ?_
      · rintro a W_37 ⟨i_36, H, hst, hsh⟩
        subst hJ_38
        dsimp only at H
        refine wq_seq ?_
        refine wq_seq ?_
        refine wq_region_q (.inl rfl) (fun w' => SH GG w w' [Row (Kd.int .i64) 3 va0 l_16]) (shut_sh _ _ _) hsh.drew fo (by kernel_rfl) ?_
        refine q_t hst trivial rfl (fun _ hsh => x_move hst rfl) ?_; intro a hst
        refine q_t hst trivial rfl (fun _ hsh => x_move hst rfl) ?_; intro a hst
        refine q_t hst trivial rfl (fun _ hsh => x_move hst rfl) ?_; intro a hst
        refine q_t hst trivial rfl (fun _ hsh => x_arI (r := w64 (a3 + i_17)) hst rfl rfl rfl) ?_; intro a hst
        obtain ⟨x114, hx114, H⟩ := Option.bind_eq_some_iff.1 H
        refine q_t hst trivial rfl (fun _ hsh => x_indexAddr hst Try.underlying56 el_3 rfl rfl (hsh.row 0 rfl) hx114) ?_; intro a hst
        refine q_t hst trivial rfl (fun _ hsh => x_loadEF (j := 0) (cs := [.int .i64 x114]) hst sc_3 rfl (hsh.row 0 rfl) (Same.refl _ _) hx114 rfl (fun _ h => h) rfl) ?_; intro a hst
        refine q_t hst trivial rfl (fun _ hsh => x_move hst rfl) ?_; intro a hst
        refine q_t hst trivial rfl (fun _ hsh => x_move hst rfl) ?_; intro a hst
        refine q_t hst trivial rfl (fun _ hsh => x_move hst rfl) ?_; intro a hst
        refine q_t hst trivial rfl (fun _ hsh => x_arI (r := w64 (a3 + i_36)) hst rfl rfl rfl) ?_; intro a hst
        obtain ⟨x115, hx115, H⟩ := Option.bind_eq_some_iff.1 H
        refine q_t hst trivial rfl (fun _ hsh => x_indexAddr hst Try.underlying56 el_3 rfl rfl (hsh.row 0 rfl) hx115) ?_; intro a hst
        refine q_t hst trivial rfl (fun _ hsh => x_loadEF (j := 0) (cs := [.int .i64 x115]) hst sc_3 rfl (hsh.row 0 rfl) (Same.refl _ _) hx115 rfl (fun _ h => h) rfl) ?_; intro a hst
        obtain ⟨r116, hr116, H⟩ := Option.bind_eq_some_iff.1 H
        refine q_call hst trivial rfl fn_76 rfl (fun w9 hsh => cmp_Less_int.calls _ x114 x115 r116 hr116) ?_; intro a hst
        refine q_t hst trivial rfl (fun _ hsh => x_notB hst rfl) ?_; intro a hst
        refine q_nil ?_
        intro w118 hsh
        refine then_normal ?_
        by_cases c119 : (!r116) = true
        · rw [if_pos c119] at H
          refine wq_condT hst rfl c119 ?_
          refine wq_ret ?_
          refine then_ret ?_
          refine block_ret ?_
          refine then_ret ?_
          refine block_ret ?_
          obtain rfl := Option.some.inj H
          exact ret0 hst rfl ⟨rfl, hsh.pick [0]⟩
        · rw [if_neg c119] at H
          replace c119 := Bool.eq_false_iff.2 c119
          refine wq_condF hst rfl c119 ?_
          refine wq_skip ?_
          refine then_normal ?_
          refine wq_seq ?_
          have hw119_0 := hsh.row 0 rfl
          refine wq_region_t (.inl rfl) (.fin [(3, 0), (3, 1), (3, 2), (3, 3), (3, 4), (3, 5), (3, 6), (3, 7), (3, 8), (3, 9), (3, 10), (3, 11), (3, 12), (0, 13), (3, 14), (3, 15), (3, 16), (3, 17), (3, 18), (0, 19), (3, 20), (2, 21), (0, 22), (2, 23)]) (fun w' => SH GG w w' []) (fun w' => SH GG w w' [Row (Kd.int .i64) 3 va0 l_16]) (fun w' => SH GG w w' [Row (Kd.int .i64) 3 va0 l_16]) (shut_sh _ _ _) (shut_sh _ _ _) (shut_sh _ _ _) (sub_sh [] rfl) (sub_sh [0] rfl) hsh.drew fo (by kernel_rfl) ?_
          refine t_fin ?_
          refine m_p hst trivial rfl (fun _ => x_move hst rfl) ?_; intro a hst
          refine m_p hst trivial rfl (fun _ => x_move hst rfl) ?_; intro a hst
          refine m_p hst trivial rfl (fun _ => x_move hst rfl) ?_; intro a hst
          refine m_p hst trivial rfl (fun _ => x_arI (r := w64 (a3 + i_17)) hst rfl rfl rfl) ?_; intro a hst
          refine m_p hst trivial rfl (fun _ => x_move hst rfl) ?_; intro a hst
          refine m_p hst trivial rfl (fun _ => x_move hst rfl) ?_; intro a hst
          refine m_p hst trivial rfl (fun _ => x_move hst rfl) ?_; intro a hst
          refine m_p hst trivial rfl (fun _ => x_arI (r := w64 (a3 + i_36)) hst rfl rfl rfl) ?_; intro a hst
          refine m_p hst trivial rfl (fun _ => x_move hst rfl) ?_; intro a hst
          refine m_p hst trivial rfl (fun _ => x_move hst rfl) ?_; intro a hst
          refine m_p hst trivial rfl (fun _ => x_move hst rfl) ?_; intro a hst
          refine m_p hst trivial rfl (fun _ => x_arI (r := w64 (a3 + i_36)) hst rfl rfl rfl) ?_; intro a hst
          obtain ⟨x120, hx120, H⟩ := Option.bind_eq_some_iff.1 H
          refine m_p hst trivial rfl (fun _ => x_indexAddr hst Try.underlying56 el_3 rfl rfl hw119_0 hx120) ?_; intro a hst
          refine m_t hst trivial rfl (fun _ hsh => x_loadEF (j := 0) (cs := [.int .i64 x120]) hst sc_3 rfl (hsh.row 0 rfl) (Same.refl _ _) hx120 rfl (fun _ h => h) rfl) ?_; intro a hst
          refine m_p hst trivial rfl (fun _ => x_move hst rfl) ?_; intro a hst
          refine m_p hst trivial rfl (fun _ => x_move hst rfl) ?_; intro a hst
          refine m_p hst trivial rfl (fun _ => x_move hst rfl) ?_; intro a hst
          refine m_p hst trivial rfl (fun _ => x_arI (r := w64 (a3 + i_17)) hst rfl rfl rfl) ?_; intro a hst
          obtain ⟨x121, hx121, H⟩ := Option.bind_eq_some_iff.1 H
          refine m_p hst trivial rfl (fun _ => x_indexAddr hst Try.underlying56 el_3 rfl rfl hw119_0 hx121) ?_; intro a hst
          refine m_t hst trivial rfl (fun _ hsh => x_loadEF (j := 0) (cs := [.int .i64 x121]) hst sc_3 rfl (hsh.row 0 rfl) (Same.refl _ _) hx121 rfl (fun _ h => h) rfl) ?_; intro a hst
          obtain ⟨x122, hx122, H⟩ := Option.bind_eq_some_iff.1 H
          refine m_p hst trivial rfl (fun _ => x_indexAddr hst Try.underlying56 el_3 rfl rfl hw119_0 hx122) ?_; intro a hst
          refine m_loud (.inr rfl) ?_
          intro w123 hsh
          obtain ⟨l124, hl124, H⟩ := Option.bind_eq_some_iff.1 H
          refine r_storeE (i := 0) (off := 0) (new := x120) (cs' := [.int .i64 x120]) hst hsh trivial sc_3 rfl rfl rfl hx122 rfl (Nat.le_of_ble_eq_true rfl) rfl (fun _ _ _ h => by rw [h]; rfl) (fun _ _ => rfl) ?_; intro a w125 hsh hst
          rw [← upd_some hl124] at hsh
          refine m_turn hsh (sub_sh [] rfl) ?_
          obtain ⟨x126, hx126, H⟩ := Option.bind_eq_some_iff.1 H
          refine m_t hst trivial rfl (fun _ hsh => x_indexAddr hst Try.underlying56 el_3 rfl rfl (hsh.row 0 rfl) hx126) ?_; intro a hst
          refine m_loud (.inr rfl) ?_
          intro w127 hsh
          obtain ⟨l128, hl128, H⟩ := Option.bind_eq_some_iff.1 H
          refine r_storeE (i := 0) (off := 0) (new := x121) (cs' := [.int .i64 x121]) hst hsh trivial sc_3 rfl rfl rfl hx126 rfl (Nat.le_of_ble_eq_true rfl) rfl (fun _ _ _ h => by rw [h]; rfl) (fun _ _ => rfl) ?_; intro a w129 hsh hst
          rw [← upd_some hl128] at hsh
          refine m_turn hsh (sub_sh [] rfl) ?_
          refine m_nil ?_
          intro w130 hsh
          refine qn_normal ?_
          refine then_normal ?_
          refine wq_region_lit (.inl rfl) ?_
          refine r_t hst trivial rfl (x_move hst rfl) ?_; intro a hst
          refine r_t hst trivial rfl (x_assign hst rfl) ?_; intro a hst
          refine wpL_nil ?_
          refine block_normal ?_
          refine then_normal ?_
          exact ⟨k_32, Nat.lt_succ_self _, l128, i_36, H, hst.keep _ ⟨rfl, rfl, rfl, rfl, trivial⟩, hsh.pick [0]⟩
      · refine wq_seq ?_
        refine wq_region_q (.inl rfl) (fun w' => SH GG w w' [Row (Kd.int .i64) 3 va0 l_16]) (shut_sh _ _ _) hsh.drew fo (by kernel_rfl) ?_
        refine q_t hst trivial rfl (fun _ hsh => x_move hst rfl) ?_; intro a hst
        refine q_t hst trivial rfl (fun _ hsh => x_arI (r := w64 ((w64 ((w64 (2 * i_17)) + 1)) + 1)) hst rfl rfl rfl) ?_; intro a hst
        refine q_t hst trivial rfl (fun _ hsh => x_move hst rfl) ?_; intro a hst
        refine q_t hst trivial rfl (fun _ hsh => x_cmpI (b := decide ((w64 ((w64 ((w64 (2 * i_17)) + 1)) + 1)) < a2)) hst rfl rfl rfl) ?_; intro a hst
        refine q_t hst trivial rfl (fun _ hsh => x_move hst rfl) ?_; intro a hst
        obtain ⟨J_40, hJ_40, H⟩ := Jn.elim H
        refine q_join 20 (fun a => ∃ (b_39 : Bool), J_40 b_39 = some r ∧ ST [] Try.f83.ntmps a [(0, va0), (2, .int .i64 a2), (3, .int .i64 a3), (8, .int .i64 i_17), (9, .int .i64 (w64 ((w64 (2 * i_17)) + 1))), (36, .bool b_39)]) ?_ ?_
        · rintro a ⟨b_39, H, hst⟩
          subst hJ_40
          dsimp only at H
          refine q_nil ?_
          intro w136 hsh
          refine then_normal ?_
          by_cases c137 : b_39 = true
          · rw [if_pos c137] at H
            refine wq_condT hst rfl c137 ?_
            refine wq_region_lit (.inl rfl) ?_
            refine r_t hst trivial rfl (x_move hst rfl) ?_; intro a hst
            refine r_t hst trivial rfl (x_arI (r := w64 ((w64 ((w64 (2 * i_17)) + 1)) + 1)) hst rfl rfl rfl) ?_; intro a hst
            refine r_t hst trivial rfl (x_assign hst rfl) ?_; intro a hst
            refine wpL_nil ?_
            refine then_normal ?_
            exact ⟨(w64 ((w64 ((w64 (2 * i_17)) + 1)) + 1)), H, hst.keep _ ⟨rfl, rfl, rfl, rfl, rfl, trivial⟩, hsh.pick [0]⟩
          · rw [if_neg c137] at H
            replace c137 := Bool.eq_false_iff.2 c137
            refine wq_condF hst rfl c137 ?_
            refine wq_skip ?_
            refine then_normal ?_
            exact ⟨(w64 ((w64 (2 * i_17)) + 1)), H, hst.keep _ ⟨rfl, rfl, rfl, rfl, rfl, trivial⟩, hsh.pick [0]⟩
        · intro hj
          by_cases c131 : (decide ((w64 ((w64 ((w64 (2 * i_17)) + 1)) + 1)) < a2)) = true
          · rw [if_pos c131] at H
            refine q_t hst (wt_of 21 rfl rfl c131) rfl (fun _ hsh => x_move hst rfl) ?_; intro a hst
            refine q_t hst (wt_of 21 rfl rfl c131) rfl (fun _ hsh => x_move hst rfl) ?_; intro a hst
            refine q_t hst (wt_of 21 rfl rfl c131) rfl (fun _ hsh => x_move hst rfl) ?_; intro a hst
            refine q_t hst (wt_of 21 rfl rfl c131) rfl (fun _ hsh => x_arI (r := w64 (a3 + (w64 ((w64 (2 * i_17)) + 1)))) hst rfl rfl rfl) ?_; intro a hst
            obtain ⟨x138, hx138, H⟩ := Option.bind_eq_some_iff.1 H
            refine q_t hst (wt_of 21 rfl rfl c131) rfl (fun _ hsh => x_indexAddr hst Try.underlying56 el_3 rfl rfl (hsh.row 0 rfl) hx138) ?_; intro a hst
            refine q_t hst (wt_of 21 rfl rfl c131) rfl (fun _ hsh => x_loadEF (j := 0) (cs := [.int .i64 x138]) hst sc_3 rfl (hsh.row 0 rfl) (Same.refl _ _) hx138 rfl (fun _ h => h) rfl) ?_; intro a hst
            refine q_t hst (wt_of 21 rfl rfl c131) rfl (fun _ hsh => x_move hst rfl) ?_; intro a hst
            refine q_t hst (wt_of 21 rfl rfl c131) rfl (fun _ hsh => x_move hst rfl) ?_; intro a hst
            refine q_t hst (wt_of 21 rfl rfl c131) rfl (fun _ hsh => x_move hst rfl) ?_; intro a hst
            refine q_t hst (wt_of 21 rfl rfl c131) rfl (fun _ hsh => x_arI (r := w64 (a3 + (w64 ((w64 (2 * i_17)) + 1)))) hst rfl rfl rfl) ?_; intro a hst
            refine q_t hst (wt_of 21 rfl rfl c131) rfl (fun _ hsh => x_arI (r := w64 ((w64 (a3 + (w64 ((w64 (2 * i_17)) + 1)))) + 1)) hst rfl rfl rfl) ?_; intro a hst
            obtain ⟨x139, hx139, H⟩ := Option.bind_eq_some_iff.1 H
            refine q_t hst (wt_of 21 rfl rfl c131) rfl (fun _ hsh => x_indexAddr hst Try.underlying56 el_3 rfl rfl (hsh.row 0 rfl) hx139) ?_; intro a hst
            refine q_t hst (wt_of 21 rfl rfl c131) rfl (fun _ hsh => x_loadEF (j := 0) (cs := [.int .i64 x139]) hst sc_3 rfl (hsh.row 0 rfl) (Same.refl _ _) hx139 rfl (fun _ h => h) rfl) ?_; intro a hst
            obtain ⟨r140, hr140, H⟩ := Option.bind_eq_some_iff.1 H
            refine q_call hst (wt_of 21 rfl rfl c131) rfl fn_76 rfl (fun w9 hsh => cmp_Less_int.calls _ x138 x139 r140 hr140) ?_; intro a hst
            refine q_t hst trivial rfl (fun _ hsh => x_pickT hst rfl c131 rfl) ?_; intro a hst
            exact hj _ ⟨r140, H, hst.keep _ ⟨rfl, rfl, rfl, rfl, rfl, rfl, trivial⟩⟩
          · rw [if_neg c131] at H
            replace c131 := Bool.eq_false_iff.2 c131
            refine q_not hst 21 rfl rfl c131 rfl ?_; intro a hst
            refine q_not hst 21 rfl rfl c131 rfl ?_; intro a hst
            refine q_not hst 21 rfl rfl c131 rfl ?_; intro a hst
            refine q_not hst 21 rfl rfl c131 rfl ?_; intro a hst
            refine q_not hst 21 rfl rfl c131 rfl ?_; intro a hst
            refine q_not hst 21 rfl rfl c131 rfl ?_; intro a hst
            refine q_not hst 21 rfl rfl c131 rfl ?_; intro a hst
            refine q_not hst 21 rfl rfl c131 rfl ?_; intro a hst
            refine q_not hst 21 rfl rfl c131 rfl ?_; intro a hst
            refine q_not hst 21 rfl rfl c131 rfl ?_; intro a hst
            refine q_not hst 21 rfl rfl c131 rfl ?_; intro a hst
            refine q_not hst 21 rfl rfl c131 rfl ?_; intro a hst
            refine q_not hst 21 rfl rfl c131 rfl ?_; intro a hst
            refine q_not hst 21 rfl rfl c131 rfl ?_; intro a hst
            refine q_t hst trivial rfl (fun _ hsh => x_pickF hst rfl c131 rfl) ?_; intro a hst
            exact hj _ ⟨false, H, hst.keep _ ⟨rfl, rfl, rfl, rfl, rfl, rfl, trivial⟩⟩
end Go.Proofs.Ytbbepmmelpabbaa.Mo
