/- Printed by gen.py: contracts. -/
import Derived.Test.YtbbepmmelpabbaaVerKd
set_option linter.unusedVariables false
set_option linter.unusedSectionVars false
set_option linter.unusedSimpArgs false
set_option maxRecDepth 100000
namespace Go.Proofs.Ytbbepmmelpabbaa.Mo
open Go Go.Proofs.Ytbbepmmelpabbaa.Sy
open Go.Proofs
set_option maxHeartbeats 4000000 in
set_option maxRecDepth 100000 in
theorem l16_names.calls (w : World)  (r : Bool) (h : l16_names = some r) :
    Calls Try.prog 10 ([] : List Value).toArray w fun e w' => e = .returned (.bool r) ∧ SH (fun _ => False) w w' [] := by
 have H := h
 clear h
 unfold l16_names at H
 refine calls_enter Try.func10 rfl rfl ?_
 intro a hst
 have hsh := SH.zero (fun _ => False) w
 refine wq_seq ?_
 refine wq_region_lit (.inl rfl) ?_
 refine r_t hst trivial rfl (x_assign hst rfl) ?_; intro a hst
 refine wpL_nil ?_
 refine then_normal ?_
 refine wq_seq ?_
 refine wq_region_lit (.inl rfl) ?_
 refine r_t hst trivial rfl (x_assign hst rfl) ?_; intro a hst
 refine wpL_nil ?_
 refine then_normal ?_
 refine wq_ret ?_
 obtain rfl := Option.some.inj H
 exact ret1 hst rfl rfl ⟨rfl, hsh.pick []⟩

set_option maxHeartbeats 4000000 in
set_option maxRecDepth 100000 in
theorem l16_copied.calls (k : Nat) (w : World) (va0 : Value) (Za0 : Nat → Prop) (wra0 : World) (hsa0 : Same Za0 wra0 w) (a0 : (List (List File))) (hra0 : RD (Kd.slice 43 k_File) Za0 wra0 va0 a0) (r : (List (List File))) (h : l16_copied k a0 = some r) :
    Calls Try.prog 11 ([va0] : List Value).toArray w fun e w' => ∃ v0_ : Value, e = .returned (v0_) ∧ SH (fun _ => False) w w' [Row (Kd.slice 43 k_File) 39 v0_ r] := by
 have H := h
 clear h
 unfold l16_copied at H
 refine calls_enter Try.func11 rfl rfl ?_
 intro a hst
 have hsh := SH.zero (fun _ => False) w
 refine wq_seq ?_
 refine wq_region_lit (.inl rfl) ?_
 refine r_t hst trivial rfl (x_assign hst rfl) ?_; intro a hst
 refine wpL_nil ?_
 refine then_normal ?_
 refine wq_seq ?_
 refine wq_region_lit (.inl rfl) ?_
 refine r_buildSlice (vs := []) (cs := []) hst hsh trivial rfl Try.underlying23 el_39 rfl rfl (by simp [Value.cells]) rfl rfl ?_
 intro g1 a w2 hgg1 hsh hst
 replace hsh := hsh.pick [0]
 replace hsh : SH (fun _ => False) w w2 [Row (Kd.slice 43 k_File) 39 (.slice (some ⟨g1, 0, none⟩) 0 0) ([])] := SH.boxRowM (C := []) ([] : List (List File)) hsh ef_nil rfl rfl (by decide)
 refine r_t hst trivial rfl (x_assign hst rfl) ?_; intro a hst
 refine wpL_nil ?_
 refine then_normal ?_
 refine wq_seq ?_
 refine wq_seq ?_
 refine wq_region_lit (.inl rfl) ?_
 refine r_t hst trivial rfl (x_assign hst rfl) ?_; intro a hst
 refine wpL_nil ?_
 refine then_normal ?_
 refine wq_block ?_
 refine wq_loop_fuel (fun k_28 a w' => ∃ (v_20 : Value), ∃ (l_21 : (List (List File))), ∃ (i_22 : Int), l16_copied.l0 a0 k_28 l_21 i_22 = some r ∧ ST [] Try.f11.ntmps a [(0, va0), (2, (.slice none 0 0)), (3, v_20), (4, .int .i64 i_22)] ∧ SH (fun _ => False) w w' [Row (Kd.slice 43 k_File) 39 v_20 l_21]) k ?_ ?_
 · exact ⟨(.slice (some ⟨g1, 0, none⟩) 0 0), ([]), 0, H, hst.keep _ ⟨rfl, rfl, rfl, rfl, trivial⟩, hsh.pick [0]⟩
 · rintro k_28 a W_23 ⟨v_20, l_21, i_22, H, hst, hsh⟩
   cases k_28 with
   | zero => rw [l16_copied.l0] at H; cases H
   | succ k_28 =>
    rw [l16_copied.l0] at H
    refine wq_seq ?_
    refine wq_seq ?_
    refine wq_region_lit (.inl rfl) ?_
    refine r_t hst trivial rfl (x_move hst rfl) ?_; intro a hst
    refine r_t hst trivial rfl (x_move hst rfl) ?_; intro a hst
    refine r_t hst trivial rfl (x_lenSl hst Try.underlying23 rfl hra0.slen) ?_; intro a hst
    refine r_t hst trivial rfl (x_cmpI (b := decide (i_22 < (a0.length : Int))) hst rfl rfl rfl) ?_; intro a hst
    refine wpL_nil ?_
    refine then_normal ?_
    by_cases c175 : (decide (i_22 < (a0.length : Int))) = true
    · rw [if_pos c175] at H
      refine wq_condT hst rfl c175 ?_
      refine wq_skip ?_
      refine then_normal ?_
      refine wq_seq ?_
      refine wq_block ?_
      refine wq_region_lit (.inl rfl) ?_
      refine r_t hst trivial rfl (x_move hst rfl) ?_; intro a hst
      refine r_buildSlice (vs := []) (cs := []) hst hsh trivial rfl Try.underlying39 el_43 rfl rfl (by simp [Value.cells]) rfl rfl ?_
      intro g192 a w193 hgg192 hsh hst
      replace hsh := hsh.pick [0, 0]
      replace hsh : SH (fun _ => False) w w193 [Row k_File 43 (.slice (some ⟨g192, 0, none⟩) 0 0) ([]), Row (Kd.slice 43 k_File) 39 v_20 l_21] := SH.boxRow ([] : List File) hsh rfl rfl rfl
      refine r_t hst trivial rfl (x_move hst rfl) ?_; intro a hst
      refine r_t hst trivial rfl (x_move hst rfl) ?_; intro a hst
      obtain ⟨x195, hx195, H⟩ := Option.bind_eq_some_iff.1 H
      refine r_t hst trivial rfl (x_indexAddr hst Try.underlying23 el_39 rfl rfl hra0 hx195) ?_; intro a hst
      obtain ⟨_, hk196, hc197⟩ := RD.cells2 hra0 hx195
      obtain ⟨v198, rfl, hr199⟩ := hk196
      refine r_t hst trivial rfl (x_loadC hst sc_39 rfl (hc197 _ (Same.sh0 hsa0 hsh) 0 _ rfl)) ?_; intro a hst
      replace hsh := hsh.pick [0, 0]
      obtain ⟨l200, hl200, H⟩ := Option.bind_eq_some_iff.1 H
      refine r_appendN (M := [Row (Kd.slice 43 k_File) 39 v_20 l_21]) hst hsh trivial rfl Try.underlying39 el_43 (by decide) (by decide) (by decide) rfl rfl (flat_flat _ _ _ _) hr199 (Same.sh0 hsa0 hsh) hl200 ?_
      intro v201 a w202 hsh hst
      refine r_buildSlice (vs := [v201]) (cs := [v201]) hst hsh trivial rfl Try.underlying23 el_39 rfl rfl (by simp [cells_sl, cells_slen (hsh.row 0 rfl).slen]) rfl (by simp [cells_sl, cells_slen (hsh.row 0 rfl).slen]) ?_
      intro g203 a w204 hgg203 hsh hst
      replace hsh := hsh.pick [2, 0, 0]
      obtain ⟨l205, hl205, H⟩ := Option.bind_eq_some_iff.1 H
      refine r_append1 (xx := l200) (C := [Row k_File 43 v201 l200]) (M := []) hst hsh trivial rfl Try.underlying23 el_39 (by decide) (by decide) (by decide) rfl rfl mf_slice hl205 ?_
      intro v206 a w207 hsh hst
      refine r_t hst trivial rfl (x_assign hst rfl) ?_; intro a hst
      refine wpL_nil ?_
      refine block_normal ?_
      refine then_normal ?_
      refine wq_region_lit (.inl rfl) ?_
      refine r_t hst trivial rfl (x_move hst rfl) ?_; intro a hst
      refine r_t hst trivial rfl (x_arI (r := w64 (i_22 + 1)) hst rfl rfl rfl) ?_; intro a hst
      refine r_t hst trivial rfl (x_assign hst rfl) ?_; intro a hst
      refine wpL_nil ?_
      refine then_normal ?_
      exact ⟨k_28, Nat.lt_succ_self _, v206, l205, (w64 (i_22 + 1)), H, hst.keep _ ⟨rfl, rfl, rfl, rfl, trivial⟩, hsh.pick [0]⟩
    · rw [if_neg c175] at H
      replace c175 := Bool.eq_false_iff.2 c175
      refine wq_condF hst rfl c175 ?_
      refine wq_exit ?_
      refine then_exit ?_
      refine then_exit ?_
      refine block_hit ?_
      refine then_normal ?_
      refine wq_seq ?_
      refine wq_region_lit (.inl rfl) ?_
      refine r_t hst trivial rfl (x_move hst rfl) ?_; intro a hst
      refine r_t hst trivial rfl (x_assign hst rfl) ?_; intro a hst
      refine wpL_nil ?_
      refine then_normal ?_
      refine wq_ret ?_
      obtain rfl := Option.some.inj H
      exact ret1 hst rfl rfl ⟨v_20, rfl, hsh.pick [0]⟩

set_option maxHeartbeats 4000000 in
set_option maxRecDepth 100000 in
theorem version_may.calls (w : World) (a0 : File) (r : Bool) (h : version_may a0 = some r) :
    Calls Try.prog 37 ([.agg #[.int .i64 a0.Number, .int .i64 a0.Size, .string a0.Least, .string a0.Limit, .int .u64 a0.Low, .int .u64 a0.High]] : List Value).toArray w fun e w' => e = .returned (.bool r) ∧ SH (fun _ => False) w w' [] := by
 have H := h
 clear h
 unfold version_may at H
 refine calls_enter Try.func37 rfl rfl ?_
 intro a hst
 have hsh := SH.zero (fun _ => False) w
 refine wq_seq ?_
 refine wq_region_lit (.inl rfl) ?_
 refine r_box hst hsh trivial rfl rfl rfl ?_
 intro g1 a w2 hgg1 hsh hst
 refine r_t hst trivial rfl (x_assign hst rfl) ?_; intro a hst
 refine wpL_nil ?_
 refine then_normal ?_
 refine wq_seq ?_
 refine wq_region_lit (.inl rfl) ?_
 refine r_t hst trivial rfl (x_fieldAddr (j' := 0) hst fa_43_0 rfl rfl) ?_; intro a hst
 refine r_t hst trivial rfl (x_loadB (i := 0) hst hsh sc_3 rfl rfl rfl) ?_; intro a hst
 refine r_t hst trivial rfl (x_cmpI (b := decide (1 ≤ a0.Number)) hst rfl rfl rfl) ?_; intro a hst
 refine r_t hst trivial rfl (x_move hst rfl) ?_; intro a hst
 refine wl_join0 (Δ := []) (N := Try.f37.ntmps) 8 [(1, .pointer (some ⟨g1, 0, none⟩)), (2, .bool false), (10, .bool ((decide (1 ≤ a0.Number)) && (decide (a0.Number ≤ 2147483647))))] ?_ ?_
 · intro a hst
   refine r_t hst trivial rfl (x_move hst rfl) ?_; intro a hst
   refine wl_join0 (Δ := []) (N := Try.f37.ntmps) 13 [(1, .pointer (some ⟨g1, 0, none⟩)), (2, .bool false), (15, .bool (((decide (1 ≤ a0.Number)) && (decide (a0.Number ≤ 2147483647))) && (decide (1 ≤ a0.Size))))] ?_ ?_
   · intro a hst
     refine r_t hst trivial rfl (x_move hst rfl) ?_; intro a hst
     refine wl_join0 (Δ := []) (N := Try.f37.ntmps) 18 [(1, .pointer (some ⟨g1, 0, none⟩)), (2, .bool false), (20, .bool ((((decide (1 ≤ a0.Number)) && (decide (a0.Number ≤ 2147483647))) && (decide (1 ≤ a0.Size))) && (decide (a0.Size ≤ 268435456))))] ?_ ?_
     · intro a hst
       refine r_t hst trivial rfl (x_move hst rfl) ?_; intro a hst
       refine wl_join0 (Δ := []) (N := Try.f37.ntmps) 24 [(1, .pointer (some ⟨g1, 0, none⟩)), (2, .bool false), (26, .bool (((((decide (1 ≤ a0.Number)) && (decide (a0.Number ≤ 2147483647))) && (decide (1 ≤ a0.Size))) && (decide (a0.Size ≤ 268435456))) && (decide (1 ≤ (a0.Least.size : Int)))))] ?_ ?_
       · intro a hst
         refine r_t hst trivial rfl (x_move hst rfl) ?_; intro a hst
         refine wl_join0 (Δ := []) (N := Try.f37.ntmps) 30 [(1, .pointer (some ⟨g1, 0, none⟩)), (2, .bool false), (32, .bool ((((((decide (1 ≤ a0.Number)) && (decide (a0.Number ≤ 2147483647))) && (decide (1 ≤ a0.Size))) && (decide (a0.Size ≤ 268435456))) && (decide (1 ≤ (a0.Least.size : Int)))) && (decide ((a0.Least.size : Int) ≤ 1024))))] ?_ ?_
         · intro a hst
           refine r_t hst trivial rfl (x_move hst rfl) ?_; intro a hst
           refine wl_join0 (Δ := []) (N := Try.f37.ntmps) 37 [(1, .pointer (some ⟨g1, 0, none⟩)), (2, .bool false), (39, .bool (((((((decide (1 ≤ a0.Number)) && (decide (a0.Number ≤ 2147483647))) && (decide (1 ≤ a0.Size))) && (decide (a0.Size ≤ 268435456))) && (decide (1 ≤ (a0.Least.size : Int)))) && (decide ((a0.Least.size : Int) ≤ 1024))) && (sLt a0.Least a0.Limit)))] ?_ ?_
           · intro a hst
             refine r_t hst trivial rfl (x_move hst rfl) ?_; intro a hst
             refine wl_join0 (Δ := []) (N := Try.f37.ntmps) 43 [(1, .pointer (some ⟨g1, 0, none⟩)), (2, .bool false), (45, .bool ((((((((decide (1 ≤ a0.Number)) && (decide (a0.Number ≤ 2147483647))) && (decide (1 ≤ a0.Size))) && (decide (a0.Size ≤ 268435456))) && (decide (1 ≤ (a0.Least.size : Int)))) && (decide ((a0.Least.size : Int) ≤ 1024))) && (sLt a0.Least a0.Limit)) && (decide ((a0.Limit.size : Int) ≤ 1025))))] ?_ ?_
             · intro a hst
               refine r_t hst trivial rfl (x_move hst rfl) ?_; intro a hst
               refine wl_join0 (Δ := []) (N := Try.f37.ntmps) 48 [(1, .pointer (some ⟨g1, 0, none⟩)), (2, .bool false), (50, .bool (((((((((decide (1 ≤ a0.Number)) && (decide (a0.Number ≤ 2147483647))) && (decide (1 ≤ a0.Size))) && (decide (a0.Size ≤ 268435456))) && (decide (1 ≤ (a0.Least.size : Int)))) && (decide ((a0.Least.size : Int) ≤ 1024))) && (sLt a0.Least a0.Limit)) && (decide ((a0.Limit.size : Int) ≤ 1025))) && (decide (1 ≤ a0.Low))))] ?_ ?_
               · intro a hst
                 refine r_t hst trivial rfl (x_move hst rfl) ?_; intro a hst
                 refine wl_join0 (Δ := []) (N := Try.f37.ntmps) 55 [(1, .pointer (some ⟨g1, 0, none⟩)), (2, .bool false), (57, .bool ((((((((((decide (1 ≤ a0.Number)) && (decide (a0.Number ≤ 2147483647))) && (decide (1 ≤ a0.Size))) && (decide (a0.Size ≤ 268435456))) && (decide (1 ≤ (a0.Least.size : Int)))) && (decide ((a0.Least.size : Int) ≤ 1024))) && (sLt a0.Least a0.Limit)) && (decide ((a0.Limit.size : Int) ≤ 1025))) && (decide (1 ≤ a0.Low))) && (decide (a0.Low ≤ a0.High))))] ?_ ?_
                 · intro a hst
                   refine r_t hst trivial rfl (x_move hst rfl) ?_; intro a hst
                   refine wl_join0 (Δ := []) (N := Try.f37.ntmps) 60 [(2, .bool false), (62, .bool (((((((((((decide (1 ≤ a0.Number)) && (decide (a0.Number ≤ 2147483647))) && (decide (1 ≤ a0.Size))) && (decide (a0.Size ≤ 268435456))) && (decide (1 ≤ (a0.Least.size : Int)))) && (decide ((a0.Least.size : Int) ≤ 1024))) && (sLt a0.Least a0.Limit)) && (decide ((a0.Limit.size : Int) ≤ 1025))) && (decide (1 ≤ a0.Low))) && (decide (a0.Low ≤ a0.High))) && (decide (a0.High ≤ 72057594037927935))))] ?_ ?_
                   · intro a hst
                     refine r_t hst trivial rfl (x_assign hst rfl) ?_; intro a hst
                     refine wpL_nil ?_
                     refine then_normal ?_
                     refine wq_ret ?_
                     obtain rfl := Option.some.inj H
                     exact ret1 hst rfl rfl ⟨rfl, hsh.pick []⟩
                   · intro hj
                     by_cases c12 : ((((((((((decide (1 ≤ a0.Number)) && (decide (a0.Number ≤ 2147483647))) && (decide (1 ≤ a0.Size))) && (decide (a0.Size ≤ 268435456))) && (decide (1 ≤ (a0.Least.size : Int)))) && (decide ((a0.Least.size : Int) ≤ 1024))) && (sLt a0.Least a0.Limit)) && (decide ((a0.Limit.size : Int) ≤ 1025))) && (decide (1 ≤ a0.Low))) && (decide (a0.Low ≤ a0.High))) = true
                     · refine r_t hst (wt_of 58 rfl rfl c12) rfl (x_fieldAddr (j' := 5) hst fa_43_5 rfl rfl) ?_; intro a hst
                       refine r_t hst (wt_of 58 rfl rfl c12) rfl (x_loadB (i := 0) hst hsh sc_24 rfl rfl rfl) ?_; intro a hst
                       refine r_t hst (wt_of 58 rfl rfl c12) rfl (x_cmpI (b := decide (a0.High ≤ 72057594037927935)) hst rfl rfl rfl) ?_; intro a hst
                       refine r_t hst trivial rfl (x_andT hst rfl c12 rfl) ?_; intro a hst
                       exact hj _ (hst.keep _ ⟨rfl, rfl, trivial⟩)
                     · replace c12 := Bool.eq_false_iff.2 c12
                       refine r_not hst 58 rfl rfl c12 rfl ?_; intro a hst
                       refine r_not hst 58 rfl rfl c12 rfl ?_; intro a hst
                       refine r_not hst 58 rfl rfl c12 rfl ?_; intro a hst
                       refine r_t hst trivial rfl (x_andF (decide (a0.High ≤ 72057594037927935)) hst rfl c12 rfl) ?_; intro a hst
                       exact hj _ (hst.keep _ ⟨rfl, rfl, trivial⟩)
                 · intro hj
                   by_cases c11 : (((((((((decide (1 ≤ a0.Number)) && (decide (a0.Number ≤ 2147483647))) && (decide (1 ≤ a0.Size))) && (decide (a0.Size ≤ 268435456))) && (decide (1 ≤ (a0.Least.size : Int)))) && (decide ((a0.Least.size : Int) ≤ 1024))) && (sLt a0.Least a0.Limit)) && (decide ((a0.Limit.size : Int) ≤ 1025))) && (decide (1 ≤ a0.Low))) = true
                   · refine r_t hst (wt_of 51 rfl rfl c11) rfl (x_fieldAddr (j' := 4) hst fa_43_4 rfl rfl) ?_; intro a hst
                     refine r_t hst (wt_of 51 rfl rfl c11) rfl (x_loadB (i := 0) hst hsh sc_24 rfl rfl rfl) ?_; intro a hst
                     refine r_t hst (wt_of 51 rfl rfl c11) rfl (x_fieldAddr (j' := 5) hst fa_43_5 rfl rfl) ?_; intro a hst
                     refine r_t hst (wt_of 51 rfl rfl c11) rfl (x_loadB (i := 0) hst hsh sc_24 rfl rfl rfl) ?_; intro a hst
                     refine r_t hst (wt_of 51 rfl rfl c11) rfl (x_cmpI (b := decide (a0.Low ≤ a0.High)) hst rfl rfl rfl) ?_; intro a hst
                     refine r_t hst trivial rfl (x_andT hst rfl c11 rfl) ?_; intro a hst
                     exact hj _ (hst.keep _ ⟨rfl, rfl, rfl, trivial⟩)
                   · replace c11 := Bool.eq_false_iff.2 c11
                     refine r_not hst 51 rfl rfl c11 rfl ?_; intro a hst
                     refine r_not hst 51 rfl rfl c11 rfl ?_; intro a hst
                     refine r_not hst 51 rfl rfl c11 rfl ?_; intro a hst
                     refine r_not hst 51 rfl rfl c11 rfl ?_; intro a hst
                     refine r_not hst 51 rfl rfl c11 rfl ?_; intro a hst
                     refine r_t hst trivial rfl (x_andF (decide (a0.Low ≤ a0.High)) hst rfl c11 rfl) ?_; intro a hst
                     exact hj _ (hst.keep _ ⟨rfl, rfl, rfl, trivial⟩)
               · intro hj
                 by_cases c10 : ((((((((decide (1 ≤ a0.Number)) && (decide (a0.Number ≤ 2147483647))) && (decide (1 ≤ a0.Size))) && (decide (a0.Size ≤ 268435456))) && (decide (1 ≤ (a0.Least.size : Int)))) && (decide ((a0.Least.size : Int) ≤ 1024))) && (sLt a0.Least a0.Limit)) && (decide ((a0.Limit.size : Int) ≤ 1025))) = true
                 · refine r_t hst (wt_of 46 rfl rfl c10) rfl (x_fieldAddr (j' := 4) hst fa_43_4 rfl rfl) ?_; intro a hst
                   refine r_t hst (wt_of 46 rfl rfl c10) rfl (x_loadB (i := 0) hst hsh sc_24 rfl rfl rfl) ?_; intro a hst
                   refine r_t hst (wt_of 46 rfl rfl c10) rfl (x_cmpI (b := decide (1 ≤ a0.Low)) hst rfl rfl rfl) ?_; intro a hst
                   refine r_t hst trivial rfl (x_andT hst rfl c10 rfl) ?_; intro a hst
                   exact hj _ (hst.keep _ ⟨rfl, rfl, rfl, trivial⟩)
                 · replace c10 := Bool.eq_false_iff.2 c10
                   refine r_not hst 46 rfl rfl c10 rfl ?_; intro a hst
                   refine r_not hst 46 rfl rfl c10 rfl ?_; intro a hst
                   refine r_not hst 46 rfl rfl c10 rfl ?_; intro a hst
                   refine r_t hst trivial rfl (x_andF (decide (1 ≤ a0.Low)) hst rfl c10 rfl) ?_; intro a hst
                   exact hj _ (hst.keep _ ⟨rfl, rfl, rfl, trivial⟩)
             · intro hj
               by_cases c9 : (((((((decide (1 ≤ a0.Number)) && (decide (a0.Number ≤ 2147483647))) && (decide (1 ≤ a0.Size))) && (decide (a0.Size ≤ 268435456))) && (decide (1 ≤ (a0.Least.size : Int)))) && (decide ((a0.Least.size : Int) ≤ 1024))) && (sLt a0.Least a0.Limit)) = true
               · refine r_t hst (wt_of 40 rfl rfl c9) rfl (x_fieldAddr (j' := 3) hst fa_43_3 rfl rfl) ?_; intro a hst
                 refine r_t hst (wt_of 40 rfl rfl c9) rfl (x_loadB (i := 0) hst hsh sc_9 rfl rfl rfl) ?_; intro a hst
                 refine r_t hst (wt_of 40 rfl rfl c9) rfl (x_lenStr hst Try.underlying9 rfl) ?_; intro a hst
                 refine r_t hst (wt_of 40 rfl rfl c9) rfl (x_cmpI (b := decide ((a0.Limit.size : Int) ≤ 1025)) hst rfl rfl rfl) ?_; intro a hst
                 refine r_t hst trivial rfl (x_andT hst rfl c9 rfl) ?_; intro a hst
                 exact hj _ (hst.keep _ ⟨rfl, rfl, rfl, trivial⟩)
               · replace c9 := Bool.eq_false_iff.2 c9
                 refine r_not hst 40 rfl rfl c9 rfl ?_; intro a hst
                 refine r_not hst 40 rfl rfl c9 rfl ?_; intro a hst
                 refine r_not hst 40 rfl rfl c9 rfl ?_; intro a hst
                 refine r_not hst 40 rfl rfl c9 rfl ?_; intro a hst
                 refine r_t hst trivial rfl (x_andF (decide ((a0.Limit.size : Int) ≤ 1025)) hst rfl c9 rfl) ?_; intro a hst
                 exact hj _ (hst.keep _ ⟨rfl, rfl, rfl, trivial⟩)
           · intro hj
             by_cases c8 : ((((((decide (1 ≤ a0.Number)) && (decide (a0.Number ≤ 2147483647))) && (decide (1 ≤ a0.Size))) && (decide (a0.Size ≤ 268435456))) && (decide (1 ≤ (a0.Least.size : Int)))) && (decide ((a0.Least.size : Int) ≤ 1024))) = true
             · refine r_t hst (wt_of 33 rfl rfl c8) rfl (x_fieldAddr (j' := 2) hst fa_43_2 rfl rfl) ?_; intro a hst
               refine r_t hst (wt_of 33 rfl rfl c8) rfl (x_loadB (i := 0) hst hsh sc_9 rfl rfl rfl) ?_; intro a hst
               refine r_t hst (wt_of 33 rfl rfl c8) rfl (x_fieldAddr (j' := 3) hst fa_43_3 rfl rfl) ?_; intro a hst
               refine r_t hst (wt_of 33 rfl rfl c8) rfl (x_loadB (i := 0) hst hsh sc_9 rfl rfl rfl) ?_; intro a hst
               refine r_t hst (wt_of 33 rfl rfl c8) rfl (x_cmpS (b := sLt a0.Least a0.Limit) hst rfl rfl rfl) ?_; intro a hst
               refine r_t hst trivial rfl (x_andT hst rfl c8 rfl) ?_; intro a hst
               exact hj _ (hst.keep _ ⟨rfl, rfl, rfl, trivial⟩)
             · replace c8 := Bool.eq_false_iff.2 c8
               refine r_not hst 33 rfl rfl c8 rfl ?_; intro a hst
               refine r_not hst 33 rfl rfl c8 rfl ?_; intro a hst
               refine r_not hst 33 rfl rfl c8 rfl ?_; intro a hst
               refine r_not hst 33 rfl rfl c8 rfl ?_; intro a hst
               refine r_not hst 33 rfl rfl c8 rfl ?_; intro a hst
               refine r_t hst trivial rfl (x_andF (sLt a0.Least a0.Limit) hst rfl c8 rfl) ?_; intro a hst
               exact hj _ (hst.keep _ ⟨rfl, rfl, rfl, trivial⟩)
         · intro hj
           by_cases c7 : (((((decide (1 ≤ a0.Number)) && (decide (a0.Number ≤ 2147483647))) && (decide (1 ≤ a0.Size))) && (decide (a0.Size ≤ 268435456))) && (decide (1 ≤ (a0.Least.size : Int)))) = true
           · refine r_t hst (wt_of 27 rfl rfl c7) rfl (x_fieldAddr (j' := 2) hst fa_43_2 rfl rfl) ?_; intro a hst
             refine r_t hst (wt_of 27 rfl rfl c7) rfl (x_loadB (i := 0) hst hsh sc_9 rfl rfl rfl) ?_; intro a hst
             refine r_t hst (wt_of 27 rfl rfl c7) rfl (x_lenStr hst Try.underlying9 rfl) ?_; intro a hst
             refine r_t hst (wt_of 27 rfl rfl c7) rfl (x_cmpI (b := decide ((a0.Least.size : Int) ≤ 1024)) hst rfl rfl rfl) ?_; intro a hst
             refine r_t hst trivial rfl (x_andT hst rfl c7 rfl) ?_; intro a hst
             exact hj _ (hst.keep _ ⟨rfl, rfl, rfl, trivial⟩)
           · replace c7 := Bool.eq_false_iff.2 c7
             refine r_not hst 27 rfl rfl c7 rfl ?_; intro a hst
             refine r_not hst 27 rfl rfl c7 rfl ?_; intro a hst
             refine r_not hst 27 rfl rfl c7 rfl ?_; intro a hst
             refine r_not hst 27 rfl rfl c7 rfl ?_; intro a hst
             refine r_t hst trivial rfl (x_andF (decide ((a0.Least.size : Int) ≤ 1024)) hst rfl c7 rfl) ?_; intro a hst
             exact hj _ (hst.keep _ ⟨rfl, rfl, rfl, trivial⟩)
       · intro hj
         by_cases c6 : ((((decide (1 ≤ a0.Number)) && (decide (a0.Number ≤ 2147483647))) && (decide (1 ≤ a0.Size))) && (decide (a0.Size ≤ 268435456))) = true
         · refine r_t hst (wt_of 21 rfl rfl c6) rfl (x_fieldAddr (j' := 2) hst fa_43_2 rfl rfl) ?_; intro a hst
           refine r_t hst (wt_of 21 rfl rfl c6) rfl (x_loadB (i := 0) hst hsh sc_9 rfl rfl rfl) ?_; intro a hst
           refine r_t hst (wt_of 21 rfl rfl c6) rfl (x_lenStr hst Try.underlying9 rfl) ?_; intro a hst
           refine r_t hst (wt_of 21 rfl rfl c6) rfl (x_cmpI (b := decide (1 ≤ (a0.Least.size : Int))) hst rfl rfl rfl) ?_; intro a hst
           refine r_t hst trivial rfl (x_andT hst rfl c6 rfl) ?_; intro a hst
           exact hj _ (hst.keep _ ⟨rfl, rfl, rfl, trivial⟩)
         · replace c6 := Bool.eq_false_iff.2 c6
           refine r_not hst 21 rfl rfl c6 rfl ?_; intro a hst
           refine r_not hst 21 rfl rfl c6 rfl ?_; intro a hst
           refine r_not hst 21 rfl rfl c6 rfl ?_; intro a hst
           refine r_not hst 21 rfl rfl c6 rfl ?_; intro a hst
           refine r_t hst trivial rfl (x_andF (decide (1 ≤ (a0.Least.size : Int))) hst rfl c6 rfl) ?_; intro a hst
           exact hj _ (hst.keep _ ⟨rfl, rfl, rfl, trivial⟩)
     · intro hj
       by_cases c5 : (((decide (1 ≤ a0.Number)) && (decide (a0.Number ≤ 2147483647))) && (decide (1 ≤ a0.Size))) = true
       · refine r_t hst (wt_of 16 rfl rfl c5) rfl (x_fieldAddr (j' := 1) hst fa_43_1 rfl rfl) ?_; intro a hst
         refine r_t hst (wt_of 16 rfl rfl c5) rfl (x_loadB (i := 0) hst hsh sc_3 rfl rfl rfl) ?_; intro a hst
         refine r_t hst (wt_of 16 rfl rfl c5) rfl (x_cmpI (b := decide (a0.Size ≤ 268435456)) hst rfl rfl rfl) ?_; intro a hst
         refine r_t hst trivial rfl (x_andT hst rfl c5 rfl) ?_; intro a hst
         exact hj _ (hst.keep _ ⟨rfl, rfl, rfl, trivial⟩)
       · replace c5 := Bool.eq_false_iff.2 c5
         refine r_not hst 16 rfl rfl c5 rfl ?_; intro a hst
         refine r_not hst 16 rfl rfl c5 rfl ?_; intro a hst
         refine r_not hst 16 rfl rfl c5 rfl ?_; intro a hst
         refine r_t hst trivial rfl (x_andF (decide (a0.Size ≤ 268435456)) hst rfl c5 rfl) ?_; intro a hst
         exact hj _ (hst.keep _ ⟨rfl, rfl, rfl, trivial⟩)
   · intro hj
     by_cases c4 : ((decide (1 ≤ a0.Number)) && (decide (a0.Number ≤ 2147483647))) = true
     · refine r_t hst (wt_of 11 rfl rfl c4) rfl (x_fieldAddr (j' := 1) hst fa_43_1 rfl rfl) ?_; intro a hst
       refine r_t hst (wt_of 11 rfl rfl c4) rfl (x_loadB (i := 0) hst hsh sc_3 rfl rfl rfl) ?_; intro a hst
       refine r_t hst (wt_of 11 rfl rfl c4) rfl (x_cmpI (b := decide (1 ≤ a0.Size)) hst rfl rfl rfl) ?_; intro a hst
       refine r_t hst trivial rfl (x_andT hst rfl c4 rfl) ?_; intro a hst
       exact hj _ (hst.keep _ ⟨rfl, rfl, rfl, trivial⟩)
     · replace c4 := Bool.eq_false_iff.2 c4
       refine r_not hst 11 rfl rfl c4 rfl ?_; intro a hst
       refine r_not hst 11 rfl rfl c4 rfl ?_; intro a hst
       refine r_not hst 11 rfl rfl c4 rfl ?_; intro a hst
       refine r_t hst trivial rfl (x_andF (decide (1 ≤ a0.Size)) hst rfl c4 rfl) ?_; intro a hst
       exact hj _ (hst.keep _ ⟨rfl, rfl, rfl, trivial⟩)
 · intro hj
   by_cases c3 : (decide (1 ≤ a0.Number)) = true
   · refine r_t hst (wt_of 6 rfl rfl c3) rfl (x_fieldAddr (j' := 0) hst fa_43_0 rfl rfl) ?_; intro a hst
     refine r_t hst (wt_of 6 rfl rfl c3) rfl (x_loadB (i := 0) hst hsh sc_3 rfl rfl rfl) ?_; intro a hst
     refine r_t hst (wt_of 6 rfl rfl c3) rfl (x_cmpI (b := decide (a0.Number ≤ 2147483647)) hst rfl rfl rfl) ?_; intro a hst
     refine r_t hst trivial rfl (x_andT hst rfl c3 rfl) ?_; intro a hst
     exact hj _ (hst.keep _ ⟨rfl, rfl, rfl, trivial⟩)
   · replace c3 := Bool.eq_false_iff.2 c3
     refine r_not hst 6 rfl rfl c3 rfl ?_; intro a hst
     refine r_not hst 6 rfl rfl c3 rfl ?_; intro a hst
     refine r_not hst 6 rfl rfl c3 rfl ?_; intro a hst
     refine r_t hst trivial rfl (x_andF (decide (a0.Number ≤ 2147483647)) hst rfl c3 rfl) ?_; intro a hst
     exact hj _ (hst.keep _ ⟨rfl, rfl, rfl, trivial⟩)

set_option maxHeartbeats 4000000 in
set_option maxRecDepth 100000 in
theorem version_Valid.calls (k : Nat) (w : World) (va0 : Value) (Za0 : Nat → Prop) (wra0 : World) (hsa0 : Same Za0 wra0 w) (a0 : (List (List File))) (hra0 : RD (Kd.slice 43 k_File) Za0 wra0 va0 a0) (r : Bool) (h : version_Valid k a0 = some r) :
    Calls Try.prog 12 ([va0] : List Value).toArray w fun e w' => e = .returned (.bool r) ∧ SH (fun _ => False) w w' [] := by
 have H := h
 clear h
 unfold version_Valid at H
 refine calls_enter Try.func12 rfl rfl ?_
 intro a hst
 have hsh := SH.zero (fun _ => False) w
 refine wq_seq ?_
 refine wq_region_lit (.inl rfl) ?_
 refine r_t hst trivial rfl (x_assign hst rfl) ?_; intro a hst
 refine wpL_nil ?_
 refine then_normal ?_
 refine wq_seq ?_
 refine wq_seq ?_
 refine wq_region_lit (.inl rfl) ?_
 refine r_t hst trivial rfl (x_move hst rfl) ?_; intro a hst
 refine r_t hst trivial rfl (x_lenSl hst Try.underlying23 rfl hra0.slen) ?_; intro a hst
 refine r_t hst trivial rfl (x_cmpI (b := decide ((a0.length : Int) < 1)) hst rfl rfl rfl) ?_; intro a hst
 refine r_t hst trivial rfl (x_move hst rfl) ?_; intro a hst
 refine wl_join0 (Δ := []) (N := Try.f12.ntmps) 8 [(0, va0), (2, .bool false), (15, .bool ((decide ((a0.length : Int) < 1)) || (decide (7 < (a0.length : Int)))))] ?_ ?_
 · intro a hst
   refine wpL_nil ?_
   refine then_normal ?_
   by_cases c4 : ((decide ((a0.length : Int) < 1)) || (decide (7 < (a0.length : Int)))) = true
   · rw [if_pos c4] at H
     refine wq_condT hst rfl c4 ?_
     refine wq_seq ?_
     refine wq_region_lit (.inl rfl) ?_
     refine r_t hst trivial rfl (x_assign hst rfl) ?_; intro a hst
     refine wpL_nil ?_
     refine then_normal ?_
     refine wq_ret ?_
     refine then_ret ?_
     obtain rfl := Option.some.inj H
     exact ret1 hst rfl rfl ⟨rfl, hsh.pick []⟩
   · rw [if_neg c4] at H
     replace c4 := Bool.eq_false_iff.2 c4
     refine wq_condF hst rfl c4 ?_
     refine wq_skip ?_
     refine then_normal ?_
     refine wq_seq ?_
     refine wq_region_lit (.inl rfl) ?_
     refine r_makeMap (q := .i64) (r := .i64) 3 3 hst hsh trivial rfl ?_
     intro g5 a w6 hgg5 hsh hst
     refine r_t hst trivial rfl (x_assign hst rfl) ?_; intro a hst
     refine wpL_nil ?_
     refine then_normal ?_
     refine wq_seq ?_
     refine wq_seq ?_
     refine wq_region_lit (.inl rfl) ?_
     refine r_t hst trivial rfl (x_move hst rfl) ?_; intro a hst
     refine r_t hst trivial rfl (x_lenSl hst Try.underlying23 rfl hra0.slen) ?_; intro a hst
     refine r_t hst trivial rfl (x_move hst rfl) ?_; intro a hst
     refine wpL_nil ?_
     refine then_normal ?_
     refine wq_block ?_
     refine wq_loop_fuel (fun k_237 a w' => ∃ (l_188 : (List (Int × Int))), ∃ (i_189 : Int), version_Valid.l0 a0 k_237 l_188 i_189 = some r ∧ ST [] Try.f12.ntmps a [(2, .bool false), (3, .map (some g5)), (17, va0), (18, .int .i64 (a0.length : Int)), (19, .int .i64 i_189)] ∧ SH (fun _ => False) w w' [MapI Try.prog .i64 .i64 3 3 g5 l_188]) k ?_ ?_
     · exact ⟨([]), 0, H, hst.keep _ ⟨rfl, rfl, rfl, rfl, rfl, trivial⟩, hsh.pick [0]⟩
     · rintro k_237 a W_190 ⟨l_188, i_189, H, hst, hsh⟩
       cases k_237 with
       | zero => rw [version_Valid.l0] at H; cases H
       | succ k_237 =>
        rw [version_Valid.l0] at H
        refine wq_seq ?_
        refine wq_region_lit (.inl rfl) ?_
        refine r_t hst trivial rfl (x_cmpI (b := decide (i_189 < (a0.length : Int))) hst rfl rfl rfl) ?_; intro a hst
        refine wpL_nil ?_
        refine then_normal ?_
        refine wq_seq ?_
        by_cases c2168 : (decide (i_189 < (a0.length : Int))) = true
        · rw [if_pos c2168] at H
          refine wq_condT hst rfl c2168 ?_
          refine wq_skip ?_
          refine then_normal ?_
          obtain ⟨J_260, hJ_260, H⟩ := Jn.elim H
          refine wq_cut (fun a w' => ∃ (l_258 : (List (Int × Int))), J_260 l_258 = some r ∧ ST [] Try.f12.ntmps a [(2, .bool false), (3, .map (some g5)), (17, va0), (18, .int .i64 (a0.length : Int)), (19, .int .i64 i_189)] ∧ SH (fun _ => False) w w' [MapI Try.prog .i64 .i64 3 3 g5 l_258]) ?_ ?_
          · rintro a W_259 ⟨l_258, H, hst, hsh⟩
            subst hJ_260
            dsimp only at H
            refine wq_region_lit (.inl rfl) ?_
            refine r_t hst trivial rfl (x_arI (r := w64 (i_189 + 1)) hst rfl rfl rfl) ?_; intro a hst
            refine r_t hst trivial rfl (x_move hst rfl) ?_; intro a hst
            refine wpL_nil ?_
            refine then_normal ?_
            exact ⟨k_237, Nat.lt_succ_self _, l_258, (w64 (i_189 + 1)), H, hst.keep _ ⟨rfl, rfl, rfl, rfl, rfl, trivial⟩, hsh.pick [0]⟩
          · refine wq_block ?_
            refine wq_seq ?_
            refine wq_region_lit (.inl rfl) ?_
            refine r_t hst trivial rfl (x_move hst rfl) ?_; intro a hst
            obtain ⟨x2384, hx2384, H⟩ := Option.bind_eq_some_iff.1 H
            refine r_t hst trivial rfl (x_indexAddr hst Try.underlying23 el_39 rfl rfl hra0 hx2384) ?_; intro a hst
            obtain ⟨_, hk2385, hc2386⟩ := RD.cells2 hra0 hx2384
            obtain ⟨v2387, rfl, hr2388⟩ := hk2385
            refine r_t hst trivial rfl (x_loadC hst sc_39 rfl (hc2386 _ (Same.sh0 hsa0 hsh) 0 _ rfl)) ?_; intro a hst
            refine r_t hst trivial rfl (x_assign hst rfl) ?_; intro a hst
            refine r_t hst trivial rfl (x_assign hst rfl) ?_; intro a hst
            refine wpL_nil ?_
            refine then_normal ?_
            refine wq_seq ?_
            refine wq_region_lit (.inl rfl) ?_
            refine r_t hst trivial rfl (x_move hst rfl) ?_; intro a hst
            refine r_t hst trivial rfl (x_lenSl hst Try.underlying39 rfl hr2388.slen) ?_; intro a hst
            refine r_t hst trivial rfl (x_move hst rfl) ?_; intro a hst
            refine wpL_nil ?_
            refine then_normal ?_
            refine wq_block ?_
            refine wq_loop_fuel (fun k_277 a w' => ∃ (l_268 : (List (Int × Int))), ∃ (i_269 : Int), version_Valid.l1 i_189 J_260 x2384 k_277 l_268 i_269 = some r ∧ ST [] Try.f12.ntmps a [(2, .bool false), (3, .map (some g5)), (4, .int .i64 i_189), (5, v2387), (17, va0), (18, .int .i64 (a0.length : Int)), (19, .int .i64 i_189), (24, v2387), (25, .int .i64 (x2384.length : Int)), (26, .int .i64 i_269)] ∧ SH (fun _ => False) w w' [MapI Try.prog .i64 .i64 3 3 g5 l_268]) k_237 ?_ ?_
            · exact ⟨l_188, 0, H, hst.keep _ ⟨rfl, rfl, rfl, rfl, rfl, rfl, rfl, rfl, rfl, rfl, trivial⟩, hsh.pick [0]⟩
            · rintro k_277 a W_270 ⟨l_268, i_269, H, hst, hsh⟩
              cases k_277 with
              | zero => rw [version_Valid.l1] at H; cases H
              | succ k_277 =>
               rw [version_Valid.l1] at H
               refine wq_seq ?_
               refine wq_region_lit (.inl rfl) ?_
               refine r_t hst trivial rfl (x_cmpI (b := decide (i_269 < (x2384.length : Int))) hst rfl rfl rfl) ?_; intro a hst
               refine wpL_nil ?_
               refine then_normal ?_
               refine wq_seq ?_
               by_cases c2530 : (decide (i_269 < (x2384.length : Int))) = true
               · rw [if_pos c2530] at H
                 refine wq_condT hst rfl c2530 ?_
                 refine wq_skip ?_
                 refine then_normal ?_
                 obtain ⟨J_280, hJ_280, H⟩ := Jn.elim H
                 refine wq_cut (fun a w' => ∃ (l_278 : (List (Int × Int))), J_280 l_278 = some r ∧ ST [] Try.f12.ntmps a [(2, .bool false), (3, .map (some g5)), (4, .int .i64 i_189), (5, v2387), (17, va0), (18, .int .i64 (a0.length : Int)), (19, .int .i64 i_189), (24, v2387), (25, .int .i64 (x2384.length : Int)), (26, .int .i64 i_269)] ∧ SH (fun _ => False) w w' [MapI Try.prog .i64 .i64 3 3 g5 l_278]) ?_ ?_
                 · rintro a W_279 ⟨l_278, H, hst, hsh⟩
                   subst hJ_280
                   dsimp only at H
                   refine wq_region_lit (.inl rfl) ?_
                   refine r_t hst trivial rfl (x_arI (r := w64 (i_269 + 1)) hst rfl rfl rfl) ?_; intro a hst
                   refine r_t hst trivial rfl (x_move hst rfl) ?_; intro a hst
                   refine wpL_nil ?_
                   refine then_normal ?_
                   exact ⟨k_277, Nat.lt_succ_self _, l_278, (w64 (i_269 + 1)), H, hst.keep _ ⟨rfl, rfl, rfl, rfl, rfl, rfl, rfl, rfl, rfl, rfl, trivial⟩, hsh.pick [0]⟩
                 · refine wq_block ?_
                   refine wq_seq ?_
                   refine wq_region_lit (.inl rfl) ?_
                   refine r_t hst trivial rfl (x_move hst rfl) ?_; intro a hst
                   obtain ⟨x2565, hx2565, H⟩ := Option.bind_eq_some_iff.1 H
                   refine r_t hst trivial rfl (x_indexAddr hst Try.underlying39 el_43 rfl rfl hr2388 hx2565) ?_; intro a hst
                   refine r_t hst trivial rfl (x_loadEsF (j := 0) (cs := [.int .i64 x2565.Number, .int .i64 x2565.Size, .string x2565.Least, .string x2565.Limit, .int .u64 x2565.Low, .int .u64 x2565.High]) (ps := [.int .i64 x2565.Number, .int .i64 x2565.Size, .string x2565.Least, .string x2565.Limit, .int .u64 x2565.Low, .int .u64 x2565.High]) hst ag_43 rfl hr2388 (Same.sh0 hsa0 hsh) hx2565 rfl (fun _ h => h) rfl) ?_; intro a hst
                   refine r_alloc hst hsh trivial rfl zr_43 ?_
                   intro g2566 a w2567 hgg2566 hsh hst
                   refine r_t hst trivial rfl (x_assign hst rfl) ?_; intro a hst
                   refine r_storeBs (i := 0) (cs' := [.int .i64 x2565.Number, .int .i64 x2565.Size, .string x2565.Least, .string x2565.Limit, .int .u64 x2565.Low, .int .u64 x2565.High]) (vs := [.int .i64 x2565.Number, .int .i64 x2565.Size, .string x2565.Least, .string x2565.Limit, .int .u64 x2565.Low, .int .u64 x2565.High]) hst hsh trivial ag_43 rfl rfl rfl rfl rfl rfl ?_; intro a w2568 hsh hst
                   refine wpL_nil ?_
                   refine then_normal ?_
                   refine wq_seq ?_
                   refine wq_region_lit (.inl rfl) ?_
                   refine r_t hst trivial rfl (x_move hst rfl) ?_; intro a hst
                   refine r_t hst trivial rfl (x_fieldAddr (j' := 0) hst fa_43_0 rfl rfl) ?_; intro a hst
                   refine r_t hst trivial rfl (x_loadB (i := 0) hst hsh sc_3 rfl rfl rfl) ?_; intro a hst
                   by_cases c2569 : wfi .i64 x2565.Number = true
                   · rw [if_pos c2569] at H
                     refine r_t hst trivial rfl (x_lookupI (i := 1) hst hsh Try.underlying66 Try.underlying3 Try.underlying3 (fun _ => by kernel_rfl) rfl rfl rfl c2569) ?_; intro a hst
                     refine r_t hst trivial rfl (x_arI (r := w64 ((mget l_268 x2565.Number) + 1)) hst rfl rfl rfl) ?_; intro a hst
                     obtain ⟨l2570, hl2570, H⟩ := Option.bind_eq_some_iff.1 H
                     refine r_mapUpdateI (i := 1) hst hsh trivial Try.underlying66 Try.underlying3 Try.underlying3 rfl rfl rfl rfl c2569 hl2570 ?_; intro a w2571 hsh hst
                     refine wpL_nil ?_
                     refine then_normal ?_
                     refine wq_seq ?_
                     refine wq_seq ?_
                     refine wq_region_lit (.inl rfl) ?_
                     refine r_t hst trivial rfl (x_loadBs (i := 1) (ps := [.int .i64 x2565.Number, .int .i64 x2565.Size, .string x2565.Least, .string x2565.Limit, .int .u64 x2565.Low, .int .u64 x2565.High]) hst hsh ag_43 rfl rfl rfl) ?_; intro a hst
                     obtain ⟨r2576, hr2576, H⟩ := Option.bind_eq_some_iff.1 H
                     refine r_callD hst trivial rfl fn_37 rfl (version_may.calls _ x2565 r2576 hr2576) ?_
                     rintro e w2577 ⟨rfl, hc⟩
                     replace hsh := hsh.call0 hc
                     clear hc
                     refine ⟨_, rfl, fun a hst => ?_⟩
                     refine r_t hst trivial rfl (x_notB hst rfl) ?_; intro a hst
                     refine r_t hst trivial rfl (x_move hst rfl) ?_; intro a hst
                     refine wl_join0 (Δ := []) (N := Try.f12.ntmps) 10 [(2, .bool false), (3, .map (some g5)), (4, .int .i64 i_189), (5, v2387), (6, .int .i64 i_269), (7, .pointer (some ⟨g2566, 0, none⟩)), (17, va0), (18, .int .i64 (a0.length : Int)), (19, .int .i64 i_189), (24, v2387), (25, .int .i64 (x2384.length : Int)), (26, .int .i64 i_269), (45, .bool ((!r2576) || (decide (1 < (mget l2570 x2565.Number)))))] ?_ ?_
                     · intro a hst
                       refine wpL_nil ?_
                       refine then_normal ?_
                       by_cases c2579 : ((!r2576) || (decide (1 < (mget l2570 x2565.Number)))) = true
                       · rw [if_pos c2579] at H
                         refine wq_condT hst rfl c2579 ?_
                         refine wq_seq ?_
                         refine wq_region_lit (.inl rfl) ?_
                         refine r_t hst trivial rfl (x_assign hst rfl) ?_; intro a hst
                         refine wpL_nil ?_
                         refine then_normal ?_
                         refine wq_ret ?_
                         refine then_ret ?_
                         refine block_ret ?_
                         refine then_ret ?_
                         refine then_ret ?_
                         refine block_ret ?_
                         refine block_ret ?_
                         refine then_ret ?_
                         refine then_ret ?_
                         refine block_ret ?_
                         refine then_ret ?_
                         obtain rfl := Option.some.inj H
                         exact ret1 hst rfl rfl ⟨rfl, hsh.pick []⟩
                       · rw [if_neg c2579] at H
                         replace c2579 := Bool.eq_false_iff.2 c2579
                         refine wq_condF hst rfl c2579 ?_
                         refine wq_skip ?_
                         refine then_normal ?_
                         refine wq_seq ?_
                         refine wq_seq ?_
                         refine wq_region_lit (.inl rfl) ?_
                         refine r_t hst trivial rfl (x_move hst rfl) ?_; intro a hst
                         refine r_t hst trivial rfl (x_cmpI (b := (i_269 == 0)) hst rfl rfl rfl) ?_; intro a hst
                         refine wpL_nil ?_
                         refine then_normal ?_
                         by_cases c2581 : (i_269 == 0) = true
                         · rw [if_pos c2581] at H
                           refine wq_condT hst rfl c2581 ?_
                           refine wq_exit ?_
                           refine then_exit ?_
                           refine block_hit ?_
                           refine then_normal ?_
                           exact ⟨l2570, H, hst.keep _ ⟨rfl, rfl, rfl, rfl, rfl, rfl, rfl, rfl, rfl, rfl, trivial⟩, hsh.pick [0]⟩
                         · rw [if_neg c2581] at H
                           replace c2581 := Bool.eq_false_iff.2 c2581
                           refine wq_condF hst rfl c2581 ?_
                           refine wq_skip ?_
                           refine then_normal ?_
                           refine wq_seq ?_
                           refine wq_seq ?_
                           refine wq_region_lit (.inl rfl) ?_
                           refine r_t hst trivial rfl (x_move hst rfl) ?_; intro a hst
                           refine r_t hst trivial rfl (x_cmpI (b := (i_189 == 0)) hst rfl rfl rfl) ?_; intro a hst
                           refine wpL_nil ?_
                           refine then_normal ?_
                           by_cases c2589 : (i_189 == 0) = true
                           · rw [if_pos c2589] at H
                             refine wq_condT hst rfl c2589 ?_
                             refine wq_seq ?_
                             refine wq_seq ?_
                             refine wq_region_q (.inl rfl) (fun w' => SH (fun _ => False) w w' [MapI Try.prog .i64 .i64 3 3 g5 l2570, Box g2566 [.int .i64 x2565.Number, .int .i64 x2565.Size, .string x2565.Least, .string x2565.Limit, .int .u64 x2565.Low, .int .u64 x2565.High] 43]) (shut_sh _ _ _) hsh.drew fo (by kernel_rfl) ?_
                             refine q_t hst trivial rfl (fun _ hsh => x_move hst rfl) ?_; intro a hst
                             refine q_t hst trivial rfl (fun _ hsh => x_move hst rfl) ?_; intro a hst
                             refine q_t hst trivial rfl (fun _ hsh => x_arI (r := w64 (i_269 - 1)) hst rfl rfl rfl) ?_; intro a hst
                             obtain ⟨x2593, hx2593, H⟩ := Option.bind_eq_some_iff.1 H
                             refine q_t hst trivial rfl (fun _ hsh => x_indexAddr hst Try.underlying39 el_43 rfl rfl hr2388 hx2593) ?_; intro a hst
                             refine q_t hst trivial rfl (fun _ hsh => x_fieldAddrE (n' := Int.toNat (w64 (i_269 - 1)) * k_File.sz) hst fa_43_0 rfl rfl) ?_; intro a hst
                             refine q_t hst trivial rfl (fun _ hsh => x_loadEF (j := 0) (cs := [.int .i64 x2593.Number, .int .i64 x2593.Size, .string x2593.Least, .string x2593.Limit, .int .u64 x2593.Low, .int .u64 x2593.High]) hst sc_3 rfl hr2388 (Same.sh0 hsa0 hsh) hx2593 rfl (fun _ h => h) rfl) ?_; intro a hst
                             refine q_t hst trivial rfl (fun _ hsh => x_fieldAddr (j' := 0) hst fa_43_0 rfl rfl) ?_; intro a hst
                             refine q_t hst trivial rfl (fun _ hsh => x_loadB (i := 1) hst hsh sc_3 rfl rfl rfl) ?_; intro a hst
                             refine q_t hst trivial rfl (fun _ hsh => x_cmpI (b := decide (x2565.Number ≤ x2593.Number)) hst rfl rfl rfl) ?_; intro a hst
                             refine q_nil ?_
                             intro w2594 hsh
                             refine then_normal ?_
                             by_cases c2595 : (decide (x2565.Number ≤ x2593.Number)) = true
                             · rw [if_pos c2595] at H
                               refine wq_condT hst rfl c2595 ?_
                               refine wq_seq ?_
                               refine wq_region_lit (.inl rfl) ?_
                               refine r_t hst trivial rfl (x_assign hst rfl) ?_; intro a hst
                               refine wpL_nil ?_
                               refine then_normal ?_
                               refine wq_ret ?_
                               refine then_ret ?_
                               refine then_ret ?_
                               refine block_ret ?_
                               refine then_ret ?_
                               refine then_ret ?_
                               refine block_ret ?_
                               refine block_ret ?_
                               refine then_ret ?_
                               refine then_ret ?_
                               refine block_ret ?_
                               refine then_ret ?_
                               obtain rfl := Option.some.inj H
                               exact ret1 hst rfl rfl ⟨rfl, hsh.pick []⟩
                             · rw [if_neg c2595] at H
                               replace c2595 := Bool.eq_false_iff.2 c2595
                               refine wq_condF hst rfl c2595 ?_
                               refine wq_skip ?_
                               refine then_normal ?_
                               refine wq_exit ?_
                               refine then_exit ?_
                               refine block_hit ?_
                               refine then_normal ?_
                               exact ⟨l2570, H, hst.keep _ ⟨rfl, rfl, rfl, rfl, rfl, rfl, rfl, rfl, rfl, rfl, trivial⟩, hsh.pick [0]⟩
                           · rw [if_neg c2589] at H
                             replace c2589 := Bool.eq_false_iff.2 c2589
                             refine wq_condF hst rfl c2589 ?_
                             refine wq_skip ?_
                             refine then_normal ?_
                             refine wq_seq ?_
                             refine wq_region_q (.inl rfl) (fun w' => SH (fun _ => False) w w' [MapI Try.prog .i64 .i64 3 3 g5 l2570, Box g2566 [.int .i64 x2565.Number, .int .i64 x2565.Size, .string x2565.Least, .string x2565.Limit, .int .u64 x2565.Low, .int .u64 x2565.High] 43]) (shut_sh _ _ _) hsh.drew fo (by kernel_rfl) ?_
                             refine q_t hst trivial rfl (fun _ hsh => x_move hst rfl) ?_; intro a hst
                             refine q_t hst trivial rfl (fun _ hsh => x_move hst rfl) ?_; intro a hst
                             refine q_t hst trivial rfl (fun _ hsh => x_arI (r := w64 (i_269 - 1)) hst rfl rfl rfl) ?_; intro a hst
                             obtain ⟨x2596, hx2596, H⟩ := Option.bind_eq_some_iff.1 H
                             refine q_t hst trivial rfl (fun _ hsh => x_indexAddr hst Try.underlying39 el_43 rfl rfl hr2388 hx2596) ?_; intro a hst
                             refine q_t hst trivial rfl (fun _ hsh => x_fieldAddrE (n' := Int.toNat (w64 (i_269 - 1)) * k_File.sz + 3) hst fa_43_3 rfl rfl) ?_; intro a hst
                             refine q_t hst trivial rfl (fun _ hsh => x_loadEF (j := 3) (cs := [.int .i64 x2596.Number, .int .i64 x2596.Size, .string x2596.Least, .string x2596.Limit, .int .u64 x2596.Low, .int .u64 x2596.High]) hst sc_9 rfl hr2388 (Same.sh0 hsa0 hsh) hx2596 rfl (fun _ h => h) rfl) ?_; intro a hst
                             refine q_t hst trivial rfl (fun _ hsh => x_fieldAddr (j' := 2) hst fa_43_2 rfl rfl) ?_; intro a hst
                             refine q_t hst trivial rfl (fun _ hsh => x_loadB (i := 1) hst hsh sc_9 rfl rfl rfl) ?_; intro a hst
                             refine q_t hst trivial rfl (fun _ hsh => x_cmpS (b := (!(sLt x2596.Limit x2565.Least || sEq x2596.Limit x2565.Least))) hst rfl rfl rfl) ?_; intro a hst
                             refine q_nil ?_
                             intro w2597 hsh
                             refine then_normal ?_
                             by_cases c2598 : (!(sLt x2596.Limit x2565.Least || sEq x2596.Limit x2565.Least)) = true
                             · rw [if_pos c2598] at H
                               refine wq_condT hst rfl c2598 ?_
                               refine wq_seq ?_
                               refine wq_region_lit (.inl rfl) ?_
                               refine r_t hst trivial rfl (x_assign hst rfl) ?_; intro a hst
                               refine wpL_nil ?_
                               refine then_normal ?_
                               refine wq_ret ?_
                               refine block_ret ?_
                               refine then_ret ?_
                               refine then_ret ?_
                               refine block_ret ?_
                               refine block_ret ?_
                               refine then_ret ?_
                               refine then_ret ?_
                               refine block_ret ?_
                               refine then_ret ?_
                               obtain rfl := Option.some.inj H
                               exact ret1 hst rfl rfl ⟨rfl, hsh.pick []⟩
                             · rw [if_neg c2598] at H
                               replace c2598 := Bool.eq_false_iff.2 c2598
                               refine wq_condF hst rfl c2598 ?_
                               refine wq_skip ?_
                               refine block_normal ?_
                               refine then_normal ?_
                               exact ⟨l2570, H, hst.keep _ ⟨rfl, rfl, rfl, rfl, rfl, rfl, rfl, rfl, rfl, rfl, trivial⟩, hsh.pick [0]⟩
                     · intro hj
                       by_cases c2578 : (!r2576) = true
                       · refine r_not hst 39 rfl rfl c2578 rfl ?_; intro a hst
                         refine r_not hst 39 rfl rfl c2578 rfl ?_; intro a hst
                         refine r_not hst 39 rfl rfl c2578 rfl ?_; intro a hst
                         refine r_not hst 39 rfl rfl c2578 rfl ?_; intro a hst
                         refine r_not hst 39 rfl rfl c2578 rfl ?_; intro a hst
                         refine r_t hst trivial rfl (x_orT (decide (1 < (mget l2570 x2565.Number))) hst rfl c2578 rfl) ?_; intro a hst
                         exact hj _ (hst.keep _ ⟨rfl, rfl, rfl, rfl, rfl, rfl, rfl, rfl, rfl, rfl, rfl, rfl, rfl, trivial⟩)
                       · replace c2578 := Bool.eq_false_iff.2 c2578
                         refine r_t hst (wt_of 39 rfl rfl c2578) rfl (x_move hst rfl) ?_; intro a hst
                         refine r_t hst (wt_of 39 rfl rfl c2578) rfl (x_fieldAddr (j' := 0) hst fa_43_0 rfl rfl) ?_; intro a hst
                         refine r_t hst (wt_of 39 rfl rfl c2578) rfl (x_loadB (i := 1) hst hsh sc_3 rfl rfl rfl) ?_; intro a hst
                         refine r_t hst (wt_of 39 rfl rfl c2578) rfl (x_lookupI (i := 0) hst hsh Try.underlying66 Try.underlying3 Try.underlying3 (fun _ => by kernel_rfl) rfl rfl rfl c2569) ?_; intro a hst
                         refine r_t hst (wt_of 39 rfl rfl c2578) rfl (x_cmpI (b := decide (1 < (mget l2570 x2565.Number))) hst rfl rfl rfl) ?_; intro a hst
                         refine r_t hst trivial rfl (x_orF hst rfl c2578 rfl) ?_; intro a hst
                         exact hj _ (hst.keep _ ⟨rfl, rfl, rfl, rfl, rfl, rfl, rfl, rfl, rfl, rfl, rfl, rfl, rfl, trivial⟩)
                   · rw [if_neg c2569] at H; cases H
               · rw [if_neg c2530] at H
                 replace c2530 := Bool.eq_false_iff.2 c2530
                 refine wq_condF hst rfl c2530 ?_
                 refine wq_exit ?_
                 refine then_exit ?_
                 refine then_exit ?_
                 refine block_hit ?_
                 refine block_normal ?_
                 refine then_normal ?_
                 exact ⟨l_268, H, hst.keep _ ⟨rfl, rfl, rfl, rfl, rfl, trivial⟩, hsh.pick [0]⟩
        · rw [if_neg c2168] at H
          replace c2168 := Bool.eq_false_iff.2 c2168
          refine wq_condF hst rfl c2168 ?_
          refine wq_exit ?_
          refine then_exit ?_
          refine then_exit ?_
          refine block_hit ?_
          refine then_normal ?_
          refine wq_seq ?_
          refine wq_region_lit (.inl rfl) ?_
          refine r_t hst trivial rfl (x_assign hst rfl) ?_; intro a hst
          refine wpL_nil ?_
          refine then_normal ?_
          refine wq_ret ?_
          obtain rfl := Option.some.inj H
          exact ret1 hst rfl rfl ⟨rfl, hsh.pick []⟩
 · intro hj
   by_cases c3 : (decide ((a0.length : Int) < 1)) = true
   · refine r_not hst 11 rfl rfl c3 rfl ?_; intro a hst
     refine r_not hst 11 rfl rfl c3 rfl ?_; intro a hst
     refine r_not hst 11 rfl rfl c3 rfl ?_; intro a hst
     refine r_t hst trivial rfl (x_orT (decide (7 < (a0.length : Int))) hst rfl c3 rfl) ?_; intro a hst
     exact hj _ (hst.keep _ ⟨rfl, rfl, rfl, trivial⟩)
   · replace c3 := Bool.eq_false_iff.2 c3
     refine r_t hst (wt_of 11 rfl rfl c3) rfl (x_move hst rfl) ?_; intro a hst
     refine r_t hst (wt_of 11 rfl rfl c3) rfl (x_lenSl hst Try.underlying23 rfl hra0.slen) ?_; intro a hst
     refine r_t hst (wt_of 11 rfl rfl c3) rfl (x_cmpI (b := decide (7 < (a0.length : Int))) hst rfl rfl rfl) ?_; intro a hst
     refine r_t hst trivial rfl (x_orF hst rfl c3 rfl) ?_; intro a hst
     exact hj _ (hst.keep _ ⟨rfl, rfl, rfl, trivial⟩)

set_option maxHeartbeats 4000000 in
set_option maxRecDepth 100000 in
theorem r16_May.calls (w : World) (a0 : File) (r : Bool) (h : r16_May a0 = some r) :
    Calls Try.prog 38 ([.agg #[.int .i64 a0.Number, .int .i64 a0.Size, .string a0.Least, .string a0.Limit, .int .u64 a0.Low, .int .u64 a0.High]] : List Value).toArray w fun e w' => e = .returned (.bool r) ∧ SH (fun _ => False) w w' [] := by
 have H := h
 clear h
 unfold r16_May at H
 refine calls_enter Try.func38 rfl rfl ?_
 intro a hst
 have hsh := SH.zero (fun _ => False) w
 refine wq_seq ?_
 refine wq_region_lit (.inl rfl) ?_
 refine r_box hst hsh trivial rfl rfl rfl ?_
 intro g1 a w2 hgg1 hsh hst
 refine r_t hst trivial rfl (x_assign hst rfl) ?_; intro a hst
 refine wpL_nil ?_
 refine then_normal ?_
 refine wq_seq ?_
 refine wq_region_lit (.inl rfl) ?_
 refine r_t hst trivial rfl (x_fieldAddr (j' := 0) hst fa_43_0 rfl rfl) ?_; intro a hst
 refine r_t hst trivial rfl (x_loadB (i := 0) hst hsh sc_3 rfl rfl rfl) ?_; intro a hst
 refine r_t hst trivial rfl (x_cmpI (b := decide (1 ≤ a0.Number)) hst rfl rfl rfl) ?_; intro a hst
 refine r_t hst trivial rfl (x_move hst rfl) ?_; intro a hst
 refine wl_join0 (Δ := []) (N := Try.f38.ntmps) 8 [(1, .pointer (some ⟨g1, 0, none⟩)), (2, .bool false), (10, .bool ((decide (1 ≤ a0.Number)) && (decide (a0.Number ≤ 2147483647))))] ?_ ?_
 · intro a hst
   refine r_t hst trivial rfl (x_move hst rfl) ?_; intro a hst
   refine wl_join0 (Δ := []) (N := Try.f38.ntmps) 13 [(1, .pointer (some ⟨g1, 0, none⟩)), (2, .bool false), (15, .bool (((decide (1 ≤ a0.Number)) && (decide (a0.Number ≤ 2147483647))) && (decide (1 ≤ a0.Size))))] ?_ ?_
   · intro a hst
     refine r_t hst trivial rfl (x_move hst rfl) ?_; intro a hst
     refine wl_join0 (Δ := []) (N := Try.f38.ntmps) 18 [(1, .pointer (some ⟨g1, 0, none⟩)), (2, .bool false), (20, .bool ((((decide (1 ≤ a0.Number)) && (decide (a0.Number ≤ 2147483647))) && (decide (1 ≤ a0.Size))) && (decide (a0.Size ≤ 268435456))))] ?_ ?_
     · intro a hst
       refine r_t hst trivial rfl (x_move hst rfl) ?_; intro a hst
       refine wl_join0 (Δ := []) (N := Try.f38.ntmps) 24 [(1, .pointer (some ⟨g1, 0, none⟩)), (2, .bool false), (26, .bool (((((decide (1 ≤ a0.Number)) && (decide (a0.Number ≤ 2147483647))) && (decide (1 ≤ a0.Size))) && (decide (a0.Size ≤ 268435456))) && (decide (1 ≤ (a0.Least.size : Int)))))] ?_ ?_
       · intro a hst
         refine r_t hst trivial rfl (x_move hst rfl) ?_; intro a hst
         refine wl_join0 (Δ := []) (N := Try.f38.ntmps) 30 [(1, .pointer (some ⟨g1, 0, none⟩)), (2, .bool false), (32, .bool ((((((decide (1 ≤ a0.Number)) && (decide (a0.Number ≤ 2147483647))) && (decide (1 ≤ a0.Size))) && (decide (a0.Size ≤ 268435456))) && (decide (1 ≤ (a0.Least.size : Int)))) && (decide ((a0.Least.size : Int) ≤ 1024))))] ?_ ?_
         · intro a hst
           refine r_t hst trivial rfl (x_move hst rfl) ?_; intro a hst
           refine wl_join0 (Δ := []) (N := Try.f38.ntmps) 36 [(1, .pointer (some ⟨g1, 0, none⟩)), (2, .bool false), (38, .bool (((((((decide (1 ≤ a0.Number)) && (decide (a0.Number ≤ 2147483647))) && (decide (1 ≤ a0.Size))) && (decide (a0.Size ≤ 268435456))) && (decide (1 ≤ (a0.Least.size : Int)))) && (decide ((a0.Least.size : Int) ≤ 1024))) && (decide ((a0.Limit.size : Int) ≤ 1025))))] ?_ ?_
           · intro a hst
             refine r_t hst trivial rfl (x_move hst rfl) ?_; intro a hst
             refine wl_join0 (Δ := []) (N := Try.f38.ntmps) 43 [(1, .pointer (some ⟨g1, 0, none⟩)), (2, .bool false), (45, .bool ((((((((decide (1 ≤ a0.Number)) && (decide (a0.Number ≤ 2147483647))) && (decide (1 ≤ a0.Size))) && (decide (a0.Size ≤ 268435456))) && (decide (1 ≤ (a0.Least.size : Int)))) && (decide ((a0.Least.size : Int) ≤ 1024))) && (decide ((a0.Limit.size : Int) ≤ 1025))) && (sLt a0.Least a0.Limit)))] ?_ ?_
             · intro a hst
               refine r_t hst trivial rfl (x_move hst rfl) ?_; intro a hst
               refine wl_join0 (Δ := []) (N := Try.f38.ntmps) 48 [(1, .pointer (some ⟨g1, 0, none⟩)), (2, .bool false), (50, .bool (((((((((decide (1 ≤ a0.Number)) && (decide (a0.Number ≤ 2147483647))) && (decide (1 ≤ a0.Size))) && (decide (a0.Size ≤ 268435456))) && (decide (1 ≤ (a0.Least.size : Int)))) && (decide ((a0.Least.size : Int) ≤ 1024))) && (decide ((a0.Limit.size : Int) ≤ 1025))) && (sLt a0.Least a0.Limit)) && (decide (1 ≤ a0.Low))))] ?_ ?_
               · intro a hst
                 refine r_t hst trivial rfl (x_move hst rfl) ?_; intro a hst
                 refine wl_join0 (Δ := []) (N := Try.f38.ntmps) 55 [(1, .pointer (some ⟨g1, 0, none⟩)), (2, .bool false), (57, .bool ((((((((((decide (1 ≤ a0.Number)) && (decide (a0.Number ≤ 2147483647))) && (decide (1 ≤ a0.Size))) && (decide (a0.Size ≤ 268435456))) && (decide (1 ≤ (a0.Least.size : Int)))) && (decide ((a0.Least.size : Int) ≤ 1024))) && (decide ((a0.Limit.size : Int) ≤ 1025))) && (sLt a0.Least a0.Limit)) && (decide (1 ≤ a0.Low))) && (decide (a0.Low ≤ a0.High))))] ?_ ?_
                 · intro a hst
                   refine r_t hst trivial rfl (x_move hst rfl) ?_; intro a hst
                   refine wl_join0 (Δ := []) (N := Try.f38.ntmps) 60 [(2, .bool false), (62, .bool (((((((((((decide (1 ≤ a0.Number)) && (decide (a0.Number ≤ 2147483647))) && (decide (1 ≤ a0.Size))) && (decide (a0.Size ≤ 268435456))) && (decide (1 ≤ (a0.Least.size : Int)))) && (decide ((a0.Least.size : Int) ≤ 1024))) && (decide ((a0.Limit.size : Int) ≤ 1025))) && (sLt a0.Least a0.Limit)) && (decide (1 ≤ a0.Low))) && (decide (a0.Low ≤ a0.High))) && (decide (a0.High ≤ 72057594037927935))))] ?_ ?_
                   · intro a hst
                     refine r_t hst trivial rfl (x_assign hst rfl) ?_; intro a hst
                     refine wpL_nil ?_
                     refine then_normal ?_
                     refine wq_ret ?_
                     obtain rfl := Option.some.inj H
                     exact ret1 hst rfl rfl ⟨rfl, hsh.pick []⟩
                   · intro hj
                     by_cases c12 : ((((((((((decide (1 ≤ a0.Number)) && (decide (a0.Number ≤ 2147483647))) && (decide (1 ≤ a0.Size))) && (decide (a0.Size ≤ 268435456))) && (decide (1 ≤ (a0.Least.size : Int)))) && (decide ((a0.Least.size : Int) ≤ 1024))) && (decide ((a0.Limit.size : Int) ≤ 1025))) && (sLt a0.Least a0.Limit)) && (decide (1 ≤ a0.Low))) && (decide (a0.Low ≤ a0.High))) = true
                     · refine r_t hst (wt_of 58 rfl rfl c12) rfl (x_fieldAddr (j' := 5) hst fa_43_5 rfl rfl) ?_; intro a hst
                       refine r_t hst (wt_of 58 rfl rfl c12) rfl (x_loadB (i := 0) hst hsh sc_24 rfl rfl rfl) ?_; intro a hst
                       refine r_t hst (wt_of 58 rfl rfl c12) rfl (x_cmpI (b := decide (a0.High ≤ 72057594037927935)) hst rfl rfl rfl) ?_; intro a hst
                       refine r_t hst trivial rfl (x_andT hst rfl c12 rfl) ?_; intro a hst
                       exact hj _ (hst.keep _ ⟨rfl, rfl, trivial⟩)
                     · replace c12 := Bool.eq_false_iff.2 c12
                       refine r_not hst 58 rfl rfl c12 rfl ?_; intro a hst
                       refine r_not hst 58 rfl rfl c12 rfl ?_; intro a hst
                       refine r_not hst 58 rfl rfl c12 rfl ?_; intro a hst
                       refine r_t hst trivial rfl (x_andF (decide (a0.High ≤ 72057594037927935)) hst rfl c12 rfl) ?_; intro a hst
                       exact hj _ (hst.keep _ ⟨rfl, rfl, trivial⟩)
                 · intro hj
                   by_cases c11 : (((((((((decide (1 ≤ a0.Number)) && (decide (a0.Number ≤ 2147483647))) && (decide (1 ≤ a0.Size))) && (decide (a0.Size ≤ 268435456))) && (decide (1 ≤ (a0.Least.size : Int)))) && (decide ((a0.Least.size : Int) ≤ 1024))) && (decide ((a0.Limit.size : Int) ≤ 1025))) && (sLt a0.Least a0.Limit)) && (decide (1 ≤ a0.Low))) = true
                   · refine r_t hst (wt_of 51 rfl rfl c11) rfl (x_fieldAddr (j' := 4) hst fa_43_4 rfl rfl) ?_; intro a hst
                     refine r_t hst (wt_of 51 rfl rfl c11) rfl (x_loadB (i := 0) hst hsh sc_24 rfl rfl rfl) ?_; intro a hst
                     refine r_t hst (wt_of 51 rfl rfl c11) rfl (x_fieldAddr (j' := 5) hst fa_43_5 rfl rfl) ?_; intro a hst
                     refine r_t hst (wt_of 51 rfl rfl c11) rfl (x_loadB (i := 0) hst hsh sc_24 rfl rfl rfl) ?_; intro a hst
                     refine r_t hst (wt_of 51 rfl rfl c11) rfl (x_cmpI (b := decide (a0.Low ≤ a0.High)) hst rfl rfl rfl) ?_; intro a hst
                     refine r_t hst trivial rfl (x_andT hst rfl c11 rfl) ?_; intro a hst
                     exact hj _ (hst.keep _ ⟨rfl, rfl, rfl, trivial⟩)
                   · replace c11 := Bool.eq_false_iff.2 c11
                     refine r_not hst 51 rfl rfl c11 rfl ?_; intro a hst
                     refine r_not hst 51 rfl rfl c11 rfl ?_; intro a hst
                     refine r_not hst 51 rfl rfl c11 rfl ?_; intro a hst
                     refine r_not hst 51 rfl rfl c11 rfl ?_; intro a hst
                     refine r_not hst 51 rfl rfl c11 rfl ?_; intro a hst
                     refine r_t hst trivial rfl (x_andF (decide (a0.Low ≤ a0.High)) hst rfl c11 rfl) ?_; intro a hst
                     exact hj _ (hst.keep _ ⟨rfl, rfl, rfl, trivial⟩)
               · intro hj
                 by_cases c10 : ((((((((decide (1 ≤ a0.Number)) && (decide (a0.Number ≤ 2147483647))) && (decide (1 ≤ a0.Size))) && (decide (a0.Size ≤ 268435456))) && (decide (1 ≤ (a0.Least.size : Int)))) && (decide ((a0.Least.size : Int) ≤ 1024))) && (decide ((a0.Limit.size : Int) ≤ 1025))) && (sLt a0.Least a0.Limit)) = true
                 · refine r_t hst (wt_of 46 rfl rfl c10) rfl (x_fieldAddr (j' := 4) hst fa_43_4 rfl rfl) ?_; intro a hst
                   refine r_t hst (wt_of 46 rfl rfl c10) rfl (x_loadB (i := 0) hst hsh sc_24 rfl rfl rfl) ?_; intro a hst
                   refine r_t hst (wt_of 46 rfl rfl c10) rfl (x_cmpI (b := decide (1 ≤ a0.Low)) hst rfl rfl rfl) ?_; intro a hst
                   refine r_t hst trivial rfl (x_andT hst rfl c10 rfl) ?_; intro a hst
                   exact hj _ (hst.keep _ ⟨rfl, rfl, rfl, trivial⟩)
                 · replace c10 := Bool.eq_false_iff.2 c10
                   refine r_not hst 46 rfl rfl c10 rfl ?_; intro a hst
                   refine r_not hst 46 rfl rfl c10 rfl ?_; intro a hst
                   refine r_not hst 46 rfl rfl c10 rfl ?_; intro a hst
                   refine r_t hst trivial rfl (x_andF (decide (1 ≤ a0.Low)) hst rfl c10 rfl) ?_; intro a hst
                   exact hj _ (hst.keep _ ⟨rfl, rfl, rfl, trivial⟩)
             · intro hj
               by_cases c9 : (((((((decide (1 ≤ a0.Number)) && (decide (a0.Number ≤ 2147483647))) && (decide (1 ≤ a0.Size))) && (decide (a0.Size ≤ 268435456))) && (decide (1 ≤ (a0.Least.size : Int)))) && (decide ((a0.Least.size : Int) ≤ 1024))) && (decide ((a0.Limit.size : Int) ≤ 1025))) = true
               · refine r_t hst (wt_of 39 rfl rfl c9) rfl (x_fieldAddr (j' := 2) hst fa_43_2 rfl rfl) ?_; intro a hst
                 refine r_t hst (wt_of 39 rfl rfl c9) rfl (x_loadB (i := 0) hst hsh sc_9 rfl rfl rfl) ?_; intro a hst
                 refine r_t hst (wt_of 39 rfl rfl c9) rfl (x_fieldAddr (j' := 3) hst fa_43_3 rfl rfl) ?_; intro a hst
                 refine r_t hst (wt_of 39 rfl rfl c9) rfl (x_loadB (i := 0) hst hsh sc_9 rfl rfl rfl) ?_; intro a hst
                 refine r_t hst (wt_of 39 rfl rfl c9) rfl (x_cmpS (b := sLt a0.Least a0.Limit) hst rfl rfl rfl) ?_; intro a hst
                 refine r_t hst trivial rfl (x_andT hst rfl c9 rfl) ?_; intro a hst
                 exact hj _ (hst.keep _ ⟨rfl, rfl, rfl, trivial⟩)
               · replace c9 := Bool.eq_false_iff.2 c9
                 refine r_not hst 39 rfl rfl c9 rfl ?_; intro a hst
                 refine r_not hst 39 rfl rfl c9 rfl ?_; intro a hst
                 refine r_not hst 39 rfl rfl c9 rfl ?_; intro a hst
                 refine r_not hst 39 rfl rfl c9 rfl ?_; intro a hst
                 refine r_not hst 39 rfl rfl c9 rfl ?_; intro a hst
                 refine r_t hst trivial rfl (x_andF (sLt a0.Least a0.Limit) hst rfl c9 rfl) ?_; intro a hst
                 exact hj _ (hst.keep _ ⟨rfl, rfl, rfl, trivial⟩)
           · intro hj
             by_cases c8 : ((((((decide (1 ≤ a0.Number)) && (decide (a0.Number ≤ 2147483647))) && (decide (1 ≤ a0.Size))) && (decide (a0.Size ≤ 268435456))) && (decide (1 ≤ (a0.Least.size : Int)))) && (decide ((a0.Least.size : Int) ≤ 1024))) = true
             · refine r_t hst (wt_of 33 rfl rfl c8) rfl (x_fieldAddr (j' := 3) hst fa_43_3 rfl rfl) ?_; intro a hst
               refine r_t hst (wt_of 33 rfl rfl c8) rfl (x_loadB (i := 0) hst hsh sc_9 rfl rfl rfl) ?_; intro a hst
               refine r_t hst (wt_of 33 rfl rfl c8) rfl (x_lenStr hst Try.underlying9 rfl) ?_; intro a hst
               refine r_t hst (wt_of 33 rfl rfl c8) rfl (x_cmpI (b := decide ((a0.Limit.size : Int) ≤ 1025)) hst rfl rfl rfl) ?_; intro a hst
               refine r_t hst trivial rfl (x_andT hst rfl c8 rfl) ?_; intro a hst
               exact hj _ (hst.keep _ ⟨rfl, rfl, rfl, trivial⟩)
             · replace c8 := Bool.eq_false_iff.2 c8
               refine r_not hst 33 rfl rfl c8 rfl ?_; intro a hst
               refine r_not hst 33 rfl rfl c8 rfl ?_; intro a hst
               refine r_not hst 33 rfl rfl c8 rfl ?_; intro a hst
               refine r_not hst 33 rfl rfl c8 rfl ?_; intro a hst
               refine r_t hst trivial rfl (x_andF (decide ((a0.Limit.size : Int) ≤ 1025)) hst rfl c8 rfl) ?_; intro a hst
               exact hj _ (hst.keep _ ⟨rfl, rfl, rfl, trivial⟩)
         · intro hj
           by_cases c7 : (((((decide (1 ≤ a0.Number)) && (decide (a0.Number ≤ 2147483647))) && (decide (1 ≤ a0.Size))) && (decide (a0.Size ≤ 268435456))) && (decide (1 ≤ (a0.Least.size : Int)))) = true
           · refine r_t hst (wt_of 27 rfl rfl c7) rfl (x_fieldAddr (j' := 2) hst fa_43_2 rfl rfl) ?_; intro a hst
             refine r_t hst (wt_of 27 rfl rfl c7) rfl (x_loadB (i := 0) hst hsh sc_9 rfl rfl rfl) ?_; intro a hst
             refine r_t hst (wt_of 27 rfl rfl c7) rfl (x_lenStr hst Try.underlying9 rfl) ?_; intro a hst
             refine r_t hst (wt_of 27 rfl rfl c7) rfl (x_cmpI (b := decide ((a0.Least.size : Int) ≤ 1024)) hst rfl rfl rfl) ?_; intro a hst
             refine r_t hst trivial rfl (x_andT hst rfl c7 rfl) ?_; intro a hst
             exact hj _ (hst.keep _ ⟨rfl, rfl, rfl, trivial⟩)
           · replace c7 := Bool.eq_false_iff.2 c7
             refine r_not hst 27 rfl rfl c7 rfl ?_; intro a hst
             refine r_not hst 27 rfl rfl c7 rfl ?_; intro a hst
             refine r_not hst 27 rfl rfl c7 rfl ?_; intro a hst
             refine r_not hst 27 rfl rfl c7 rfl ?_; intro a hst
             refine r_t hst trivial rfl (x_andF (decide ((a0.Least.size : Int) ≤ 1024)) hst rfl c7 rfl) ?_; intro a hst
             exact hj _ (hst.keep _ ⟨rfl, rfl, rfl, trivial⟩)
       · intro hj
         by_cases c6 : ((((decide (1 ≤ a0.Number)) && (decide (a0.Number ≤ 2147483647))) && (decide (1 ≤ a0.Size))) && (decide (a0.Size ≤ 268435456))) = true
         · refine r_t hst (wt_of 21 rfl rfl c6) rfl (x_fieldAddr (j' := 2) hst fa_43_2 rfl rfl) ?_; intro a hst
           refine r_t hst (wt_of 21 rfl rfl c6) rfl (x_loadB (i := 0) hst hsh sc_9 rfl rfl rfl) ?_; intro a hst
           refine r_t hst (wt_of 21 rfl rfl c6) rfl (x_lenStr hst Try.underlying9 rfl) ?_; intro a hst
           refine r_t hst (wt_of 21 rfl rfl c6) rfl (x_cmpI (b := decide (1 ≤ (a0.Least.size : Int))) hst rfl rfl rfl) ?_; intro a hst
           refine r_t hst trivial rfl (x_andT hst rfl c6 rfl) ?_; intro a hst
           exact hj _ (hst.keep _ ⟨rfl, rfl, rfl, trivial⟩)
         · replace c6 := Bool.eq_false_iff.2 c6
           refine r_not hst 21 rfl rfl c6 rfl ?_; intro a hst
           refine r_not hst 21 rfl rfl c6 rfl ?_; intro a hst
           refine r_not hst 21 rfl rfl c6 rfl ?_; intro a hst
           refine r_not hst 21 rfl rfl c6 rfl ?_; intro a hst
           refine r_t hst trivial rfl (x_andF (decide (1 ≤ (a0.Least.size : Int))) hst rfl c6 rfl) ?_; intro a hst
           exact hj _ (hst.keep _ ⟨rfl, rfl, rfl, trivial⟩)
     · intro hj
       by_cases c5 : (((decide (1 ≤ a0.Number)) && (decide (a0.Number ≤ 2147483647))) && (decide (1 ≤ a0.Size))) = true
       · refine r_t hst (wt_of 16 rfl rfl c5) rfl (x_fieldAddr (j' := 1) hst fa_43_1 rfl rfl) ?_; intro a hst
         refine r_t hst (wt_of 16 rfl rfl c5) rfl (x_loadB (i := 0) hst hsh sc_3 rfl rfl rfl) ?_; intro a hst
         refine r_t hst (wt_of 16 rfl rfl c5) rfl (x_cmpI (b := decide (a0.Size ≤ 268435456)) hst rfl rfl rfl) ?_; intro a hst
         refine r_t hst trivial rfl (x_andT hst rfl c5 rfl) ?_; intro a hst
         exact hj _ (hst.keep _ ⟨rfl, rfl, rfl, trivial⟩)
       · replace c5 := Bool.eq_false_iff.2 c5
         refine r_not hst 16 rfl rfl c5 rfl ?_; intro a hst
         refine r_not hst 16 rfl rfl c5 rfl ?_; intro a hst
         refine r_not hst 16 rfl rfl c5 rfl ?_; intro a hst
         refine r_t hst trivial rfl (x_andF (decide (a0.Size ≤ 268435456)) hst rfl c5 rfl) ?_; intro a hst
         exact hj _ (hst.keep _ ⟨rfl, rfl, rfl, trivial⟩)
   · intro hj
     by_cases c4 : ((decide (1 ≤ a0.Number)) && (decide (a0.Number ≤ 2147483647))) = true
     · refine r_t hst (wt_of 11 rfl rfl c4) rfl (x_fieldAddr (j' := 1) hst fa_43_1 rfl rfl) ?_; intro a hst
       refine r_t hst (wt_of 11 rfl rfl c4) rfl (x_loadB (i := 0) hst hsh sc_3 rfl rfl rfl) ?_; intro a hst
       refine r_t hst (wt_of 11 rfl rfl c4) rfl (x_cmpI (b := decide (1 ≤ a0.Size)) hst rfl rfl rfl) ?_; intro a hst
       refine r_t hst trivial rfl (x_andT hst rfl c4 rfl) ?_; intro a hst
       exact hj _ (hst.keep _ ⟨rfl, rfl, rfl, trivial⟩)
     · replace c4 := Bool.eq_false_iff.2 c4
       refine r_not hst 11 rfl rfl c4 rfl ?_; intro a hst
       refine r_not hst 11 rfl rfl c4 rfl ?_; intro a hst
       refine r_not hst 11 rfl rfl c4 rfl ?_; intro a hst
       refine r_t hst trivial rfl (x_andF (decide (1 ≤ a0.Size)) hst rfl c4 rfl) ?_; intro a hst
       exact hj _ (hst.keep _ ⟨rfl, rfl, rfl, trivial⟩)
 · intro hj
   by_cases c3 : (decide (1 ≤ a0.Number)) = true
   · refine r_t hst (wt_of 6 rfl rfl c3) rfl (x_fieldAddr (j' := 0) hst fa_43_0 rfl rfl) ?_; intro a hst
     refine r_t hst (wt_of 6 rfl rfl c3) rfl (x_loadB (i := 0) hst hsh sc_3 rfl rfl rfl) ?_; intro a hst
     refine r_t hst (wt_of 6 rfl rfl c3) rfl (x_cmpI (b := decide (a0.Number ≤ 2147483647)) hst rfl rfl rfl) ?_; intro a hst
     refine r_t hst trivial rfl (x_andT hst rfl c3 rfl) ?_; intro a hst
     exact hj _ (hst.keep _ ⟨rfl, rfl, rfl, trivial⟩)
   · replace c3 := Bool.eq_false_iff.2 c3
     refine r_not hst 6 rfl rfl c3 rfl ?_; intro a hst
     refine r_not hst 6 rfl rfl c3 rfl ?_; intro a hst
     refine r_not hst 6 rfl rfl c3 rfl ?_; intro a hst
     refine r_t hst trivial rfl (x_andF (decide (a0.Number ≤ 2147483647)) hst rfl c3 rfl) ?_; intro a hst
     exact hj _ (hst.keep _ ⟨rfl, rfl, rfl, trivial⟩)

set_option maxHeartbeats 4000000 in
set_option maxRecDepth 100000 in
theorem r16_sorted.calls (k : Nat) (w : World) (va0 : Value) (Za0 : Nat → Prop) (wra0 : World) (hsa0 : Same Za0 wra0 w) (a0 : (List Int)) (hra0 : RD (Kd.int .i64) Za0 wra0 va0 a0) (r : (List Int)) (h : r16_sorted k a0 = some r) :
    Calls Try.prog 58 ([va0] : List Value).toArray w fun e w' => ∃ v0_ : Value, e = .returned (v0_) ∧ SH (fun _ => False) w w' [Row (Kd.int .i64) 3 v0_ r] := by
 have H := h
 clear h
 unfold r16_sorted at H
 refine calls_enter Try.func58 rfl rfl ?_
 intro a hst
 have hsh := SH.zero (fun _ => False) w
 refine wq_seq ?_
 refine wq_region_lit (.inl rfl) ?_
 refine r_t hst trivial rfl (x_assign hst rfl) ?_; intro a hst
 refine wpL_nil ?_
 refine then_normal ?_
 refine wq_seq ?_
 refine wq_region_lit (.inl rfl) ?_
 refine r_t hst trivial rfl (x_assign hst rfl) ?_; intro a hst
 refine wpL_nil ?_
 refine then_normal ?_
 refine wq_seq ?_
 refine wq_seq ?_
 refine wq_region_lit (.inl rfl) ?_
 refine r_t hst trivial rfl (x_assign hst rfl) ?_; intro a hst
 refine wpL_nil ?_
 refine then_normal ?_
 refine wq_block ?_
 have hsh := hsh.addNil (Kd.int .i64) 3
 refine wq_loop_fuel (fun k_346 a w' => ∃ (v_275 : Value), ∃ (l_276 : (List Int)), ∃ (i_277 : Int), r16_sorted.l0 a0 k_346 l_276 i_277 = some r ∧ ST [] Try.f58.ntmps a [(0, va0), (2, (.slice none 0 0)), (3, v_275), (4, .int .i64 i_277)] ∧ SH (fun _ => False) w w' [Row (Kd.int .i64) 3 v_275 l_276]) k ?_ ?_
 · exact ⟨(.slice none 0 0), ([]), 0, H, hst.keep _ ⟨rfl, rfl, rfl, rfl, trivial⟩, hsh.pick [0]⟩
 · rintro k_346 a W_278 ⟨v_275, l_276, i_277, H, hst, hsh⟩
   cases k_346 with
   | zero => rw [r16_sorted.l0] at H; cases H
   | succ k_346 =>
    rw [r16_sorted.l0] at H
    refine wq_seq ?_
    refine wq_seq ?_
    refine wq_region_lit (.inl rfl) ?_
    refine r_t hst trivial rfl (x_move hst rfl) ?_; intro a hst
    refine r_t hst trivial rfl (x_move hst rfl) ?_; intro a hst
    refine r_t hst trivial rfl (x_lenSl hst Try.underlying56 rfl hra0.slen) ?_; intro a hst
    refine r_t hst trivial rfl (x_cmpI (b := decide (i_277 < (a0.length : Int))) hst rfl rfl rfl) ?_; intro a hst
    refine wpL_nil ?_
    refine then_normal ?_
    by_cases c827 : (decide (i_277 < (a0.length : Int))) = true
    · rw [if_pos c827] at H
      refine wq_condT hst rfl c827 ?_
      refine wq_skip ?_
      refine then_normal ?_
      obtain ⟨J_379, hJ_379, H⟩ := Jn.elim H
      refine wq_cut (fun a w' => ∃ (v_376 : Value), ∃ (l_377 : (List Int)), J_379 l_377 = some r ∧ ST [] Try.f58.ntmps a [(0, va0), (2, (.slice none 0 0)), (3, v_376), (4, .int .i64 i_277)] ∧ SH (fun _ => False) w w' [Row (Kd.int .i64) 3 v_376 l_377]) ?_ ?_
      · rintro a W_378 ⟨v_376, l_377, H, hst, hsh⟩
        subst hJ_379
        dsimp only at H
        refine wq_region_lit (.inl rfl) ?_
        refine r_t hst trivial rfl (x_move hst rfl) ?_; intro a hst
        refine r_t hst trivial rfl (x_arI (r := w64 (i_277 + 1)) hst rfl rfl rfl) ?_; intro a hst
        refine r_t hst trivial rfl (x_assign hst rfl) ?_; intro a hst
        refine wpL_nil ?_
        refine then_normal ?_
        exact ⟨k_346, Nat.lt_succ_self _, v_376, l_377, (w64 (i_277 + 1)), H, hst.keep _ ⟨rfl, rfl, rfl, rfl, trivial⟩, hsh.pick [0]⟩
      · refine wq_block ?_
        refine wq_seq ?_
        refine wq_region_lit (.inl rfl) ?_
        refine r_t hst trivial rfl (x_move hst rfl) ?_; intro a hst
        refine r_t hst trivial rfl (x_lenSl hst Try.underlying56 rfl (hsh.row 0 rfl).slen) ?_; intro a hst
        refine r_t hst trivial rfl (x_assign hst rfl) ?_; intro a hst
        refine wpL_nil ?_
        refine then_normal ?_
        refine wq_seq ?_
        refine wq_region_lit (.inl rfl) ?_
        refine r_t hst trivial rfl (x_move hst rfl) ?_; intro a hst
        refine r_t hst trivial rfl (x_move hst rfl) ?_; intro a hst
        refine r_t hst trivial rfl (x_move hst rfl) ?_; intro a hst
        obtain ⟨x909, hx909, H⟩ := Option.bind_eq_some_iff.1 H
        refine r_t hst trivial rfl (x_indexAddr hst Try.underlying56 el_3 rfl rfl hra0 hx909) ?_; intro a hst
        refine r_t hst trivial rfl (x_loadEF (j := 0) (cs := [.int .i64 x909]) hst sc_3 rfl hra0 (Same.sh0 hsa0 hsh) hx909 rfl (fun _ h => h) rfl) ?_; intro a hst
        refine r_buildSlice (vs := [.int .i64 x909]) (cs := [.int .i64 x909]) hst hsh trivial rfl Try.underlying56 el_3 rfl rfl (by simp [Value.cells]) rfl rfl ?_
        intro g910 a w911 hgg910 hsh hst
        replace hsh := hsh.pick [1, 0]
        obtain ⟨l912, hl912, H⟩ := Option.bind_eq_some_iff.1 H
        refine r_append1 (xx := x909) (C := []) (M := []) hst hsh trivial rfl Try.underlying56 el_3 (by decide) (by decide) (by decide) rfl rfl (fun _ _ _ => rfl) hl912 ?_
        intro v913 a w914 hsh hst
        refine r_t hst trivial rfl (x_assign hst rfl) ?_; intro a hst
        refine wpL_nil ?_
        refine then_normal ?_
        refine wq_block ?_
        refine wq_loop_fuel (fun k_402 a w' => ∃ (l_390 : (List Int)), ∃ (i_391 : Int), r16_sorted.l1 J_379 k_402 l_390 i_391 = some r ∧ ST [] Try.f58.ntmps a [(0, va0), (2, (.slice none 0 0)), (3, v913), (4, .int .i64 i_277), (5, .int .i64 i_391)] ∧ SH (fun _ => False) w w' [Row (Kd.int .i64) 3 v913 l_390]) k_346 ?_ ?_
        · exact ⟨l912, (l_276.length : Int), H, hst.keep _ ⟨rfl, rfl, rfl, rfl, rfl, trivial⟩, hsh.pick [0]⟩
        · rintro k_402 a W_392 ⟨l_390, i_391, H, hst, hsh⟩
          cases k_402 with
          | zero => rw [r16_sorted.l1] at H; cases H
          | succ k_402 =>
           rw [r16_sorted.l1] at H
           refine wq_seq ?_
           refine wq_seq ?_
           refine wq_region_q (.inl rfl) (fun w' => SH (fun _ => False) w w' [Row (Kd.int .i64) 3 v913 l_390]) (shut_sh _ _ _) hsh.drew fo (by kernel_rfl) ?_
           refine q_t hst trivial rfl (fun _ hsh => x_move hst rfl) ?_; intro a hst
           refine q_t hst trivial rfl (fun _ hsh => x_cmpI (b := decide (0 < i_391)) hst rfl rfl rfl) ?_; intro a hst
           refine q_t hst trivial rfl (fun _ hsh => x_move hst rfl) ?_; intro a hst
           obtain ⟨J_407, hJ_407, H⟩ := Jn.elim H
           refine q_join 14 (fun a => ∃ (b_406 : Bool), J_407 b_406 = some r ∧ ST [] Try.f58.ntmps a [(0, va0), (2, (.slice none 0 0)), (3, v913), (4, .int .i64 i_277), (5, .int .i64 i_391), (34, .bool b_406)]) ?_ ?_
           · rintro a ⟨b_406, H, hst⟩
             subst hJ_407
             dsimp only at H
             refine q_nil ?_
             intro w975 hsh
             refine then_normal ?_
             by_cases c976 : b_406 = true
             · rw [if_pos c976] at H
               refine wq_condT hst rfl c976 ?_
               refine wq_skip ?_
               refine then_normal ?_
               refine wq_block ?_
               refine wq_seq ?_
               have hw976_0 := hsh.row 0 rfl
               refine wq_region_t (.inl rfl) (.fin [(3, 0), (3, 1), (3, 2), (3, 3), (3, 4), (3, 5), (3, 6), (3, 7), (0, 8), (3, 9), (3, 10), (3, 11), (3, 12), (0, 13), (3, 14), (2, 15), (0, 16), (2, 17)]) (fun w' => SH (fun _ => False) w w' []) (fun w' => SH (fun _ => False) w w' [Row (Kd.int .i64) 3 v913 l_390]) (fun w' => SH (fun _ => False) w w' [Row (Kd.int .i64) 3 v913 l_390]) (shut_sh _ _ _) (shut_sh _ _ _) (shut_sh _ _ _) (sub_sh [] rfl) (sub_sh [0] rfl) hsh.drew fo (by kernel_rfl) ?_
               refine t_fin ?_
               refine m_p hst trivial rfl (fun _ => x_move hst rfl) ?_; intro a hst
               refine m_p hst trivial rfl (fun _ => x_move hst rfl) ?_; intro a hst
               refine m_p hst trivial rfl (fun _ => x_arI (r := w64 (i_391 - 1)) hst rfl rfl rfl) ?_; intro a hst
               refine m_p hst trivial rfl (fun _ => x_move hst rfl) ?_; intro a hst
               refine m_p hst trivial rfl (fun _ => x_move hst rfl) ?_; intro a hst
               refine m_p hst trivial rfl (fun _ => x_move hst rfl) ?_; intro a hst
               refine m_p hst trivial rfl (fun _ => x_move hst rfl) ?_; intro a hst
               obtain ⟨x977, hx977, H⟩ := Option.bind_eq_some_iff.1 H
               refine m_p hst trivial rfl (fun _ => x_indexAddr hst Try.underlying56 el_3 rfl rfl hw976_0 hx977) ?_; intro a hst
               refine m_t hst trivial rfl (fun _ hsh => x_loadEF (j := 0) (cs := [.int .i64 x977]) hst sc_3 rfl (hsh.row 0 rfl) (Same.refl _ _) hx977 rfl (fun _ h => h) rfl) ?_; intro a hst
               refine m_p hst trivial rfl (fun _ => x_move hst rfl) ?_; intro a hst
               refine m_p hst trivial rfl (fun _ => x_move hst rfl) ?_; intro a hst
               refine m_p hst trivial rfl (fun _ => x_arI (r := w64 (i_391 - 1)) hst rfl rfl rfl) ?_; intro a hst
               obtain ⟨x978, hx978, H⟩ := Option.bind_eq_some_iff.1 H
               refine m_p hst trivial rfl (fun _ => x_indexAddr hst Try.underlying56 el_3 rfl rfl hw976_0 hx978) ?_; intro a hst
               refine m_t hst trivial rfl (fun _ hsh => x_loadEF (j := 0) (cs := [.int .i64 x978]) hst sc_3 rfl (hsh.row 0 rfl) (Same.refl _ _) hx978 rfl (fun _ h => h) rfl) ?_; intro a hst
               obtain ⟨x979, hx979, H⟩ := Option.bind_eq_some_iff.1 H
               refine m_p hst trivial rfl (fun _ => x_indexAddr hst Try.underlying56 el_3 rfl rfl hw976_0 hx979) ?_; intro a hst
               refine m_loud (.inr rfl) ?_
               intro w980 hsh
               obtain ⟨l981, hl981, H⟩ := Option.bind_eq_some_iff.1 H
               refine r_storeE (i := 0) (off := 0) (new := x977) (cs' := [.int .i64 x977]) hst hsh trivial sc_3 rfl rfl rfl hx979 rfl (Nat.le_of_ble_eq_true rfl) rfl (fun _ _ _ h => by rw [h]; rfl) (fun _ _ => rfl) ?_; intro a w982 hsh hst
               rw [← upd_some hl981] at hsh
               refine m_turn hsh (sub_sh [] rfl) ?_
               obtain ⟨x983, hx983, H⟩ := Option.bind_eq_some_iff.1 H
               refine m_t hst trivial rfl (fun _ hsh => x_indexAddr hst Try.underlying56 el_3 rfl rfl (hsh.row 0 rfl) hx983) ?_; intro a hst
               refine m_loud (.inr rfl) ?_
               intro w984 hsh
               obtain ⟨l985, hl985, H⟩ := Option.bind_eq_some_iff.1 H
               refine r_storeE (i := 0) (off := 0) (new := x978) (cs' := [.int .i64 x978]) hst hsh trivial sc_3 rfl rfl rfl hx983 rfl (Nat.le_of_ble_eq_true rfl) rfl (fun _ _ _ h => by rw [h]; rfl) (fun _ _ => rfl) ?_; intro a w986 hsh hst
               rw [← upd_some hl985] at hsh
               refine m_turn hsh (sub_sh [] rfl) ?_
               refine m_nil ?_
               intro w987 hsh
               refine qn_normal ?_
               refine then_normal ?_
               refine wq_region_lit (.inl rfl) ?_
               refine r_t hst trivial rfl (x_move hst rfl) ?_; intro a hst
               refine r_t hst trivial rfl (x_arI (r := w64 (i_391 - 1)) hst rfl rfl rfl) ?_; intro a hst
               refine r_t hst trivial rfl (x_assign hst rfl) ?_; intro a hst
               refine wpL_nil ?_
               refine block_normal ?_
               refine then_normal ?_
               exact ⟨k_402, Nat.lt_succ_self _, l985, (w64 (i_391 - 1)), H, hst.keep _ ⟨rfl, rfl, rfl, rfl, rfl, trivial⟩, hsh.pick [0]⟩
             · rw [if_neg c976] at H
               replace c976 := Bool.eq_false_iff.2 c976
               refine wq_condF hst rfl c976 ?_
               refine wq_exit ?_
               refine then_exit ?_
               refine then_exit ?_
               refine block_hit ?_
               refine block_normal ?_
               refine then_normal ?_
               exact ⟨v913, l_390, H, hst.keep _ ⟨rfl, rfl, rfl, rfl, trivial⟩, hsh.pick [0]⟩
           · intro hj
             by_cases c972 : (decide (0 < i_391)) = true
             · rw [if_pos c972] at H
               refine q_t hst (wt_of 23 rfl rfl c972) rfl (fun _ hsh => x_move hst rfl) ?_; intro a hst
               refine q_t hst (wt_of 23 rfl rfl c972) rfl (fun _ hsh => x_move hst rfl) ?_; intro a hst
               refine q_t hst (wt_of 23 rfl rfl c972) rfl (fun _ hsh => x_arI (r := w64 (i_391 - 1)) hst rfl rfl rfl) ?_; intro a hst
               obtain ⟨x988, hx988, H⟩ := Option.bind_eq_some_iff.1 H
               refine q_t hst (wt_of 23 rfl rfl c972) rfl (fun _ hsh => x_indexAddr hst Try.underlying56 el_3 rfl rfl (hsh.row 0 rfl) hx988) ?_; intro a hst
               refine q_t hst (wt_of 23 rfl rfl c972) rfl (fun _ hsh => x_loadEF (j := 0) (cs := [.int .i64 x988]) hst sc_3 rfl (hsh.row 0 rfl) (Same.refl _ _) hx988 rfl (fun _ h => h) rfl) ?_; intro a hst
               refine q_t hst (wt_of 23 rfl rfl c972) rfl (fun _ hsh => x_move hst rfl) ?_; intro a hst
               refine q_t hst (wt_of 23 rfl rfl c972) rfl (fun _ hsh => x_move hst rfl) ?_; intro a hst
               obtain ⟨x989, hx989, H⟩ := Option.bind_eq_some_iff.1 H
               refine q_t hst (wt_of 23 rfl rfl c972) rfl (fun _ hsh => x_indexAddr hst Try.underlying56 el_3 rfl rfl (hsh.row 0 rfl) hx989) ?_; intro a hst
               refine q_t hst (wt_of 23 rfl rfl c972) rfl (fun _ hsh => x_loadEF (j := 0) (cs := [.int .i64 x989]) hst sc_3 rfl (hsh.row 0 rfl) (Same.refl _ _) hx989 rfl (fun _ h => h) rfl) ?_; intro a hst
               refine q_t hst (wt_of 23 rfl rfl c972) rfl (fun _ hsh => x_cmpI (b := decide (x989 < x988)) hst rfl rfl rfl) ?_; intro a hst
               refine q_t hst trivial rfl (fun _ hsh => x_pickT hst rfl c972 rfl) ?_; intro a hst
               exact hj _ ⟨(decide (x989 < x988)), H, hst.keep _ ⟨rfl, rfl, rfl, rfl, rfl, rfl, trivial⟩⟩
             · rw [if_neg c972] at H
               replace c972 := Bool.eq_false_iff.2 c972
               refine q_not hst 23 rfl rfl c972 rfl ?_; intro a hst
               refine q_not hst 23 rfl rfl c972 rfl ?_; intro a hst
               refine q_not hst 23 rfl rfl c972 rfl ?_; intro a hst
               refine q_not hst 23 rfl rfl c972 rfl ?_; intro a hst
               refine q_not hst 23 rfl rfl c972 rfl ?_; intro a hst
               refine q_not hst 23 rfl rfl c972 rfl ?_; intro a hst
               refine q_not hst 23 rfl rfl c972 rfl ?_; intro a hst
               refine q_not hst 23 rfl rfl c972 rfl ?_; intro a hst
               refine q_not hst 23 rfl rfl c972 rfl ?_; intro a hst
               refine q_not hst 23 rfl rfl c972 rfl ?_; intro a hst
               refine q_t hst trivial rfl (fun _ hsh => x_pickF hst rfl c972 rfl) ?_; intro a hst
               exact hj _ ⟨false, H, hst.keep _ ⟨rfl, rfl, rfl, rfl, rfl, rfl, trivial⟩⟩
    · rw [if_neg c827] at H
      replace c827 := Bool.eq_false_iff.2 c827
      refine wq_condF hst rfl c827 ?_
      refine wq_exit ?_
      refine then_exit ?_
      refine then_exit ?_
      refine block_hit ?_
      refine then_normal ?_
      refine wq_seq ?_
      refine wq_region_lit (.inl rfl) ?_
      refine r_t hst trivial rfl (x_move hst rfl) ?_; intro a hst
      refine r_t hst trivial rfl (x_assign hst rfl) ?_; intro a hst
      refine wpL_nil ?_
      refine then_normal ?_
      refine wq_ret ?_
      obtain rfl := Option.some.inj H
      exact ret1 hst rfl rfl ⟨v_275, rfl, hsh.pick [0]⟩

set_option maxHeartbeats 4000000 in
set_option maxRecDepth 100000 in
theorem r16_numbers.calls (k : Nat) (w : World) (va0 : Value) (Za0 : Nat → Prop) (wra0 : World) (hsa0 : Same Za0 wra0 w) (a0 : (List (List File))) (hra0 : RD (Kd.slice 43 k_File) Za0 wra0 va0 a0) (r : (List Int)) (h : r16_numbers k a0 = some r) :
    Calls Try.prog 39 ([va0] : List Value).toArray w fun e w' => ∃ v0_ : Value, e = .returned (v0_) ∧ SH (fun _ => False) w w' [Row (Kd.int .i64) 3 v0_ r] := by
 have H := h
 clear h
 unfold r16_numbers at H
 refine calls_enter Try.func39 rfl rfl ?_
 intro a hst
 have hsh := SH.zero (fun _ => False) w
 refine wq_seq ?_
 refine wq_region_lit (.inl rfl) ?_
 refine r_t hst trivial rfl (x_assign hst rfl) ?_; intro a hst
 refine wpL_nil ?_
 refine then_normal ?_
 refine wq_seq ?_
 refine wq_region_lit (.inl rfl) ?_
 refine r_t hst trivial rfl (x_assign hst rfl) ?_; intro a hst
 refine wpL_nil ?_
 refine then_normal ?_
 refine wq_seq ?_
 refine wq_seq ?_
 refine wq_region_lit (.inl rfl) ?_
 refine r_t hst trivial rfl (x_assign hst rfl) ?_; intro a hst
 refine wpL_nil ?_
 refine then_normal ?_
 refine wq_block ?_
 have hsh := hsh.addNil (Kd.int .i64) 3
 refine wq_loop_fuel (fun k_208 a w' => ∃ (v_167 : Value), ∃ (l_168 : (List Int)), ∃ (i_169 : Int), r16_numbers.l0 a0 k_208 l_168 i_169 = some r ∧ ST [] Try.f39.ntmps a [(0, va0), (2, (.slice none 0 0)), (3, v_167), (4, .int .i64 i_169)] ∧ SH (fun _ => False) w w' [Row (Kd.int .i64) 3 v_167 l_168]) k ?_ ?_
 · exact ⟨(.slice none 0 0), ([]), 0, H, hst.keep _ ⟨rfl, rfl, rfl, rfl, trivial⟩, hsh.pick [0]⟩
 · rintro k_208 a W_170 ⟨v_167, l_168, i_169, H, hst, hsh⟩
   cases k_208 with
   | zero => rw [r16_numbers.l0] at H; cases H
   | succ k_208 =>
    rw [r16_numbers.l0] at H
    refine wq_seq ?_
    refine wq_seq ?_
    refine wq_region_lit (.inl rfl) ?_
    refine r_t hst trivial rfl (x_move hst rfl) ?_; intro a hst
    refine r_t hst trivial rfl (x_move hst rfl) ?_; intro a hst
    refine r_t hst trivial rfl (x_lenSl hst Try.underlying23 rfl hra0.slen) ?_; intro a hst
    refine r_t hst trivial rfl (x_cmpI (b := decide (i_169 < (a0.length : Int))) hst rfl rfl rfl) ?_; intro a hst
    refine wpL_nil ?_
    refine then_normal ?_
    by_cases c1045 : (decide (i_169 < (a0.length : Int))) = true
    · rw [if_pos c1045] at H
      refine wq_condT hst rfl c1045 ?_
      refine wq_skip ?_
      refine then_normal ?_
      obtain ⟨J_226, hJ_226, H⟩ := Jn.elim H
      refine wq_cut (fun a w' => ∃ (v_223 : Value), ∃ (l_224 : (List Int)), J_226 l_224 = some r ∧ ST [] Try.f39.ntmps a [(0, va0), (2, (.slice none 0 0)), (3, v_223), (4, .int .i64 i_169)] ∧ SH (fun _ => False) w w' [Row (Kd.int .i64) 3 v_223 l_224]) ?_ ?_
      · rintro a W_225 ⟨v_223, l_224, H, hst, hsh⟩
        subst hJ_226
        dsimp only at H
        refine wq_region_lit (.inl rfl) ?_
        refine r_t hst trivial rfl (x_move hst rfl) ?_; intro a hst
        refine r_t hst trivial rfl (x_arI (r := w64 (i_169 + 1)) hst rfl rfl rfl) ?_; intro a hst
        refine r_t hst trivial rfl (x_assign hst rfl) ?_; intro a hst
        refine wpL_nil ?_
        refine then_normal ?_
        exact ⟨k_208, Nat.lt_succ_self _, v_223, l_224, (w64 (i_169 + 1)), H, hst.keep _ ⟨rfl, rfl, rfl, rfl, trivial⟩, hsh.pick [0]⟩
      · refine wq_block ?_
        refine wq_seq ?_
        refine wq_region_lit (.inl rfl) ?_
        refine r_t hst trivial rfl (x_assign hst rfl) ?_; intro a hst
        refine wpL_nil ?_
        refine then_normal ?_
        refine wq_block ?_
        refine wq_loop_fuel (fun k_240 a w' => ∃ (v_232 : Value), ∃ (l_233 : (List Int)), ∃ (i_234 : Int), r16_numbers.l1 a0 i_169 J_226 k_240 l_233 i_234 = some r ∧ ST [] Try.f39.ntmps a [(0, va0), (2, (.slice none 0 0)), (3, v_232), (4, .int .i64 i_169), (5, .int .i64 i_234)] ∧ SH (fun _ => False) w w' [Row (Kd.int .i64) 3 v_232 l_233]) k_208 ?_ ?_
        · exact ⟨v_167, l_168, 0, H, hst.keep _ ⟨rfl, rfl, rfl, rfl, rfl, trivial⟩, hsh.pick [0]⟩
        · rintro k_240 a W_235 ⟨v_232, l_233, i_234, H, hst, hsh⟩
          cases k_240 with
          | zero => rw [r16_numbers.l1] at H; cases H
          | succ k_240 =>
           rw [r16_numbers.l1] at H
           refine wq_seq ?_
           refine wq_seq ?_
           refine wq_region_lit (.inl rfl) ?_
           refine r_t hst trivial rfl (x_move hst rfl) ?_; intro a hst
           refine r_t hst trivial rfl (x_move hst rfl) ?_; intro a hst
           refine r_t hst trivial rfl (x_move hst rfl) ?_; intro a hst
           obtain ⟨x1222, hx1222, H⟩ := Option.bind_eq_some_iff.1 H
           refine r_t hst trivial rfl (x_indexAddr hst Try.underlying23 el_39 rfl rfl hra0 hx1222) ?_; intro a hst
           obtain ⟨_, hk1223, hc1224⟩ := RD.cells2 hra0 hx1222
           obtain ⟨v1225, rfl, hr1226⟩ := hk1223
           refine r_t hst trivial rfl (x_loadC hst sc_39 rfl (hc1224 _ (Same.sh0 hsa0 hsh) 0 _ rfl)) ?_; intro a hst
           refine r_t hst trivial rfl (x_lenSl hst Try.underlying39 rfl hr1226.slen) ?_; intro a hst
           refine r_t hst trivial rfl (x_cmpI (b := decide (i_234 < (x1222.length : Int))) hst rfl rfl rfl) ?_; intro a hst
           refine wpL_nil ?_
           refine then_normal ?_
           by_cases c1227 : (decide (i_234 < (x1222.length : Int))) = true
           · rw [if_pos c1227] at H
             refine wq_condT hst rfl c1227 ?_
             refine wq_skip ?_
             refine then_normal ?_
             refine wq_seq ?_
             refine wq_block ?_
             refine wq_region_lit (.inl rfl) ?_
             refine r_t hst trivial rfl (x_move hst rfl) ?_; intro a hst
             refine r_t hst trivial rfl (x_move hst rfl) ?_; intro a hst
             refine r_t hst trivial rfl (x_move hst rfl) ?_; intro a hst
             obtain ⟨x1239, hx1239, H⟩ := Option.bind_eq_some_iff.1 H
             refine r_t hst trivial rfl (x_indexAddr hst Try.underlying23 el_39 rfl rfl hra0 hx1239) ?_; intro a hst
             obtain ⟨_, hk1240, hc1241⟩ := RD.cells2 hra0 hx1239
             obtain ⟨v1242, rfl, hr1243⟩ := hk1240
             refine r_t hst trivial rfl (x_loadC hst sc_39 rfl (hc1241 _ (Same.sh0 hsa0 hsh) 0 _ rfl)) ?_; intro a hst
             refine r_t hst trivial rfl (x_move hst rfl) ?_; intro a hst
             obtain ⟨x1244, hx1244, H⟩ := Option.bind_eq_some_iff.1 H
             refine r_t hst trivial rfl (x_indexAddr hst Try.underlying39 el_43 rfl rfl hr1243 hx1244) ?_; intro a hst
             refine r_t hst trivial rfl (x_fieldAddrE (n' := Int.toNat i_234 * k_File.sz) hst fa_43_0 rfl rfl) ?_; intro a hst
             refine r_t hst trivial rfl (x_loadEF (j := 0) (cs := [.int .i64 x1244.Number, .int .i64 x1244.Size, .string x1244.Least, .string x1244.Limit, .int .u64 x1244.Low, .int .u64 x1244.High]) hst sc_3 rfl hr1243 (Same.sh0 hsa0 hsh) hx1244 rfl (fun _ h => h) rfl) ?_; intro a hst
             refine r_buildSlice (vs := [.int .i64 x1244.Number]) (cs := [.int .i64 x1244.Number]) hst hsh trivial rfl Try.underlying56 el_3 rfl rfl (by simp [Value.cells]) rfl rfl ?_
             intro g1245 a w1246 hgg1245 hsh hst
             replace hsh := hsh.pick [1, 0]
             obtain ⟨l1247, hl1247, H⟩ := Option.bind_eq_some_iff.1 H
             refine r_append1 (xx := x1244.Number) (C := []) (M := []) hst hsh trivial rfl Try.underlying56 el_3 (by decide) (by decide) (by decide) rfl rfl (fun _ _ _ => rfl) hl1247 ?_
             intro v1248 a w1249 hsh hst
             refine r_t hst trivial rfl (x_assign hst rfl) ?_; intro a hst
             refine wpL_nil ?_
             refine block_normal ?_
             refine then_normal ?_
             refine wq_region_lit (.inl rfl) ?_
             refine r_t hst trivial rfl (x_move hst rfl) ?_; intro a hst
             refine r_t hst trivial rfl (x_arI (r := w64 (i_234 + 1)) hst rfl rfl rfl) ?_; intro a hst
             refine r_t hst trivial rfl (x_assign hst rfl) ?_; intro a hst
             refine wpL_nil ?_
             refine then_normal ?_
             exact ⟨k_240, Nat.lt_succ_self _, v1248, l1247, (w64 (i_234 + 1)), H, hst.keep _ ⟨rfl, rfl, rfl, rfl, rfl, trivial⟩, hsh.pick [0]⟩
           · rw [if_neg c1227] at H
             replace c1227 := Bool.eq_false_iff.2 c1227
             refine wq_condF hst rfl c1227 ?_
             refine wq_exit ?_
             refine then_exit ?_
             refine then_exit ?_
             refine block_hit ?_
             refine block_normal ?_
             refine then_normal ?_
             exact ⟨v_232, l_233, H, hst.keep _ ⟨rfl, rfl, rfl, rfl, trivial⟩, hsh.pick [0]⟩
    · rw [if_neg c1045] at H
      replace c1045 := Bool.eq_false_iff.2 c1045
      refine wq_condF hst rfl c1045 ?_
      refine wq_exit ?_
      refine then_exit ?_
      refine then_exit ?_
      refine block_hit ?_
      refine then_normal ?_
      refine wq_seq ?_
      refine wq_region_lit (.inl rfl) ?_
      refine r_t hst trivial rfl (x_move hst rfl) ?_; intro a hst
      obtain ⟨r1250, hr1250, H⟩ := Option.bind_eq_some_iff.1 H
      refine r_callD hst trivial rfl fn_58 rfl (r16_sorted.calls k_208 _ _ _ _ (Same.refl _ _) _ (hsh.row 0 rfl) r1250 hr1250) ?_
      rintro e w1251 ⟨v1252, rfl, hc⟩
      replace hsh := hsh.call0 hc
      clear hc
      refine ⟨_, rfl, fun a hst => ?_⟩
      refine r_t hst trivial rfl (x_assign hst rfl) ?_; intro a hst
      refine wpL_nil ?_
      refine then_normal ?_
      refine wq_ret ?_
      obtain rfl := Option.some.inj H
      exact ret1 hst rfl rfl ⟨v1252, rfl, hsh.pick [0]⟩

set_option maxHeartbeats 4000000 in
set_option maxRecDepth 100000 in
theorem r16_Valid.calls (k : Nat) (w : World) (va0 : Value) (Za0 : Nat → Prop) (wra0 : World) (hsa0 : Same Za0 wra0 w) (a0 : (List (List File))) (hra0 : RD (Kd.slice 43 k_File) Za0 wra0 va0 a0) (r : Bool) (h : r16_Valid k a0 = some r) :
    Calls Try.prog 13 ([va0] : List Value).toArray w fun e w' => e = .returned (.bool r) ∧ SH (fun _ => False) w w' [] := by
 have H := h
 clear h
 unfold r16_Valid at H
 refine calls_enter Try.func13 rfl rfl ?_
 intro a hst
 have hsh := SH.zero (fun _ => False) w
 refine wq_seq ?_
 refine wq_region_lit (.inl rfl) ?_
 refine r_t hst trivial rfl (x_assign hst rfl) ?_; intro a hst
 refine wpL_nil ?_
 refine then_normal ?_
 refine wq_seq ?_
 refine wq_seq ?_
 refine wq_region_lit (.inl rfl) ?_
 refine r_t hst trivial rfl (x_move hst rfl) ?_; intro a hst
 refine r_t hst trivial rfl (x_lenSl hst Try.underlying23 rfl hra0.slen) ?_; intro a hst
 refine r_t hst trivial rfl (x_cmpI (b := decide ((a0.length : Int) < 1)) hst rfl rfl rfl) ?_; intro a hst
 refine r_t hst trivial rfl (x_move hst rfl) ?_; intro a hst
 refine wl_join0 (Δ := []) (N := Try.f13.ntmps) 8 [(0, va0), (2, .bool false), (14, .bool ((decide ((a0.length : Int) < 1)) || (decide (7 < (a0.length : Int)))))] ?_ ?_
 · intro a hst
   refine wpL_nil ?_
   refine then_normal ?_
   by_cases c4 : ((decide ((a0.length : Int) < 1)) || (decide (7 < (a0.length : Int)))) = true
   · rw [if_pos c4] at H
     refine wq_condT hst rfl c4 ?_
     refine wq_seq ?_
     refine wq_region_lit (.inl rfl) ?_
     refine r_t hst trivial rfl (x_assign hst rfl) ?_; intro a hst
     refine wpL_nil ?_
     refine then_normal ?_
     refine wq_ret ?_
     refine then_ret ?_
     obtain rfl := Option.some.inj H
     exact ret1 hst rfl rfl ⟨rfl, hsh.pick []⟩
   · rw [if_neg c4] at H
     replace c4 := Bool.eq_false_iff.2 c4
     refine wq_condF hst rfl c4 ?_
     refine wq_skip ?_
     refine then_normal ?_
     refine wq_seq ?_
     refine wq_seq ?_
     refine wq_region_lit (.inl rfl) ?_
     refine r_t hst trivial rfl (x_assign hst rfl) ?_; intro a hst
     refine wpL_nil ?_
     refine then_normal ?_
     refine wq_block ?_
     refine wq_loop_fuel (fun k_1006 a w' => ∃ (i_804 : Int), r16_Valid.l0 a0 k_1006 i_804 = some r ∧ ST [] Try.f13.ntmps a [(0, va0), (2, .bool false), (3, .int .i64 i_804)] ∧ SH (fun _ => False) w w' []) k ?_ ?_
     · exact ⟨0, H, hst.keep _ ⟨rfl, rfl, rfl, trivial⟩, hsh.pick []⟩
     · rintro k_1006 a W_805 ⟨i_804, H, hst, hsh⟩
       cases k_1006 with
       | zero => rw [r16_Valid.l0] at H; cases H
       | succ k_1006 =>
        rw [r16_Valid.l0] at H
        refine wq_seq ?_
        refine wq_seq ?_
        refine wq_region_lit (.inl rfl) ?_
        refine r_t hst trivial rfl (x_move hst rfl) ?_; intro a hst
        refine r_t hst trivial rfl (x_move hst rfl) ?_; intro a hst
        refine r_t hst trivial rfl (x_lenSl hst Try.underlying23 rfl hra0.slen) ?_; intro a hst
        refine r_t hst trivial rfl (x_cmpI (b := decide (i_804 < (a0.length : Int))) hst rfl rfl rfl) ?_; intro a hst
        refine wpL_nil ?_
        refine then_normal ?_
        by_cases c6316 : (decide (i_804 < (a0.length : Int))) = true
        · rw [if_pos c6316] at H
          refine wq_condT hst rfl c6316 ?_
          refine wq_skip ?_
          refine then_normal ?_
          obtain ⟨J_1106, hJ_1106, H⟩ := Jn.elim H
          refine wq_cut (fun a w' => J_1106 = some r ∧ ST [] Try.f13.ntmps a [(0, va0), (2, .bool false), (3, .int .i64 i_804)] ∧ SH (fun _ => False) w w' []) ?_ ?_
          · rintro a W_1105 ⟨H, hst, hsh⟩
            subst hJ_1106
            refine wq_region_lit (.inl rfl) ?_
            refine r_t hst trivial rfl (x_move hst rfl) ?_; intro a hst
            refine r_t hst trivial rfl (x_arI (r := w64 (i_804 + 1)) hst rfl rfl rfl) ?_; intro a hst
            refine r_t hst trivial rfl (x_assign hst rfl) ?_; intro a hst
            refine wpL_nil ?_
            refine then_normal ?_
            exact ⟨k_1006, Nat.lt_succ_self _, (w64 (i_804 + 1)), H, hst.keep _ ⟨rfl, rfl, rfl, trivial⟩, hsh.pick []⟩
          · refine wq_block ?_
            refine wq_seq ?_
            refine wq_region_lit (.inl rfl) ?_
            refine r_t hst trivial rfl (x_assign hst rfl) ?_; intro a hst
            refine wpL_nil ?_
            refine then_normal ?_
            refine wq_block ?_
            refine wq_loop_fuel (fun k_1174 a w' => ∃ (i_1140 : Int), r16_Valid.l1 a0 i_804 J_1106 k_1174 i_1140 = some r ∧ ST [] Try.f13.ntmps a [(0, va0), (2, .bool false), (3, .int .i64 i_804), (4, .int .i64 i_1140)] ∧ SH (fun _ => False) w w' []) k_1006 ?_ ?_
            · exact ⟨0, H, hst.keep _ ⟨rfl, rfl, rfl, rfl, trivial⟩, hsh.pick []⟩
            · rintro k_1174 a W_1141 ⟨i_1140, H, hst, hsh⟩
              cases k_1174 with
              | zero => rw [r16_Valid.l1] at H; cases H
              | succ k_1174 =>
               rw [r16_Valid.l1] at H
               refine wq_seq ?_
               refine wq_seq ?_
               refine wq_region_lit (.inl rfl) ?_
               refine r_t hst trivial rfl (x_move hst rfl) ?_; intro a hst
               refine r_t hst trivial rfl (x_move hst rfl) ?_; intro a hst
               refine r_t hst trivial rfl (x_move hst rfl) ?_; intro a hst
               obtain ⟨x7373, hx7373, H⟩ := Option.bind_eq_some_iff.1 H
               refine r_t hst trivial rfl (x_indexAddr hst Try.underlying23 el_39 rfl rfl hra0 hx7373) ?_; intro a hst
               obtain ⟨_, hk7374, hc7375⟩ := RD.cells2 hra0 hx7373
               obtain ⟨v7376, rfl, hr7377⟩ := hk7374
               refine r_t hst trivial rfl (x_loadC hst sc_39 rfl (hc7375 _ (Same.sh0 hsa0 hsh) 0 _ rfl)) ?_; intro a hst
               refine r_t hst trivial rfl (x_lenSl hst Try.underlying39 rfl hr7377.slen) ?_; intro a hst
               refine r_t hst trivial rfl (x_cmpI (b := decide (i_1140 < (x7373.length : Int))) hst rfl rfl rfl) ?_; intro a hst
               refine wpL_nil ?_
               refine then_normal ?_
               by_cases c7378 : (decide (i_1140 < (x7373.length : Int))) = true
               · rw [if_pos c7378] at H
                 refine wq_condT hst rfl c7378 ?_
                 refine wq_skip ?_
                 refine then_normal ?_
                 refine wq_seq ?_
                 refine wq_block ?_
                 refine wq_seq ?_
                 refine wq_seq ?_
                 refine wq_region_lit (.inl rfl) ?_
                 refine r_t hst trivial rfl (x_move hst rfl) ?_; intro a hst
                 refine r_t hst trivial rfl (x_move hst rfl) ?_; intro a hst
                 obtain ⟨x7487, hx7487, H⟩ := Option.bind_eq_some_iff.1 H
                 refine r_t hst trivial rfl (x_indexAddr hst Try.underlying23 el_39 rfl rfl hra0 hx7487) ?_; intro a hst
                 obtain ⟨_, hk7488, hc7489⟩ := RD.cells2 hra0 hx7487
                 obtain ⟨v7490, rfl, hr7491⟩ := hk7488
                 refine r_t hst trivial rfl (x_loadC hst sc_39 rfl (hc7489 _ (Same.sh0 hsa0 hsh) 0 _ rfl)) ?_; intro a hst
                 refine r_t hst trivial rfl (x_move hst rfl) ?_; intro a hst
                 obtain ⟨x7492, hx7492, H⟩ := Option.bind_eq_some_iff.1 H
                 refine r_t hst trivial rfl (x_indexAddr hst Try.underlying39 el_43 rfl rfl hr7491 hx7492) ?_; intro a hst
                 refine r_t hst trivial rfl (x_loadEsF (j := 0) (cs := [.int .i64 x7492.Number, .int .i64 x7492.Size, .string x7492.Least, .string x7492.Limit, .int .u64 x7492.Low, .int .u64 x7492.High]) (ps := [.int .i64 x7492.Number, .int .i64 x7492.Size, .string x7492.Least, .string x7492.Limit, .int .u64 x7492.Low, .int .u64 x7492.High]) hst ag_43 rfl hr7491 (Same.sh0 hsa0 hsh) hx7492 rfl (fun _ h => h) rfl) ?_; intro a hst
                 obtain ⟨r7493, hr7493, H⟩ := Option.bind_eq_some_iff.1 H
                 refine r_callD hst trivial rfl fn_38 rfl (r16_May.calls _ x7492 r7493 hr7493) ?_
                 rintro e w7494 ⟨rfl, hc⟩
                 replace hsh := hsh.call0 hc
                 clear hc
                 refine ⟨_, rfl, fun a hst => ?_⟩
                 refine r_t hst trivial rfl (x_notB hst rfl) ?_; intro a hst
                 refine wpL_nil ?_
                 refine then_normal ?_
                 by_cases c7495 : (!r7493) = true
                 · rw [if_pos c7495] at H
                   refine wq_condT hst rfl c7495 ?_
                   refine wq_seq ?_
                   refine wq_region_lit (.inl rfl) ?_
                   refine r_t hst trivial rfl (x_assign hst rfl) ?_; intro a hst
                   refine wpL_nil ?_
                   refine then_normal ?_
                   refine wq_ret ?_
                   refine then_ret ?_
                   refine block_ret ?_
                   refine then_ret ?_
                   refine then_ret ?_
                   refine block_ret ?_
                   refine block_ret ?_
                   refine then_ret ?_
                   refine then_ret ?_
                   refine block_ret ?_
                   refine then_ret ?_
                   obtain rfl := Option.some.inj H
                   exact ret1 hst rfl rfl ⟨rfl, hsh.pick []⟩
                 · rw [if_neg c7495] at H
                   replace c7495 := Bool.eq_false_iff.2 c7495
                   refine wq_condF hst rfl c7495 ?_
                   refine wq_skip ?_
                   refine then_normal ?_
                   refine wq_seq ?_
                   refine wq_region_q (.inl rfl) (fun w' => SH (fun _ => False) w w' []) (shut_sh _ _ _) hsh.drew fo (by kernel_rfl) ?_
                   refine q_t hst trivial rfl (fun _ hsh => x_move hst rfl) ?_; intro a hst
                   refine q_t hst trivial rfl (fun _ hsh => x_cmpI (b := decide (0 < i_1140)) hst rfl rfl rfl) ?_; intro a hst
                   refine q_t hst trivial rfl (fun _ hsh => x_move hst rfl) ?_; intro a hst
                   refine q_join0 (Δ := []) (N := Try.f13.ntmps) 6 [(0, va0), (2, .bool false), (3, .int .i64 i_804), (4, .int .i64 i_1140), (44, .bool ((decide (0 < i_1140)) && (i_804 == 0)))] ?_ ?_
                   · intro a hst
                     refine q_t hst trivial rfl (fun _ hsh => x_move hst rfl) ?_; intro a hst
                     obtain ⟨J_1191, hJ_1191, H⟩ := Jn.elim H
                     refine q_join 26 (fun a => ∃ (b_1190 : Bool), J_1191 b_1190 = some r ∧ ST [] Try.f13.ntmps a [(0, va0), (2, .bool false), (3, .int .i64 i_804), (4, .int .i64 i_1140), (64, .bool b_1190)]) ?_ ?_
                     · rintro a ⟨b_1190, H, hst⟩
                       subst hJ_1191
                       dsimp only at H
                       refine q_t hst trivial rfl (fun _ hsh => x_move hst rfl) ?_; intro a hst
                       obtain ⟨J_1197, hJ_1197, H⟩ := Jn.elim H
                       refine q_join 54 (fun a => ∃ (b_1196 : Bool), J_1197 b_1196 = some r ∧ ST [] Try.f13.ntmps a [(0, va0), (2, .bool false), (3, .int .i64 i_804), (4, .int .i64 i_1140), (92, .bool b_1196)]) ?_ ?_
                       · rintro a ⟨b_1196, H, hst⟩
                         subst hJ_1197
                         dsimp only at H
                         refine q_nil ?_
                         intro w7537 hsh
                         refine then_normal ?_
                         by_cases c7538 : b_1196 = true
                         · rw [if_pos c7538] at H
                           refine wq_condT hst rfl c7538 ?_
                           refine wq_seq ?_
                           refine wq_region_lit (.inl rfl) ?_
                           refine r_t hst trivial rfl (x_assign hst rfl) ?_; intro a hst
                           refine wpL_nil ?_
                           refine then_normal ?_
                           refine wq_ret ?_
                           refine block_ret ?_
                           refine then_ret ?_
                           refine then_ret ?_
                           refine block_ret ?_
                           refine block_ret ?_
                           refine then_ret ?_
                           refine then_ret ?_
                           refine block_ret ?_
                           refine then_ret ?_
                           obtain rfl := Option.some.inj H
                           exact ret1 hst rfl rfl ⟨rfl, hsh.pick []⟩
                         · rw [if_neg c7538] at H
                           replace c7538 := Bool.eq_false_iff.2 c7538
                           refine wq_condF hst rfl c7538 ?_
                           refine wq_skip ?_
                           refine block_normal ?_
                           refine then_normal ?_
                           refine wq_region_lit (.inl rfl) ?_
                           refine r_t hst trivial rfl (x_move hst rfl) ?_; intro a hst
                           refine r_t hst trivial rfl (x_arI (r := w64 (i_1140 + 1)) hst rfl rfl rfl) ?_; intro a hst
                           refine r_t hst trivial rfl (x_assign hst rfl) ?_; intro a hst
                           refine wpL_nil ?_
                           refine then_normal ?_
                           exact ⟨k_1174, Nat.lt_succ_self _, (w64 (i_1140 + 1)), H, hst.keep _ ⟨rfl, rfl, rfl, rfl, trivial⟩, hsh.pick []⟩
                       · intro hj
                         by_cases c7510 : b_1190 = true
                         · rw [if_pos c7510] at H
                           refine q_not hst 65 rfl rfl c7510 rfl ?_; intro a hst
                           refine q_not hst 65 rfl rfl c7510 rfl ?_; intro a hst
                           refine q_not hst 65 rfl rfl c7510 rfl ?_; intro a hst
                           refine q_notU hst 68 rfl rfl rfl ?_; intro a hst
                           refine q_notU hst 68 rfl rfl rfl ?_; intro a hst
                           refine q_not hst 65 rfl rfl c7510 rfl ?_; intro a hst
                           refine q_not hst 65 rfl rfl c7510 rfl ?_; intro a hst
                           refine q_notU hst 72 rfl rfl rfl ?_; intro a hst
                           refine q_notU hst 72 rfl rfl rfl ?_; intro a hst
                           refine q_notU hst 72 rfl rfl rfl ?_; intro a hst
                           refine q_notU hst 72 rfl rfl rfl ?_; intro a hst
                           refine q_notU hst 72 rfl rfl rfl ?_; intro a hst
                           refine q_notU hst 72 rfl rfl rfl ?_; intro a hst
                           refine q_notU hst 72 rfl rfl rfl ?_; intro a hst
                           refine q_notU hst 72 rfl rfl rfl ?_; intro a hst
                           refine q_notU hst 72 rfl rfl rfl ?_; intro a hst
                           refine q_notU hst 72 rfl rfl rfl ?_; intro a hst
                           refine q_notU hst 72 rfl rfl rfl ?_; intro a hst
                           refine q_notU hst 72 rfl rfl rfl ?_; intro a hst
                           refine q_notU hst 72 rfl rfl rfl ?_; intro a hst
                           refine q_notU hst 72 rfl rfl rfl ?_; intro a hst
                           refine q_notU hst 72 rfl rfl rfl ?_; intro a hst
                           refine q_notU hst 72 rfl rfl rfl ?_; intro a hst
                           refine q_notU hst 72 rfl rfl rfl ?_; intro a hst
                           refine q_notU hst 72 rfl rfl rfl ?_; intro a hst
                           refine q_not hst 65 rfl rfl c7510 rfl ?_; intro a hst
                           refine q_t hst trivial rfl (fun _ hsh => x_pickT hst rfl c7510 rfl) ?_; intro a hst
                           exact hj _ ⟨true, H, hst.keep _ ⟨rfl, rfl, rfl, rfl, rfl, trivial⟩⟩
                         · rw [if_neg c7510] at H
                           replace c7510 := Bool.eq_false_iff.2 c7510
                           refine q_t hst (wt_of 65 rfl rfl c7510) rfl (fun _ hsh => x_move hst rfl) ?_; intro a hst
                           refine q_t hst (wt_of 65 rfl rfl c7510) rfl (fun _ hsh => x_cmpI (b := decide (0 < i_1140)) hst rfl rfl rfl) ?_; intro a hst
                           refine q_t hst (wt_of 65 rfl rfl c7510) rfl (fun _ hsh => x_move hst rfl) ?_; intro a hst
                           refine q_join0 (Δ := []) (N := Try.f13.ntmps) 33 [(0, va0), (2, .bool false), (3, .int .i64 i_804), (4, .int .i64 i_1140), (65, .bool b_1190), (71, .bool ((decide (0 < i_1140)) && (decide (0 < i_804))))] ?_ ?_
                           · intro a hst
                             refine q_t hst (wt_of 65 rfl rfl c7510) rfl (fun _ hsh => x_move hst rfl) ?_; intro a hst
                             obtain ⟨J_1203, hJ_1203, H⟩ := Jn.elim H
                             refine q_join 53 (fun a => ∃ (b_1202 : Bool), J_1203 b_1202 = some r ∧ ST [] Try.f13.ntmps a [(0, va0), (2, .bool false), (3, .int .i64 i_804), (4, .int .i64 i_1140), (65, .bool b_1190), (91, .bool b_1202)]) ?_ ?_
                             · rintro a ⟨b_1202, H, hst⟩
                               subst hJ_1203
                               dsimp only at H
                               refine q_t hst trivial rfl (fun _ hsh => x_pickF hst rfl c7510 rfl) ?_; intro a hst
                               exact hj _ ⟨b_1202, H, hst.keep _ ⟨rfl, rfl, rfl, rfl, rfl, trivial⟩⟩
                             · intro hj
                               by_cases c7540 : ((decide (0 < i_1140)) && (decide (0 < i_804))) = true
                               · rw [if_pos c7540] at H
                                 refine q_t hst (wt_of 72 rfl rfl c7540) rfl (fun _ hsh => x_move hst rfl) ?_; intro a hst
                                 refine q_t hst (wt_of 72 rfl rfl c7540) rfl (fun _ hsh => x_move hst rfl) ?_; intro a hst
                                 obtain ⟨x7553, hx7553, H⟩ := Option.bind_eq_some_iff.1 H
                                 refine q_t hst (wt_of 72 rfl rfl c7540) rfl (fun _ hsh => x_indexAddr hst Try.underlying23 el_39 rfl rfl hra0 hx7553) ?_; intro a hst
                                 obtain ⟨_, hk7554, hc7555⟩ := RD.cells2 hra0 hx7553
                                 obtain ⟨v7556, rfl, hr7557⟩ := hk7554
                                 refine q_t hst (wt_of 72 rfl rfl c7540) rfl (fun _ hsh => x_loadC hst sc_39 rfl (hc7555 _ (Same.sh0 hsa0 hsh) 0 _ rfl)) ?_; intro a hst
                                 refine q_t hst (wt_of 72 rfl rfl c7540) rfl (fun _ hsh => x_move hst rfl) ?_; intro a hst
                                 refine q_t hst (wt_of 72 rfl rfl c7540) rfl (fun _ hsh => x_arI (r := w64 (i_1140 - 1)) hst rfl rfl rfl) ?_; intro a hst
                                 obtain ⟨x7558, hx7558, H⟩ := Option.bind_eq_some_iff.1 H
                                 refine q_t hst (wt_of 72 rfl rfl c7540) rfl (fun _ hsh => x_indexAddr hst Try.underlying39 el_43 rfl rfl hr7557 hx7558) ?_; intro a hst
                                 refine q_t hst (wt_of 72 rfl rfl c7540) rfl (fun _ hsh => x_fieldAddrE (n' := Int.toNat (w64 (i_1140 - 1)) * k_File.sz + 3) hst fa_43_3 rfl rfl) ?_; intro a hst
                                 refine q_t hst (wt_of 72 rfl rfl c7540) rfl (fun _ hsh => x_loadEF (j := 3) (cs := [.int .i64 x7558.Number, .int .i64 x7558.Size, .string x7558.Least, .string x7558.Limit, .int .u64 x7558.Low, .int .u64 x7558.High]) hst sc_9 rfl hr7557 (Same.sh0 hsa0 hsh) hx7558 rfl (fun _ h => h) rfl) ?_; intro a hst
                                 refine q_t hst (wt_of 72 rfl rfl c7540) rfl (fun _ hsh => x_move hst rfl) ?_; intro a hst
                                 refine q_t hst (wt_of 72 rfl rfl c7540) rfl (fun _ hsh => x_move hst rfl) ?_; intro a hst
                                 obtain ⟨x7559, hx7559, H⟩ := Option.bind_eq_some_iff.1 H
                                 refine q_t hst (wt_of 72 rfl rfl c7540) rfl (fun _ hsh => x_indexAddr hst Try.underlying23 el_39 rfl rfl hra0 hx7559) ?_; intro a hst
                                 obtain ⟨_, hk7560, hc7561⟩ := RD.cells2 hra0 hx7559
                                 obtain ⟨v7562, rfl, hr7563⟩ := hk7560
                                 refine q_t hst (wt_of 72 rfl rfl c7540) rfl (fun _ hsh => x_loadC hst sc_39 rfl (hc7561 _ (Same.sh0 hsa0 hsh) 0 _ rfl)) ?_; intro a hst
                                 refine q_t hst (wt_of 72 rfl rfl c7540) rfl (fun _ hsh => x_move hst rfl) ?_; intro a hst
                                 obtain ⟨x7564, hx7564, H⟩ := Option.bind_eq_some_iff.1 H
                                 refine q_t hst (wt_of 72 rfl rfl c7540) rfl (fun _ hsh => x_indexAddr hst Try.underlying39 el_43 rfl rfl hr7563 hx7564) ?_; intro a hst
                                 refine q_t hst (wt_of 72 rfl rfl c7540) rfl (fun _ hsh => x_fieldAddrE (n' := Int.toNat i_1140 * k_File.sz + 2) hst fa_43_2 rfl rfl) ?_; intro a hst
                                 refine q_t hst (wt_of 72 rfl rfl c7540) rfl (fun _ hsh => x_loadEF (j := 2) (cs := [.int .i64 x7564.Number, .int .i64 x7564.Size, .string x7564.Least, .string x7564.Limit, .int .u64 x7564.Low, .int .u64 x7564.High]) hst sc_9 rfl hr7563 (Same.sh0 hsa0 hsh) hx7564 rfl (fun _ h => h) rfl) ?_; intro a hst
                                 refine q_t hst (wt_of 72 rfl rfl c7540) rfl (fun _ hsh => x_cmpS (b := (!(sLt x7558.Limit x7564.Least || sEq x7558.Limit x7564.Least))) hst rfl rfl rfl) ?_; intro a hst
                                 refine q_t hst (wt_of 65 rfl rfl c7510) rfl (fun _ hsh => x_pickT hst rfl c7540 rfl) ?_; intro a hst
                                 exact hj _ ⟨(!(sLt x7558.Limit x7564.Least || sEq x7558.Limit x7564.Least)), H, hst.keep _ ⟨rfl, rfl, rfl, rfl, rfl, rfl, trivial⟩⟩
                               · rw [if_neg c7540] at H
                                 replace c7540 := Bool.eq_false_iff.2 c7540
                                 refine q_not hst 72 rfl rfl c7540 rfl ?_; intro a hst
                                 refine q_not hst 72 rfl rfl c7540 rfl ?_; intro a hst
                                 refine q_not hst 72 rfl rfl c7540 rfl ?_; intro a hst
                                 refine q_not hst 72 rfl rfl c7540 rfl ?_; intro a hst
                                 refine q_not hst 72 rfl rfl c7540 rfl ?_; intro a hst
                                 refine q_not hst 72 rfl rfl c7540 rfl ?_; intro a hst
                                 refine q_not hst 72 rfl rfl c7540 rfl ?_; intro a hst
                                 refine q_not hst 72 rfl rfl c7540 rfl ?_; intro a hst
                                 refine q_not hst 72 rfl rfl c7540 rfl ?_; intro a hst
                                 refine q_not hst 72 rfl rfl c7540 rfl ?_; intro a hst
                                 refine q_not hst 72 rfl rfl c7540 rfl ?_; intro a hst
                                 refine q_not hst 72 rfl rfl c7540 rfl ?_; intro a hst
                                 refine q_not hst 72 rfl rfl c7540 rfl ?_; intro a hst
                                 refine q_not hst 72 rfl rfl c7540 rfl ?_; intro a hst
                                 refine q_not hst 72 rfl rfl c7540 rfl ?_; intro a hst
                                 refine q_not hst 72 rfl rfl c7540 rfl ?_; intro a hst
                                 refine q_not hst 72 rfl rfl c7540 rfl ?_; intro a hst
                                 refine q_not hst 72 rfl rfl c7540 rfl ?_; intro a hst
                                 refine q_t hst (wt_of 65 rfl rfl c7510) rfl (fun _ hsh => x_pickF hst rfl c7540 rfl) ?_; intro a hst
                                 exact hj _ ⟨false, H, hst.keep _ ⟨rfl, rfl, rfl, rfl, rfl, rfl, trivial⟩⟩
                           · intro hj
                             by_cases c7539 : (decide (0 < i_1140)) = true
                             · refine q_t hst (wt_of 68 rfl rfl c7539) rfl (fun _ hsh => x_move hst rfl) ?_; intro a hst
                               refine q_t hst (wt_of 68 rfl rfl c7539) rfl (fun _ hsh => x_cmpI (b := decide (0 < i_804)) hst rfl rfl rfl) ?_; intro a hst
                               refine q_t hst (wt_of 65 rfl rfl c7510) rfl (fun _ hsh => x_andT hst rfl c7539 rfl) ?_; intro a hst
                               exact hj _ (hst.keep _ ⟨rfl, rfl, rfl, rfl, rfl, rfl, trivial⟩)
                             · replace c7539 := Bool.eq_false_iff.2 c7539
                               refine q_not hst 68 rfl rfl c7539 rfl ?_; intro a hst
                               refine q_not hst 68 rfl rfl c7539 rfl ?_; intro a hst
                               refine q_t hst (wt_of 65 rfl rfl c7510) rfl (fun _ hsh => x_andF (decide (0 < i_804)) hst rfl c7539 rfl) ?_; intro a hst
                               exact hj _ (hst.keep _ ⟨rfl, rfl, rfl, rfl, rfl, rfl, trivial⟩)
                     · intro hj
                       by_cases c7497 : ((decide (0 < i_1140)) && (i_804 == 0)) = true
                       · rw [if_pos c7497] at H
                         refine q_t hst (wt_of 45 rfl rfl c7497) rfl (fun _ hsh => x_move hst rfl) ?_; intro a hst
                         refine q_t hst (wt_of 45 rfl rfl c7497) rfl (fun _ hsh => x_move hst rfl) ?_; intro a hst
                         obtain ⟨x7565, hx7565, H⟩ := Option.bind_eq_some_iff.1 H
                         refine q_t hst (wt_of 45 rfl rfl c7497) rfl (fun _ hsh => x_indexAddr hst Try.underlying23 el_39 rfl rfl hra0 hx7565) ?_; intro a hst
                         obtain ⟨_, hk7566, hc7567⟩ := RD.cells2 hra0 hx7565
                         obtain ⟨v7568, rfl, hr7569⟩ := hk7566
                         refine q_t hst (wt_of 45 rfl rfl c7497) rfl (fun _ hsh => x_loadC hst sc_39 rfl (hc7567 _ (Same.sh0 hsa0 hsh) 0 _ rfl)) ?_; intro a hst
                         refine q_t hst (wt_of 45 rfl rfl c7497) rfl (fun _ hsh => x_move hst rfl) ?_; intro a hst
                         refine q_t hst (wt_of 45 rfl rfl c7497) rfl (fun _ hsh => x_arI (r := w64 (i_1140 - 1)) hst rfl rfl rfl) ?_; intro a hst
                         obtain ⟨x7570, hx7570, H⟩ := Option.bind_eq_some_iff.1 H
                         refine q_t hst (wt_of 45 rfl rfl c7497) rfl (fun _ hsh => x_indexAddr hst Try.underlying39 el_43 rfl rfl hr7569 hx7570) ?_; intro a hst
                         refine q_t hst (wt_of 45 rfl rfl c7497) rfl (fun _ hsh => x_fieldAddrE (n' := Int.toNat (w64 (i_1140 - 1)) * k_File.sz) hst fa_43_0 rfl rfl) ?_; intro a hst
                         refine q_t hst (wt_of 45 rfl rfl c7497) rfl (fun _ hsh => x_loadEF (j := 0) (cs := [.int .i64 x7570.Number, .int .i64 x7570.Size, .string x7570.Least, .string x7570.Limit, .int .u64 x7570.Low, .int .u64 x7570.High]) hst sc_3 rfl hr7569 (Same.sh0 hsa0 hsh) hx7570 rfl (fun _ h => h) rfl) ?_; intro a hst
                         refine q_t hst (wt_of 45 rfl rfl c7497) rfl (fun _ hsh => x_move hst rfl) ?_; intro a hst
                         refine q_t hst (wt_of 45 rfl rfl c7497) rfl (fun _ hsh => x_move hst rfl) ?_; intro a hst
                         obtain ⟨x7571, hx7571, H⟩ := Option.bind_eq_some_iff.1 H
                         refine q_t hst (wt_of 45 rfl rfl c7497) rfl (fun _ hsh => x_indexAddr hst Try.underlying23 el_39 rfl rfl hra0 hx7571) ?_; intro a hst
                         obtain ⟨_, hk7572, hc7573⟩ := RD.cells2 hra0 hx7571
                         obtain ⟨v7574, rfl, hr7575⟩ := hk7572
                         refine q_t hst (wt_of 45 rfl rfl c7497) rfl (fun _ hsh => x_loadC hst sc_39 rfl (hc7573 _ (Same.sh0 hsa0 hsh) 0 _ rfl)) ?_; intro a hst
                         refine q_t hst (wt_of 45 rfl rfl c7497) rfl (fun _ hsh => x_move hst rfl) ?_; intro a hst
                         obtain ⟨x7576, hx7576, H⟩ := Option.bind_eq_some_iff.1 H
                         refine q_t hst (wt_of 45 rfl rfl c7497) rfl (fun _ hsh => x_indexAddr hst Try.underlying39 el_43 rfl rfl hr7575 hx7576) ?_; intro a hst
                         refine q_t hst (wt_of 45 rfl rfl c7497) rfl (fun _ hsh => x_fieldAddrE (n' := Int.toNat i_1140 * k_File.sz) hst fa_43_0 rfl rfl) ?_; intro a hst
                         refine q_t hst (wt_of 45 rfl rfl c7497) rfl (fun _ hsh => x_loadEF (j := 0) (cs := [.int .i64 x7576.Number, .int .i64 x7576.Size, .string x7576.Least, .string x7576.Limit, .int .u64 x7576.Low, .int .u64 x7576.High]) hst sc_3 rfl hr7575 (Same.sh0 hsa0 hsh) hx7576 rfl (fun _ h => h) rfl) ?_; intro a hst
                         refine q_t hst (wt_of 45 rfl rfl c7497) rfl (fun _ hsh => x_cmpI (b := decide (x7576.Number ≤ x7570.Number)) hst rfl rfl rfl) ?_; intro a hst
                         refine q_t hst trivial rfl (fun _ hsh => x_pickT hst rfl c7497 rfl) ?_; intro a hst
                         exact hj _ ⟨(decide (x7576.Number ≤ x7570.Number)), H, hst.keep _ ⟨rfl, rfl, rfl, rfl, rfl, trivial⟩⟩
                       · rw [if_neg c7497] at H
                         replace c7497 := Bool.eq_false_iff.2 c7497
                         refine q_not hst 45 rfl rfl c7497 rfl ?_; intro a hst
                         refine q_not hst 45 rfl rfl c7497 rfl ?_; intro a hst
                         refine q_not hst 45 rfl rfl c7497 rfl ?_; intro a hst
                         refine q_not hst 45 rfl rfl c7497 rfl ?_; intro a hst
                         refine q_not hst 45 rfl rfl c7497 rfl ?_; intro a hst
                         refine q_not hst 45 rfl rfl c7497 rfl ?_; intro a hst
                         refine q_not hst 45 rfl rfl c7497 rfl ?_; intro a hst
                         refine q_not hst 45 rfl rfl c7497 rfl ?_; intro a hst
                         refine q_not hst 45 rfl rfl c7497 rfl ?_; intro a hst
                         refine q_not hst 45 rfl rfl c7497 rfl ?_; intro a hst
                         refine q_not hst 45 rfl rfl c7497 rfl ?_; intro a hst
                         refine q_not hst 45 rfl rfl c7497 rfl ?_; intro a hst
                         refine q_not hst 45 rfl rfl c7497 rfl ?_; intro a hst
                         refine q_not hst 45 rfl rfl c7497 rfl ?_; intro a hst
                         refine q_not hst 45 rfl rfl c7497 rfl ?_; intro a hst
                         refine q_not hst 45 rfl rfl c7497 rfl ?_; intro a hst
                         refine q_not hst 45 rfl rfl c7497 rfl ?_; intro a hst
                         refine q_not hst 45 rfl rfl c7497 rfl ?_; intro a hst
                         refine q_t hst trivial rfl (fun _ hsh => x_pickF hst rfl c7497 rfl) ?_; intro a hst
                         exact hj _ ⟨false, H, hst.keep _ ⟨rfl, rfl, rfl, rfl, rfl, trivial⟩⟩
                   · intro hj
                     by_cases c7496 : (decide (0 < i_1140)) = true
                     · refine q_t hst (wt_of 41 rfl rfl c7496) rfl (fun _ hsh => x_move hst rfl) ?_; intro a hst
                       refine q_t hst (wt_of 41 rfl rfl c7496) rfl (fun _ hsh => x_cmpI (b := (i_804 == 0)) hst rfl rfl rfl) ?_; intro a hst
                       refine q_t hst trivial rfl (fun _ hsh => x_andT hst rfl c7496 rfl) ?_; intro a hst
                       exact hj _ (hst.keep _ ⟨rfl, rfl, rfl, rfl, rfl, trivial⟩)
                     · replace c7496 := Bool.eq_false_iff.2 c7496
                       refine q_not hst 41 rfl rfl c7496 rfl ?_; intro a hst
                       refine q_not hst 41 rfl rfl c7496 rfl ?_; intro a hst
                       refine q_t hst trivial rfl (fun _ hsh => x_andF (i_804 == 0) hst rfl c7496 rfl) ?_; intro a hst
                       exact hj _ (hst.keep _ ⟨rfl, rfl, rfl, rfl, rfl, trivial⟩)
               · rw [if_neg c7378] at H
                 replace c7378 := Bool.eq_false_iff.2 c7378
                 refine wq_condF hst rfl c7378 ?_
                 refine wq_exit ?_
                 refine then_exit ?_
                 refine then_exit ?_
                 refine block_hit ?_
                 refine block_normal ?_
                 refine then_normal ?_
                 exact ⟨H, hst.keep _ ⟨rfl, rfl, rfl, trivial⟩, hsh.pick []⟩
        · rw [if_neg c6316] at H
          replace c6316 := Bool.eq_false_iff.2 c6316
          refine wq_condF hst rfl c6316 ?_
          refine wq_exit ?_
          refine then_exit ?_
          refine then_exit ?_
          refine block_hit ?_
          refine then_normal ?_
          refine wq_seq ?_
          refine wq_region_lit (.inl rfl) ?_
          refine r_t hst trivial rfl (x_move hst rfl) ?_; intro a hst
          obtain ⟨r7577, hr7577, H⟩ := Option.bind_eq_some_iff.1 H
          refine r_callD hst trivial rfl fn_39 rfl (r16_numbers.calls k_1006 _ _ _ _ (Same.sh0 hsa0 hsh) _ hra0 r7577 hr7577) ?_
          rintro e w7578 ⟨v7579, rfl, hc⟩
          replace hsh := hsh.call0 hc
          clear hc
          refine ⟨_, rfl, fun a hst => ?_⟩
          refine r_t hst trivial rfl (x_assign hst rfl) ?_; intro a hst
          refine wpL_nil ?_
          refine then_normal ?_
          obtain ⟨J_1214, hJ_1214, H⟩ := Jn.elim H
          refine wq_cut (fun a w' => J_1214 = some r ∧ ST [] Try.f13.ntmps a [(2, .bool false)] ∧ SH (fun _ => False) w w' []) ?_ ?_
          · rintro a W_1213 ⟨H, hst, hsh⟩
            subst hJ_1214
            refine wq_seq ?_
            refine wq_region_lit (.inl rfl) ?_
            refine r_t hst trivial rfl (x_assign hst rfl) ?_; intro a hst
            refine wpL_nil ?_
            refine then_normal ?_
            refine wq_ret ?_
            obtain rfl := Option.some.inj H
            exact ret1 hst rfl rfl ⟨rfl, hsh.pick []⟩
          · refine wq_seq ?_
            refine wq_region_lit (.inl rfl) ?_
            refine r_t hst trivial rfl (x_assign hst rfl) ?_; intro a hst
            refine wpL_nil ?_
            refine then_normal ?_
            refine wq_block ?_
            refine wq_loop_fuel (fun k_1222 a w' => ∃ (i_1218 : Int), r16_Valid.l2 r7577 J_1214 k_1222 i_1218 = some r ∧ ST [] Try.f13.ntmps a [(2, .bool false), (5, v7579), (6, .int .i64 i_1218)] ∧ SH (fun _ => False) w w' [Row (Kd.int .i64) 3 v7579 r7577]) k_1006 ?_ ?_
            · exact ⟨1, H, hst.keep _ ⟨rfl, rfl, rfl, trivial⟩, hsh.pick [0]⟩
            · rintro k_1222 a W_1219 ⟨i_1218, H, hst, hsh⟩
              cases k_1222 with
              | zero => rw [r16_Valid.l2] at H; cases H
              | succ k_1222 =>
               rw [r16_Valid.l2] at H
               refine wq_seq ?_
               refine wq_seq ?_
               refine wq_region_lit (.inl rfl) ?_
               refine r_t hst trivial rfl (x_move hst rfl) ?_; intro a hst
               refine r_t hst trivial rfl (x_move hst rfl) ?_; intro a hst
               refine r_t hst trivial rfl (x_lenSl hst Try.underlying56 rfl (hsh.row 0 rfl).slen) ?_; intro a hst
               refine r_t hst trivial rfl (x_cmpI (b := decide (i_1218 < (r7577.length : Int))) hst rfl rfl rfl) ?_; intro a hst
               refine wpL_nil ?_
               refine then_normal ?_
               by_cases c7632 : (decide (i_1218 < (r7577.length : Int))) = true
               · rw [if_pos c7632] at H
                 refine wq_condT hst rfl c7632 ?_
                 refine wq_skip ?_
                 refine then_normal ?_
                 refine wq_seq ?_
                 refine wq_block ?_
                 refine wq_seq ?_
                 refine wq_region_q (.inl rfl) (fun w' => SH (fun _ => False) w w' [Row (Kd.int .i64) 3 v7579 r7577]) (shut_sh _ _ _) hsh.drew fo (by kernel_rfl) ?_
                 refine q_t hst trivial rfl (fun _ hsh => x_move hst rfl) ?_; intro a hst
                 refine q_t hst trivial rfl (fun _ hsh => x_move hst rfl) ?_; intro a hst
                 refine q_t hst trivial rfl (fun _ hsh => x_arI (r := w64 (i_1218 - 1)) hst rfl rfl rfl) ?_; intro a hst
                 obtain ⟨x7637, hx7637, H⟩ := Option.bind_eq_some_iff.1 H
                 refine q_t hst trivial rfl (fun _ hsh => x_indexAddr hst Try.underlying56 el_3 rfl rfl (hsh.row 0 rfl) hx7637) ?_; intro a hst
                 refine q_t hst trivial rfl (fun _ hsh => x_loadEF (j := 0) (cs := [.int .i64 x7637]) hst sc_3 rfl (hsh.row 0 rfl) (Same.refl _ _) hx7637 rfl (fun _ h => h) rfl) ?_; intro a hst
                 refine q_t hst trivial rfl (fun _ hsh => x_move hst rfl) ?_; intro a hst
                 refine q_t hst trivial rfl (fun _ hsh => x_move hst rfl) ?_; intro a hst
                 obtain ⟨x7638, hx7638, H⟩ := Option.bind_eq_some_iff.1 H
                 refine q_t hst trivial rfl (fun _ hsh => x_indexAddr hst Try.underlying56 el_3 rfl rfl (hsh.row 0 rfl) hx7638) ?_; intro a hst
                 refine q_t hst trivial rfl (fun _ hsh => x_loadEF (j := 0) (cs := [.int .i64 x7638]) hst sc_3 rfl (hsh.row 0 rfl) (Same.refl _ _) hx7638 rfl (fun _ h => h) rfl) ?_; intro a hst
                 refine q_t hst trivial rfl (fun _ hsh => x_cmpI (b := (x7637 == x7638)) hst rfl rfl rfl) ?_; intro a hst
                 refine q_nil ?_
                 intro w7639 hsh
                 refine then_normal ?_
                 by_cases c7640 : (x7637 == x7638) = true
                 · rw [if_pos c7640] at H
                   refine wq_condT hst rfl c7640 ?_
                   refine wq_seq ?_
                   refine wq_region_lit (.inl rfl) ?_
                   refine r_t hst trivial rfl (x_assign hst rfl) ?_; intro a hst
                   refine wpL_nil ?_
                   refine then_normal ?_
                   refine wq_ret ?_
                   refine block_ret ?_
                   refine then_ret ?_
                   refine then_ret ?_
                   refine block_ret ?_
                   refine then_ret ?_
                   obtain rfl := Option.some.inj H
                   exact ret1 hst rfl rfl ⟨rfl, hsh.pick []⟩
                 · rw [if_neg c7640] at H
                   replace c7640 := Bool.eq_false_iff.2 c7640
                   refine wq_condF hst rfl c7640 ?_
                   refine wq_skip ?_
                   refine block_normal ?_
                   refine then_normal ?_
                   refine wq_region_lit (.inl rfl) ?_
                   refine r_t hst trivial rfl (x_move hst rfl) ?_; intro a hst
                   refine r_t hst trivial rfl (x_arI (r := w64 (i_1218 + 1)) hst rfl rfl rfl) ?_; intro a hst
                   refine r_t hst trivial rfl (x_assign hst rfl) ?_; intro a hst
                   refine wpL_nil ?_
                   refine then_normal ?_
                   exact ⟨k_1222, Nat.lt_succ_self _, (w64 (i_1218 + 1)), H, hst.keep _ ⟨rfl, rfl, rfl, trivial⟩, hsh.pick [0]⟩
               · rw [if_neg c7632] at H
                 replace c7632 := Bool.eq_false_iff.2 c7632
                 refine wq_condF hst rfl c7632 ?_
                 refine wq_exit ?_
                 refine then_exit ?_
                 refine then_exit ?_
                 refine block_hit ?_
                 refine then_normal ?_
                 exact ⟨H, hst.keep _ ⟨rfl, trivial⟩, hsh.pick []⟩
 · intro hj
   by_cases c3 : (decide ((a0.length : Int) < 1)) = true
   · refine r_not hst 10 rfl rfl c3 rfl ?_; intro a hst
     refine r_not hst 10 rfl rfl c3 rfl ?_; intro a hst
     refine r_not hst 10 rfl rfl c3 rfl ?_; intro a hst
     refine r_t hst trivial rfl (x_orT (decide (7 < (a0.length : Int))) hst rfl c3 rfl) ?_; intro a hst
     exact hj _ (hst.keep _ ⟨rfl, rfl, rfl, trivial⟩)
   · replace c3 := Bool.eq_false_iff.2 c3
     refine r_t hst (wt_of 10 rfl rfl c3) rfl (x_move hst rfl) ?_; intro a hst
     refine r_t hst (wt_of 10 rfl rfl c3) rfl (x_lenSl hst Try.underlying23 rfl hra0.slen) ?_; intro a hst
     refine r_t hst (wt_of 10 rfl rfl c3) rfl (x_cmpI (b := decide (7 < (a0.length : Int))) hst rfl rfl rfl) ?_; intro a hst
     refine r_t hst trivial rfl (x_orF hst rfl c3 rfl) ?_; intro a hst
     exact hj _ (hst.keep _ ⟨rfl, rfl, rfl, trivial⟩)

set_option maxHeartbeats 4000000 in
set_option maxRecDepth 100000 in
theorem slices_Clone_File.calls (w : World) (va0 : Value) (Za0 : Nat → Prop) (wra0 : World) (hsa0 : Same Za0 wra0 w) (a0 : (List File)) (hra0 : RD k_File Za0 wra0 va0 a0) (r : (List File)) (h : slices_Clone_File a0 = some r) :
    Calls Try.prog 59 ([va0] : List Value).toArray w fun e w' => ∃ v0_ : Value, e = .returned (v0_) ∧ SH (fun _ => False) w w' [Row k_File 43 v0_ r] := by
 have H := h
 clear h
 unfold slices_Clone_File at H
 refine calls_enter Try.func59 rfl rfl ?_
 intro a hst
 have hsh := SH.zero (fun _ => False) w
 refine wq_seq ?_
 refine wq_region_lit (.inl rfl) ?_
 refine r_t hst trivial rfl (x_assign hst rfl) ?_; intro a hst
 refine wpL_nil ?_
 refine then_normal ?_
 refine wq_seq ?_
 refine wq_seq ?_
 refine wq_region_lit (.inl rfl) ?_
 refine r_t hst trivial rfl (x_move hst rfl) ?_; intro a hst
 refine r_t hst trivial rfl (x_eqNil hst Try.underlying39 rfl rfl hra0.slen) ?_; intro a hst
 refine wpL_nil ?_
 refine then_normal ?_
 by_cases c2 : isNilV va0 = true
 · have hxn := RD.isNil hra0 c2
   replace H : (some ([])) = some r := by (rw [hxn] at H; (try rw [hxn]); simpa [pushN] using H)
   refine wq_condT hst rfl c2 ?_
   refine wq_seq ?_
   refine wq_region_lit (.inl rfl) ?_
   refine r_t hst trivial rfl (x_assign hst rfl) ?_; intro a hst
   refine wpL_nil ?_
   refine then_normal ?_
   refine wq_ret ?_
   refine then_ret ?_
   obtain rfl := Option.some.inj H
   have hsh := hsh.addNil k_File 43
   exact ret1 hst rfl rfl ⟨(.slice none 0 0), rfl, hsh.pick [0]⟩
 · replace c2 := Bool.eq_false_iff.2 c2
   refine wq_condF hst rfl c2 ?_
   refine wq_skip ?_
   refine then_normal ?_
   refine wq_seq ?_
   refine wq_region_lit (.inl rfl) ?_
   refine r_buildSlice (vs := []) (cs := []) hst hsh trivial rfl Try.underlying39 el_43 rfl rfl (by simp [Value.cells]) rfl rfl ?_
   intro g4 a w5 hgg4 hsh hst
   replace hsh := hsh.pick [0]
   replace hsh : SH (fun _ => False) w w5 [Row k_File 43 (.slice (some ⟨g4, 0, none⟩) 0 0) ([])] := SH.boxRow ([] : List File) hsh rfl rfl rfl
   refine r_t hst trivial rfl (x_move hst rfl) ?_; intro a hst
   replace hsh := hsh.pick [0]
   obtain ⟨l7, hl7, H⟩ := Option.bind_eq_some_iff.1 H
   refine r_appendN (M := []) hst hsh trivial rfl Try.underlying39 el_43 (by decide) (by decide) (by decide) rfl rfl (flat_flat _ _ _ _) hra0 (Same.sh0 hsa0 hsh) hl7 ?_
   intro v8 a w9 hsh hst
   refine r_t hst trivial rfl (x_assign hst rfl) ?_; intro a hst
   refine wpL_nil ?_
   refine then_normal ?_
   refine wq_ret ?_
   obtain rfl := Option.some.inj H
   exact ret1 hst rfl rfl ⟨v8, rfl, hsh.pick [0]⟩

set_option maxHeartbeats 4000000 in
set_option maxRecDepth 100000 in
theorem version_copied.calls (k : Nat) (w : World) (va0 : Value) (Za0 : Nat → Prop) (wra0 : World) (hsa0 : Same Za0 wra0 w) (a0 : (List (List File))) (hra0 : RD (Kd.slice 43 k_File) Za0 wra0 va0 a0) (r : (List (List File))) (h : version_copied k a0 = some r) :
    Calls Try.prog 40 ([va0] : List Value).toArray w fun e w' => ∃ v0_ : Value, e = .returned (v0_) ∧ SH (fun _ => False) w w' [Row (Kd.slice 43 k_File) 39 v0_ r] := by
 have H := h
 clear h
 unfold version_copied at H
 refine calls_enter Try.func40 rfl rfl ?_
 intro a hst
 have hsh := SH.zero (fun _ => False) w
 refine wq_seq ?_
 refine wq_region_lit (.inl rfl) ?_
 refine r_t hst trivial rfl (x_assign hst rfl) ?_; intro a hst
 refine wpL_nil ?_
 refine then_normal ?_
 refine wq_seq ?_
 refine wq_region_lit (.inl rfl) ?_
 refine r_t hst trivial rfl (x_move hst rfl) ?_; intro a hst
 refine r_t hst trivial rfl (x_lenSl hst Try.underlying23 rfl hra0.slen) ?_; intro a hst
 obtain ⟨l1, hl1, H⟩ := Option.bind_eq_some_iff.1 H
 refine r_makeSlice (dk := (Kd.slice 43 k_File)) (z := []) (zc := [(.slice none 0 0)]) hst hsh trivial rfl Try.underlying23 el_39 zr_39 (by decide) (by decide) rfl rfl mf_nil hl1 ?_
 intro v3 a w4 hsh hst
 refine r_t hst trivial rfl (x_assign hst rfl) ?_; intro a hst
 refine wpL_nil ?_
 refine then_normal ?_
 refine wq_seq ?_
 refine wq_seq ?_
 refine wq_region_lit (.inl rfl) ?_
 refine r_t hst trivial rfl (x_move hst rfl) ?_; intro a hst
 refine r_t hst trivial rfl (x_lenSl hst Try.underlying23 rfl hra0.slen) ?_; intro a hst
 refine r_t hst trivial rfl (x_move hst rfl) ?_; intro a hst
 refine wpL_nil ?_
 refine then_normal ?_
 refine wq_block ?_
 refine wq_loop_fuel (fun k_22 a w' => ∃ (l_16 : (List (List File))), ∃ (i_17 : Int), version_copied.l0 a0 k_22 l_16 i_17 = some r ∧ ST [] Try.f40.ntmps a [(0, va0), (2, (.slice none 0 0)), (3, v3), (9, .int .i64 (a0.length : Int)), (10, .int .i64 i_17)] ∧ SH (fun _ => False) w w' [Row (Kd.slice 43 k_File) 39 v3 l_16]) k ?_ ?_
 · exact ⟨l1, 0, H, hst.keep _ ⟨rfl, rfl, rfl, rfl, rfl, trivial⟩, hsh.pick [0]⟩
 · rintro k_22 a W_18 ⟨l_16, i_17, H, hst, hsh⟩
   cases k_22 with
   | zero => rw [version_copied.l0] at H; cases H
   | succ k_22 =>
    rw [version_copied.l0] at H
    refine wq_seq ?_
    refine wq_region_lit (.inl rfl) ?_
    refine r_t hst trivial rfl (x_cmpI (b := decide (i_17 < (a0.length : Int))) hst rfl rfl rfl) ?_; intro a hst
    refine wpL_nil ?_
    refine then_normal ?_
    refine wq_seq ?_
    by_cases c196 : (decide (i_17 < (a0.length : Int))) = true
    · rw [if_pos c196] at H
      refine wq_condT hst rfl c196 ?_
      refine wq_skip ?_
      refine then_normal ?_
      refine wq_seq ?_
      refine wq_block ?_
      refine wq_seq ?_
      refine wq_region_lit (.inl rfl) ?_
      refine r_t hst trivial rfl (x_move hst rfl) ?_; intro a hst
      refine r_t hst trivial rfl (x_assign hst rfl) ?_; intro a hst
      refine wpL_nil ?_
      refine then_normal ?_
      refine wq_region_lit (.inl rfl) ?_
      refine r_t hst trivial rfl (x_move hst rfl) ?_; intro a hst
      refine r_t hst trivial rfl (x_move hst rfl) ?_; intro a hst
      refine r_t hst trivial rfl (x_move hst rfl) ?_; intro a hst
      refine r_t hst trivial rfl (x_move hst rfl) ?_; intro a hst
      obtain ⟨x215, hx215, H⟩ := Option.bind_eq_some_iff.1 H
      refine r_t hst trivial rfl (x_indexAddr hst Try.underlying23 el_39 rfl rfl hra0 hx215) ?_; intro a hst
      obtain ⟨_, hk216, hc217⟩ := RD.cells2 hra0 hx215
      obtain ⟨v218, rfl, hr219⟩ := hk216
      refine r_t hst trivial rfl (x_loadC hst sc_39 rfl (hc217 _ (Same.sh0 hsa0 hsh) 0 _ rfl)) ?_; intro a hst
      obtain ⟨r220, hr220, H⟩ := Option.bind_eq_some_iff.1 H
      refine r_callD hst trivial rfl fn_59 rfl (slices_Clone_File.calls _ _ _ _ (Same.sh0 hsa0 hsh) _ hr219 r220 hr220) ?_
      rintro e w221 ⟨v222, rfl, hc⟩
      replace hsh := hsh.call0 hc
      clear hc
      refine ⟨_, rfl, fun a hst => ?_⟩
      obtain ⟨Z224, hoZ224, hsh⟩ := hsh.freeze 1 rfl
      have hRZ224 := hoZ224.rd
      obtain ⟨x225, hx225, H⟩ := Option.bind_eq_some_iff.1 H
      refine r_t hst trivial rfl (x_indexAddr hst Try.underlying23 el_39 rfl rfl hRZ224 hx225) ?_; intro a hst
      obtain ⟨_, hk226, hc227⟩ := RD.cells2 hRZ224 hx225
      obtain ⟨v228, rfl, hr229⟩ := hk226
      obtain ⟨l231, hl231, H⟩ := Option.bind_eq_some_iff.1 H
      have hcl := hc227 _ (hsh.frz 0 rfl) 0 _ rfl
      replace hsh := hsh.thaw 0 rfl hoZ224
      replace hsh := hsh.takeOut 0 rfl hx225 hcl
      replace hsh := hsh.pick [0, 1]
      obtain ⟨hlo, hlt, _⟩ := idx_some hx225
      refine r_put (M := []) hst hsh trivial sc_39 rfl rfl rfl (by omega) rfl (one_slice (hsh.row 1 rfl).slen) ?_; intro a w232 hsh hst
      rw [← upd_some hl231] at hsh
      refine wpL_nil ?_
      refine block_normal ?_
      refine then_normal ?_
      refine wq_region_lit (.inl rfl) ?_
      refine r_t hst trivial rfl (x_arI (r := w64 (i_17 + 1)) hst rfl rfl rfl) ?_; intro a hst
      refine r_t hst trivial rfl (x_move hst rfl) ?_; intro a hst
      refine wpL_nil ?_
      refine then_normal ?_
      exact ⟨k_22, Nat.lt_succ_self _, l231, (w64 (i_17 + 1)), H, hst.keep _ ⟨rfl, rfl, rfl, rfl, rfl, trivial⟩, hsh.pick [0]⟩
    · rw [if_neg c196] at H
      replace c196 := Bool.eq_false_iff.2 c196
      refine wq_condF hst rfl c196 ?_
      refine wq_exit ?_
      refine then_exit ?_
      refine then_exit ?_
      refine block_hit ?_
      refine then_normal ?_
      refine wq_seq ?_
      refine wq_region_lit (.inl rfl) ?_
      refine r_t hst trivial rfl (x_move hst rfl) ?_; intro a hst
      refine r_t hst trivial rfl (x_assign hst rfl) ?_; intro a hst
      refine wpL_nil ?_
      refine then_normal ?_
      refine wq_ret ?_
      obtain rfl := Option.some.inj H
      exact ret1 hst rfl rfl ⟨v3, rfl, hsh.pick [0]⟩

set_option maxHeartbeats 4000000 in
set_option maxRecDepth 100000 in
theorem version_Apply_1.calls (w : World) (a0 : File) (c0 : Place) (ggc0 : Nat) (Zc0 : Nat → Prop) (wrc0 : World) (hsc0 : Same Zc0 wrc0 w) (hzc0 : Zc0 ggc0) (hbc0 : wrc0.heap[ggc0]? = some (.cells ([.int .i64 c0.Level, .int .i64 c0.Number] : List Value).toArray 41 (0, 0))) (r : Bool) (h : version_Apply_1 a0 c0 = some r) :
    Calls Try.prog 42 ([.agg #[.int .i64 a0.Number, .int .i64 a0.Size, .string a0.Least, .string a0.Limit, .int .u64 a0.Low, .int .u64 a0.High], .pointer (some ⟨ggc0, 0, none⟩)] : List Value).toArray w fun e w' => e = .returned (.bool r) ∧ SH (fun _ => False) w w' [] := by
 have H := h
 clear h
 unfold version_Apply_1 at H
 refine calls_enter Try.func42 rfl rfl ?_
 intro a hst
 have hsh := SH.zero (fun _ => False) w
 refine wq_seq ?_
 refine wq_region_lit (.inl rfl) ?_
 refine r_box hst hsh trivial rfl rfl rfl ?_
 intro g1 a w2 hgg1 hsh hst
 refine r_t hst trivial rfl (x_assign hst rfl) ?_; intro a hst
 refine wpL_nil ?_
 refine then_normal ?_
 refine wq_seq ?_
 refine wq_region_lit (.inl rfl) ?_
 refine r_t hst trivial rfl (x_fieldAddr (j' := 0) hst fa_43_0 rfl rfl) ?_; intro a hst
 refine r_t hst trivial rfl (x_loadB (i := 0) hst hsh sc_3 rfl rfl rfl) ?_; intro a hst
 refine r_t hst trivial rfl (x_fieldAddr (j' := 1) hst fa_41_1 rfl rfl) ?_; intro a hst
 refine r_t hst trivial rfl (x_loadCap (cs := [.int .i64 c0.Level, .int .i64 c0.Number]) hst hbc0 (Same.sh0 hsc0 hsh) hzc0 sc_3 rfl rfl) ?_; intro a hst
 refine r_t hst trivial rfl (x_cmpI (b := (a0.Number == c0.Number)) hst rfl rfl rfl) ?_; intro a hst
 refine r_t hst trivial rfl (x_assign hst rfl) ?_; intro a hst
 refine wpL_nil ?_
 refine then_normal ?_
 refine wq_ret ?_
 obtain rfl := Option.some.inj H
 exact ret1 hst rfl rfl ⟨rfl, hsh.pick []⟩

set_option maxHeartbeats 4000000 in
set_option maxRecDepth 100000 in
theorem slices_IndexFunc_File.calls (k : Nat) (w : World) (va0 : Value) (Za0 : Nat → Prop) (wra0 : World) (hsa0 : Same Za0 wra0 w) (a0 : (List File)) (hra0 : RD k_File Za0 wra0 va0 a0) (va1 : Value) (Za1 : Nat → Prop) (wra1 : World) (hsa1 : Same Za1 wra1 w) (a1 : (File → Option Bool)) (hra1 : ∀ (w : World) (x0 : File) (r : Bool), Same Za1 wra1 w → a1 x0 = some r → CallsV Try.prog va1 [.agg #[.int .i64 x0.Number, .int .i64 x0.Size, .string x0.Least, .string x0.Limit, .int .u64 x0.Low, .int .u64 x0.High]] w (fun e w'' => e = .returned (.bool r) ∧ SH (fun _ => False) w w'' [])) (r : Int) (h : slices_IndexFunc_File k a0 a1 = some r) :
    Calls Try.prog 41 ([va0, va1] : List Value).toArray w fun e w' => e = .returned (.int .i64 r) ∧ SH (fun _ => False) w w' [] := by
 have H := h
 clear h
 unfold slices_IndexFunc_File at H
 refine calls_enter Try.func41 rfl rfl ?_
 intro a hst
 have hsh := SH.zero (fun _ => False) w
 refine wq_seq ?_
 refine wq_region_lit (.inl rfl) ?_
 refine r_t hst trivial rfl (x_assign hst rfl) ?_; intro a hst
 refine wpL_nil ?_
 refine then_normal ?_
 refine wq_seq ?_
 refine wq_seq ?_
 refine wq_region_lit (.inl rfl) ?_
 refine r_t hst trivial rfl (x_move hst rfl) ?_; intro a hst
 refine r_t hst trivial rfl (x_lenSl hst Try.underlying39 rfl hra0.slen) ?_; intro a hst
 refine r_t hst trivial rfl (x_move hst rfl) ?_; intro a hst
 refine wpL_nil ?_
 refine then_normal ?_
 refine wq_block ?_
 refine wq_loop_fuel (fun k_16 a w' => ∃ (i_12 : Int), slices_IndexFunc_File.l0 a0 a1 k_16 i_12 = some r ∧ ST [] Try.f41.ntmps a [(0, va0), (1, va1), (4, .int .i64 0), (7, .int .i64 (a0.length : Int)), (8, .int .i64 i_12)] ∧ SH (fun _ => False) w w' []) k ?_ ?_
 · exact ⟨0, H, hst.keep _ ⟨rfl, rfl, rfl, rfl, rfl, trivial⟩, hsh.pick []⟩
 · rintro k_16 a W_13 ⟨i_12, H, hst, hsh⟩
   cases k_16 with
   | zero => rw [slices_IndexFunc_File.l0] at H; cases H
   | succ k_16 =>
    rw [slices_IndexFunc_File.l0] at H
    refine wq_seq ?_
    refine wq_region_lit (.inl rfl) ?_
    refine r_t hst trivial rfl (x_cmpI (b := decide (i_12 < (a0.length : Int))) hst rfl rfl rfl) ?_; intro a hst
    refine wpL_nil ?_
    refine then_normal ?_
    refine wq_seq ?_
    by_cases c52 : (decide (i_12 < (a0.length : Int))) = true
    · rw [if_pos c52] at H
      refine wq_condT hst rfl c52 ?_
      refine wq_skip ?_
      refine then_normal ?_
      refine wq_seq ?_
      refine wq_block ?_
      refine wq_seq ?_
      refine wq_region_lit (.inl rfl) ?_
      refine r_t hst trivial rfl (x_move hst rfl) ?_; intro a hst
      refine r_t hst trivial rfl (x_assign hst rfl) ?_; intro a hst
      refine wpL_nil ?_
      refine then_normal ?_
      refine wq_seq ?_
      refine wq_region_lit (.inl rfl) ?_
      refine r_t hst trivial rfl (x_move hst rfl) ?_; intro a hst
      refine r_t hst trivial rfl (x_move hst rfl) ?_; intro a hst
      refine r_t hst trivial rfl (x_move hst rfl) ?_; intro a hst
      obtain ⟨x57, hx57, H⟩ := Option.bind_eq_some_iff.1 H
      refine r_t hst trivial rfl (x_indexAddr hst Try.underlying39 el_43 rfl rfl hra0 hx57) ?_; intro a hst
      refine r_t hst trivial rfl (x_loadEsF (j := 0) (cs := [.int .i64 x57.Number, .int .i64 x57.Size, .string x57.Least, .string x57.Limit, .int .u64 x57.Low, .int .u64 x57.High]) (ps := [.int .i64 x57.Number, .int .i64 x57.Size, .string x57.Least, .string x57.Limit, .int .u64 x57.Low, .int .u64 x57.High]) hst ag_43 rfl hra0 (Same.sh0 hsa0 hsh) hx57 rfl (fun _ h => h) rfl) ?_; intro a hst
      obtain ⟨r58, hr58, H⟩ := Option.bind_eq_some_iff.1 H
      refine r_callV hst trivial rfl rfl rfl (hra1 _ x57 r58 (Same.sh0 hsa1 hsh) hr58) ?_
      rintro e w59 ⟨rfl, hc⟩
      replace hsh := hsh.call0 hc
      clear hc
      refine ⟨_, rfl, fun a hst => ?_⟩
      refine wpL_nil ?_
      refine then_normal ?_
      by_cases c60 : r58 = true
      · rw [if_pos c60] at H
        refine wq_condT hst rfl c60 ?_
        refine wq_seq ?_
        refine wq_region_lit (.inl rfl) ?_
        refine r_t hst trivial rfl (x_move hst rfl) ?_; intro a hst
        refine r_t hst trivial rfl (x_assign hst rfl) ?_; intro a hst
        refine wpL_nil ?_
        refine then_normal ?_
        refine wq_ret ?_
        refine block_ret ?_
        refine then_ret ?_
        refine then_ret ?_
        refine block_ret ?_
        refine then_ret ?_
        obtain rfl := Option.some.inj H
        exact ret1 hst rfl rfl ⟨rfl, hsh.pick []⟩
      · rw [if_neg c60] at H
        replace c60 := Bool.eq_false_iff.2 c60
        refine wq_condF hst rfl c60 ?_
        refine wq_skip ?_
        refine block_normal ?_
        refine then_normal ?_
        refine wq_region_lit (.inl rfl) ?_
        refine r_t hst trivial rfl (x_arI (r := w64 (i_12 + 1)) hst rfl rfl rfl) ?_; intro a hst
        refine r_t hst trivial rfl (x_move hst rfl) ?_; intro a hst
        refine wpL_nil ?_
        refine then_normal ?_
        exact ⟨k_16, Nat.lt_succ_self _, (w64 (i_12 + 1)), H, hst.keep _ ⟨rfl, rfl, rfl, rfl, rfl, trivial⟩, hsh.pick []⟩
    · rw [if_neg c52] at H
      replace c52 := Bool.eq_false_iff.2 c52
      refine wq_condF hst rfl c52 ?_
      refine wq_exit ?_
      refine then_exit ?_
      refine then_exit ?_
      refine block_hit ?_
      refine then_normal ?_
      refine wq_seq ?_
      refine wq_region_lit (.inl rfl) ?_
      refine r_t hst trivial rfl (x_assign hst rfl) ?_; intro a hst
      refine wpL_nil ?_
      refine then_normal ?_
      refine wq_ret ?_
      obtain rfl := Option.some.inj H
      exact ret1 hst rfl rfl ⟨rfl, hsh.pick []⟩

set_option maxHeartbeats 4000000 in
set_option maxRecDepth 100000 in
theorem slices_Delete_File.calls (w : World) (GG : Nat → Prop) (va0 : Value) (a0 : (List File)) (a1 : Int) (a2 : Int) (hsep : Sep GG w [Row k_File 43 va0 a0]) (r : (List File)) (h : slices_Delete_File a0 a1 a2 = some r) :
    Calls Try.prog 43 ([va0, .int .i64 a1, .int .i64 a2] : List Value).toArray w fun e w' => ∃ v0_ : Value, e = .returned (v0_) ∧ SH GG w w' [Row k_File 43 v0_ r] := by
 have H := h
 clear h
 unfold slices_Delete_File at H
 refine calls_enter Try.func43 rfl rfl ?_
 intro a hst
 have hsh := SH.start hsep
 refine wq_seq ?_
 refine wq_region_lit (.inl rfl) ?_
 refine r_t hst trivial rfl (x_assign hst rfl) ?_; intro a hst
 refine wpL_nil ?_
 refine then_normal ?_
 refine wq_seq ?_
 refine wq_region_lit (.inl rfl) ?_
 refine r_t hst trivial rfl (x_move hst rfl) ?_; intro a hst
 refine r_t hst trivial rfl (x_move hst rfl) ?_; intro a hst
 refine r_t hst trivial rfl (x_move hst rfl) ?_; intro a hst
 refine r_t hst trivial rfl (x_move hst rfl) ?_; intro a hst
 refine r_t hst trivial rfl (x_lenSl hst Try.underlying39 rfl (hsh.row 0 rfl).slen) ?_; intro a hst
 obtain ⟨l1, hl1, H⟩ := Option.bind_eq_some_iff.1 H
 refine r_t hst trivial rfl (x_cut3 hst Try.underlying39 el_43 rfl rfl rfl rfl (hsh.row 0 rfl) hl1) ?_; intro a hst
 refine wpL_nil ?_
 refine then_normal ?_
 refine wq_seq ?_
 refine wq_seq ?_
 refine wq_region_lit (.inl rfl) ?_
 refine r_t hst trivial rfl (x_move hst rfl) ?_; intro a hst
 refine r_t hst trivial rfl (x_move hst rfl) ?_; intro a hst
 refine r_t hst trivial rfl (x_cmpI (b := (a1 == a2)) hst rfl rfl rfl) ?_; intro a hst
 refine wpL_nil ?_
 refine then_normal ?_
 by_cases c3 : (a1 == a2) = true
 · rw [if_pos c3] at H
   refine wq_condT hst rfl c3 ?_
   refine wq_seq ?_
   refine wq_region_lit (.inl rfl) ?_
   refine r_t hst trivial rfl (x_move hst rfl) ?_; intro a hst
   refine r_t hst trivial rfl (x_assign hst rfl) ?_; intro a hst
   refine wpL_nil ?_
   refine then_normal ?_
   refine wq_ret ?_
   refine then_ret ?_
   obtain rfl := Option.some.inj H
   exact ret1 hst rfl rfl ⟨va0, rfl, hsh.pick [0]⟩
 · rw [if_neg c3] at H
   replace c3 := Bool.eq_false_iff.2 c3
   refine wq_condF hst rfl c3 ?_
   refine wq_skip ?_
   refine then_normal ?_
   refine wq_seq ?_
   refine wq_region_lit (.inl rfl) ?_
   refine r_t hst trivial rfl (x_move hst rfl) ?_; intro a hst
   refine r_t hst trivial rfl (x_lenSl hst Try.underlying39 rfl (hsh.row 0 rfl).slen) ?_; intro a hst
   refine r_t hst trivial rfl (x_assign hst rfl) ?_; intro a hst
   refine wpL_nil ?_
   refine then_normal ?_
   refine wq_seq ?_
   have hw3_0 := hsh.row 0 rfl
   refine wq_region_t (.inl rfl) (.fin [(3, 0), (3, 1), (3, 2), (3, 3), (3, 4), (3, 5), (1, 6), (3, 7)]) (fun w' => SH GG w w' []) (fun w' => SH GG w w' []) (fun w' => SH GG w w' [Row k_File 43 va0 a0]) (shut_sh _ _ _) (shut_sh _ _ _) (shut_sh _ _ _) (sub_sh [] rfl) (sub_sh [] rfl) hsh.drew fo (by kernel_rfl) ?_
   refine t_fin ?_
   refine m_p hst trivial rfl (fun _ => x_move hst rfl) ?_; intro a hst
   refine m_p hst trivial rfl (fun _ => x_move hst rfl) ?_; intro a hst
   obtain ⟨l4, hl4, H⟩ := Option.bind_eq_some_iff.1 H
   refine m_p hst trivial rfl (fun _ => x_cutH hst Try.underlying39 el_43 rfl rfl hw3_0 hl4) ?_; intro a hst
   refine m_p hst trivial rfl (fun _ => x_move hst rfl) ?_; intro a hst
   refine m_p hst trivial rfl (fun _ => x_move hst rfl) ?_; intro a hst
   obtain ⟨l5, hl5, H⟩ := Option.bind_eq_some_iff.1 H
   refine m_p hst trivial rfl (fun _ => x_cutL hst Try.underlying39 el_43 rfl rfl hw3_0 hl5) ?_; intro a hst
   refine m_loud (.inl rfl) ?_
   intro w6 hsh
   by_cases c9 : a1 < a2
   · rw [if_pos c9] at H
     obtain ⟨l8, hl8, H⟩ := Option.bind_eq_some_iff.1 H
     refine r_appSelf (q := 0) hst hsh trivial rfl Try.underlying39 el_43 (by decide) rfl rfl rfl hl4 hl5 c9 ?_; intro a w7 hsh hst
     refine m_on (MB := [Row k_File 43 va0 (selfApp a0 (Int.toNat a1) (Int.toNat a2))]) [0] [] rfl rfl hsh rfl (sub_sh [] rfl) ?_
     refine m_p hst trivial rfl (fun _ => x_assign hst rfl) ?_; intro a hst
     refine m_nil ?_
     intro w10 hsh
     refine qn_normal ?_
     refine then_normal ?_
     refine wq_seq ?_
     refine wq_region_lit (.inl rfl) ?_
     refine r_t hst trivial rfl (x_move hst rfl) ?_; intro a hst
     refine r_t hst trivial rfl (x_move hst rfl) ?_; intro a hst
     refine r_t hst trivial rfl (x_lenSl hst Try.underlying39 rfl ((hsh.row 0 rfl).cut (by decide) hl8).slen) ?_; intro a hst
     refine r_t hst trivial rfl (x_move hst rfl) ?_; intro a hst
     obtain ⟨l11, hl11, H⟩ := Option.bind_eq_some_iff.1 H
     refine r_t hst trivial rfl (x_cutLHb hst Try.underlying39 el_43 rfl rfl rfl (hsh.row 0 rfl) hl11) ?_; intro a hst
     refine r_clear (i := 0) (z := (⟨0, 0, (ByteArray.mk #[]), (ByteArray.mk #[]), 0, 0⟩ : File)) (zc := [.int .i64 0, .int .i64 0, .string (ByteArray.mk #[]), .string (ByteArray.mk #[]), .int .u64 0, .int .u64 0]) hst hsh trivial Try.underlying39 el_43 zr_43 (by decide) rfl (fun _ _ => rfl) rfl hl11 ?_; intro a w12 hsh hst
     refine wpL_nil ?_
     refine then_normal ?_
     refine wq_seq ?_
     refine wq_region_lit (.inl rfl) ?_
     refine r_t hst trivial rfl (x_move hst rfl) ?_; intro a hst
     refine r_t hst trivial rfl (x_assign hst rfl) ?_; intro a hst
     refine wpL_nil ?_
     refine then_normal ?_
     refine wq_ret ?_
     obtain ⟨l13, hl13, H⟩ := Option.bind_eq_some_iff.1 H
     obtain rfl := Option.some.inj H
     replace hsh := hsh.cutRow 0 rfl hl13
     exact ret1 hst rfl rfl ⟨(cutV va0 (Int.toNat 0) (Int.toNat ((Int.toNat a1 + (a0.length - Int.toNat a2) : Nat) : Int)) k_File.sz), rfl, hsh.pick [0]⟩
   · rw [if_neg c9] at H; cases H

set_option maxHeartbeats 4000000 in
set_option maxRecDepth 100000 in
theorem cmp_isNaN_int.calls (w : World) (a0 : Int) (r : Bool) (h : cmp_isNaN_int a0 = some r) :
    Calls Try.prog 68 ([.int .i64 a0] : List Value).toArray w fun e w' => e = .returned (.bool r) ∧ SH (fun _ => False) w w' [] := by
 have H := h
 clear h
 unfold cmp_isNaN_int at H
 refine calls_enter Try.func68 rfl rfl ?_
 intro a hst
 have hsh := SH.zero (fun _ => False) w
 refine wq_seq ?_
 refine wq_region_lit (.inl rfl) ?_
 refine r_t hst trivial rfl (x_assign hst rfl) ?_; intro a hst
 refine wpL_nil ?_
 refine then_normal ?_
 refine wq_seq ?_
 refine wq_region_lit (.inl rfl) ?_
 refine r_t hst trivial rfl (x_move hst rfl) ?_; intro a hst
 refine r_t hst trivial rfl (x_move hst rfl) ?_; intro a hst
 refine r_t hst trivial rfl (x_cmpI (b := (a0 != a0)) hst rfl rfl rfl) ?_; intro a hst
 refine r_t hst trivial rfl (x_assign hst rfl) ?_; intro a hst
 refine wpL_nil ?_
 refine then_normal ?_
 refine wq_ret ?_
 obtain rfl := Option.some.inj H
 exact ret1 hst rfl rfl ⟨rfl, hsh.pick []⟩

set_option maxHeartbeats 4000000 in
set_option maxRecDepth 100000 in
theorem cmp_Compare_int.calls (w : World) (a0 : Int) (a1 : Int) (r : Int) (h : cmp_Compare_int a0 a1 = some r) :
    Calls Try.prog 62 ([.int .i64 a0, .int .i64 a1] : List Value).toArray w fun e w' => e = .returned (.int .i64 r) ∧ SH (fun _ => False) w w' [] := by
 have H := h
 clear h
 unfold cmp_Compare_int at H
 refine calls_enter Try.func62 rfl rfl ?_
 intro a hst
 have hsh := SH.zero (fun _ => False) w
 refine wq_seq ?_
 refine wq_region_lit (.inl rfl) ?_
 refine r_t hst trivial rfl (x_assign hst rfl) ?_; intro a hst
 refine wpL_nil ?_
 refine then_normal ?_
 refine wq_seq ?_
 refine wq_region_lit (.inl rfl) ?_
 refine r_t hst trivial rfl (x_move hst rfl) ?_; intro a hst
 obtain ⟨r1, hr1, H⟩ := Option.bind_eq_some_iff.1 H
 refine r_callD hst trivial rfl fn_68 rfl (cmp_isNaN_int.calls _ a0 r1 hr1) ?_
 rintro e w2 ⟨rfl, hc⟩
 replace hsh := hsh.call0 hc
 clear hc
 refine ⟨_, rfl, fun a hst => ?_⟩
 refine r_t hst trivial rfl (x_assign hst rfl) ?_; intro a hst
 refine wpL_nil ?_
 refine then_normal ?_
 refine wq_seq ?_
 refine wq_region_lit (.inl rfl) ?_
 refine r_t hst trivial rfl (x_move hst rfl) ?_; intro a hst
 obtain ⟨r3, hr3, H⟩ := Option.bind_eq_some_iff.1 H
 refine r_callD hst trivial rfl fn_68 rfl (cmp_isNaN_int.calls _ a1 r3 hr3) ?_
 rintro e w4 ⟨rfl, hc⟩
 replace hsh := hsh.call0 hc
 clear hc
 refine ⟨_, rfl, fun a hst => ?_⟩
 refine r_t hst trivial rfl (x_assign hst rfl) ?_; intro a hst
 refine wpL_nil ?_
 refine then_normal ?_
 refine wq_seq ?_
 refine wq_seq ?_
 refine wq_region_lit (.inl rfl) ?_
 refine r_t hst trivial rfl (x_move hst rfl) ?_; intro a hst
 refine wpL_nil ?_
 refine then_normal ?_
 by_cases c8 : r1 = true
 · rw [if_pos c8] at H
   refine wq_condT hst rfl c8 ?_
   refine wq_seq ?_
   refine wq_seq ?_
   refine wq_region_lit (.inl rfl) ?_
   refine r_t hst trivial rfl (x_move hst rfl) ?_; intro a hst
   refine wpL_nil ?_
   refine then_normal ?_
   by_cases c10 : r3 = true
   · rw [if_pos c10] at H
     refine wq_condT hst rfl c10 ?_
     refine wq_seq ?_
     refine wq_region_lit (.inl rfl) ?_
     refine r_t hst trivial rfl (x_assign hst rfl) ?_; intro a hst
     refine wpL_nil ?_
     refine then_normal ?_
     refine wq_ret ?_
     refine then_ret ?_
     refine then_ret ?_
     obtain rfl := Option.some.inj H
     exact ret1 hst rfl rfl ⟨rfl, hsh.pick []⟩
   · rw [if_neg c10] at H
     replace c10 := Bool.eq_false_iff.2 c10
     refine wq_condF hst rfl c10 ?_
     refine wq_skip ?_
     refine then_normal ?_
     refine wq_seq ?_
     refine wq_region_lit (.inl rfl) ?_
     refine r_t hst trivial rfl (x_assign hst rfl) ?_; intro a hst
     refine wpL_nil ?_
     refine then_normal ?_
     refine wq_ret ?_
     refine then_ret ?_
     obtain rfl := Option.some.inj H
     exact ret1 hst rfl rfl ⟨rfl, hsh.pick []⟩
 · rw [if_neg c8] at H
   replace c8 := Bool.eq_false_iff.2 c8
   refine wq_condF hst rfl c8 ?_
   refine wq_skip ?_
   refine then_normal ?_
   refine wq_seq ?_
   refine wq_seq ?_
   refine wq_region_lit (.inl rfl) ?_
   refine r_t hst trivial rfl (x_move hst rfl) ?_; intro a hst
   refine wpL_nil ?_
   refine then_normal ?_
   by_cases c12 : r3 = true
   · rw [if_pos c12] at H
     refine wq_condT hst rfl c12 ?_
     refine wq_seq ?_
     refine wq_region_lit (.inl rfl) ?_
     refine r_t hst trivial rfl (x_assign hst rfl) ?_; intro a hst
     refine wpL_nil ?_
     refine then_normal ?_
     refine wq_ret ?_
     refine then_ret ?_
     obtain rfl := Option.some.inj H
     exact ret1 hst rfl rfl ⟨rfl, hsh.pick []⟩
   · rw [if_neg c12] at H
     replace c12 := Bool.eq_false_iff.2 c12
     refine wq_condF hst rfl c12 ?_
     refine wq_skip ?_
     refine then_normal ?_
     refine wq_seq ?_
     refine wq_seq ?_
     refine wq_region_lit (.inl rfl) ?_
     refine r_t hst trivial rfl (x_move hst rfl) ?_; intro a hst
     refine r_t hst trivial rfl (x_move hst rfl) ?_; intro a hst
     refine r_t hst trivial rfl (x_cmpI (b := decide (a0 < a1)) hst rfl rfl rfl) ?_; intro a hst
     refine wpL_nil ?_
     refine then_normal ?_
     by_cases c14 : (decide (a0 < a1)) = true
     · rw [if_pos c14] at H
       refine wq_condT hst rfl c14 ?_
       refine wq_seq ?_
       refine wq_region_lit (.inl rfl) ?_
       refine r_t hst trivial rfl (x_assign hst rfl) ?_; intro a hst
       refine wpL_nil ?_
       refine then_normal ?_
       refine wq_ret ?_
       refine then_ret ?_
       obtain rfl := Option.some.inj H
       exact ret1 hst rfl rfl ⟨rfl, hsh.pick []⟩
     · rw [if_neg c14] at H
       replace c14 := Bool.eq_false_iff.2 c14
       refine wq_condF hst rfl c14 ?_
       refine wq_skip ?_
       refine then_normal ?_
       refine wq_seq ?_
       refine wq_seq ?_
       refine wq_region_lit (.inl rfl) ?_
       refine r_t hst trivial rfl (x_move hst rfl) ?_; intro a hst
       refine r_t hst trivial rfl (x_move hst rfl) ?_; intro a hst
       refine r_t hst trivial rfl (x_cmpI (b := decide (a1 < a0)) hst rfl rfl rfl) ?_; intro a hst
       refine wpL_nil ?_
       refine then_normal ?_
       by_cases c16 : (decide (a1 < a0)) = true
       · rw [if_pos c16] at H
         refine wq_condT hst rfl c16 ?_
         refine wq_seq ?_
         refine wq_region_lit (.inl rfl) ?_
         refine r_t hst trivial rfl (x_assign hst rfl) ?_; intro a hst
         refine wpL_nil ?_
         refine then_normal ?_
         refine wq_ret ?_
         refine then_ret ?_
         obtain rfl := Option.some.inj H
         exact ret1 hst rfl rfl ⟨rfl, hsh.pick []⟩
       · rw [if_neg c16] at H
         replace c16 := Bool.eq_false_iff.2 c16
         refine wq_condF hst rfl c16 ?_
         refine wq_skip ?_
         refine then_normal ?_
         refine wq_seq ?_
         refine wq_region_lit (.inl rfl) ?_
         refine r_t hst trivial rfl (x_assign hst rfl) ?_; intro a hst
         refine wpL_nil ?_
         refine then_normal ?_
         refine wq_ret ?_
         obtain rfl := Option.some.inj H
         exact ret1 hst rfl rfl ⟨rfl, hsh.pick []⟩

set_option maxHeartbeats 4000000 in
set_option maxRecDepth 100000 in
theorem cmp_isNaN_string.calls (w : World) (a0 : ByteArray) (r : Bool) (h : cmp_isNaN_string a0 = some r) :
    Calls Try.prog 69 ([.string a0] : List Value).toArray w fun e w' => e = .returned (.bool r) ∧ SH (fun _ => False) w w' [] := by
 have H := h
 clear h
 unfold cmp_isNaN_string at H
 refine calls_enter Try.func69 rfl rfl ?_
 intro a hst
 have hsh := SH.zero (fun _ => False) w
 refine wq_seq ?_
 refine wq_region_lit (.inl rfl) ?_
 refine r_t hst trivial rfl (x_assign hst rfl) ?_; intro a hst
 refine wpL_nil ?_
 refine then_normal ?_
 refine wq_seq ?_
 refine wq_region_lit (.inl rfl) ?_
 refine r_t hst trivial rfl (x_move hst rfl) ?_; intro a hst
 refine r_t hst trivial rfl (x_move hst rfl) ?_; intro a hst
 refine r_t hst trivial rfl (x_cmpS (b := (!sEq a0 a0)) hst rfl rfl rfl) ?_; intro a hst
 refine r_t hst trivial rfl (x_assign hst rfl) ?_; intro a hst
 refine wpL_nil ?_
 refine then_normal ?_
 refine wq_ret ?_
 obtain rfl := Option.some.inj H
 exact ret1 hst rfl rfl ⟨rfl, hsh.pick []⟩

set_option maxHeartbeats 4000000 in
set_option maxRecDepth 100000 in
theorem cmp_Compare_string.calls (w : World) (a0 : ByteArray) (a1 : ByteArray) (r : Int) (h : cmp_Compare_string a0 a1 = some r) :
    Calls Try.prog 63 ([.string a0, .string a1] : List Value).toArray w fun e w' => e = .returned (.int .i64 r) ∧ SH (fun _ => False) w w' [] := by
 have H := h
 clear h
 unfold cmp_Compare_string at H
 refine calls_enter Try.func63 rfl rfl ?_
 intro a hst
 have hsh := SH.zero (fun _ => False) w
 refine wq_seq ?_
 refine wq_region_lit (.inl rfl) ?_
 refine r_t hst trivial rfl (x_assign hst rfl) ?_; intro a hst
 refine wpL_nil ?_
 refine then_normal ?_
 refine wq_seq ?_
 refine wq_region_lit (.inl rfl) ?_
 refine r_t hst trivial rfl (x_move hst rfl) ?_; intro a hst
 obtain ⟨r1, hr1, H⟩ := Option.bind_eq_some_iff.1 H
 refine r_callD hst trivial rfl fn_69 rfl (cmp_isNaN_string.calls _ a0 r1 hr1) ?_
 rintro e w2 ⟨rfl, hc⟩
 replace hsh := hsh.call0 hc
 clear hc
 refine ⟨_, rfl, fun a hst => ?_⟩
 refine r_t hst trivial rfl (x_assign hst rfl) ?_; intro a hst
 refine wpL_nil ?_
 refine then_normal ?_
 refine wq_seq ?_
 refine wq_region_lit (.inl rfl) ?_
 refine r_t hst trivial rfl (x_move hst rfl) ?_; intro a hst
 obtain ⟨r3, hr3, H⟩ := Option.bind_eq_some_iff.1 H
 refine r_callD hst trivial rfl fn_69 rfl (cmp_isNaN_string.calls _ a1 r3 hr3) ?_
 rintro e w4 ⟨rfl, hc⟩
 replace hsh := hsh.call0 hc
 clear hc
 refine ⟨_, rfl, fun a hst => ?_⟩
 refine r_t hst trivial rfl (x_assign hst rfl) ?_; intro a hst
 refine wpL_nil ?_
 refine then_normal ?_
 refine wq_seq ?_
 refine wq_seq ?_
 refine wq_region_lit (.inl rfl) ?_
 refine r_t hst trivial rfl (x_move hst rfl) ?_; intro a hst
 refine wpL_nil ?_
 refine then_normal ?_
 by_cases c8 : r1 = true
 · rw [if_pos c8] at H
   refine wq_condT hst rfl c8 ?_
   refine wq_seq ?_
   refine wq_seq ?_
   refine wq_region_lit (.inl rfl) ?_
   refine r_t hst trivial rfl (x_move hst rfl) ?_; intro a hst
   refine wpL_nil ?_
   refine then_normal ?_
   by_cases c10 : r3 = true
   · rw [if_pos c10] at H
     refine wq_condT hst rfl c10 ?_
     refine wq_seq ?_
     refine wq_region_lit (.inl rfl) ?_
     refine r_t hst trivial rfl (x_assign hst rfl) ?_; intro a hst
     refine wpL_nil ?_
     refine then_normal ?_
     refine wq_ret ?_
     refine then_ret ?_
     refine then_ret ?_
     obtain rfl := Option.some.inj H
     exact ret1 hst rfl rfl ⟨rfl, hsh.pick []⟩
   · rw [if_neg c10] at H
     replace c10 := Bool.eq_false_iff.2 c10
     refine wq_condF hst rfl c10 ?_
     refine wq_skip ?_
     refine then_normal ?_
     refine wq_seq ?_
     refine wq_region_lit (.inl rfl) ?_
     refine r_t hst trivial rfl (x_assign hst rfl) ?_; intro a hst
     refine wpL_nil ?_
     refine then_normal ?_
     refine wq_ret ?_
     refine then_ret ?_
     obtain rfl := Option.some.inj H
     exact ret1 hst rfl rfl ⟨rfl, hsh.pick []⟩
 · rw [if_neg c8] at H
   replace c8 := Bool.eq_false_iff.2 c8
   refine wq_condF hst rfl c8 ?_
   refine wq_skip ?_
   refine then_normal ?_
   refine wq_seq ?_
   refine wq_seq ?_
   refine wq_region_lit (.inl rfl) ?_
   refine r_t hst trivial rfl (x_move hst rfl) ?_; intro a hst
   refine wpL_nil ?_
   refine then_normal ?_
   by_cases c12 : r3 = true
   · rw [if_pos c12] at H
     refine wq_condT hst rfl c12 ?_
     refine wq_seq ?_
     refine wq_region_lit (.inl rfl) ?_
     refine r_t hst trivial rfl (x_assign hst rfl) ?_; intro a hst
     refine wpL_nil ?_
     refine then_normal ?_
     refine wq_ret ?_
     refine then_ret ?_
     obtain rfl := Option.some.inj H
     exact ret1 hst rfl rfl ⟨rfl, hsh.pick []⟩
   · rw [if_neg c12] at H
     replace c12 := Bool.eq_false_iff.2 c12
     refine wq_condF hst rfl c12 ?_
     refine wq_skip ?_
     refine then_normal ?_
     refine wq_seq ?_
     refine wq_seq ?_
     refine wq_region_lit (.inl rfl) ?_
     refine r_t hst trivial rfl (x_move hst rfl) ?_; intro a hst
     refine r_t hst trivial rfl (x_move hst rfl) ?_; intro a hst
     refine r_t hst trivial rfl (x_cmpS (b := sLt a0 a1) hst rfl rfl rfl) ?_; intro a hst
     refine wpL_nil ?_
     refine then_normal ?_
     by_cases c14 : (sLt a0 a1) = true
     · rw [if_pos c14] at H
       refine wq_condT hst rfl c14 ?_
       refine wq_seq ?_
       refine wq_region_lit (.inl rfl) ?_
       refine r_t hst trivial rfl (x_assign hst rfl) ?_; intro a hst
       refine wpL_nil ?_
       refine then_normal ?_
       refine wq_ret ?_
       refine then_ret ?_
       obtain rfl := Option.some.inj H
       exact ret1 hst rfl rfl ⟨rfl, hsh.pick []⟩
     · rw [if_neg c14] at H
       replace c14 := Bool.eq_false_iff.2 c14
       refine wq_condF hst rfl c14 ?_
       refine wq_skip ?_
       refine then_normal ?_
       refine wq_seq ?_
       refine wq_seq ?_
       refine wq_region_lit (.inl rfl) ?_
       refine r_t hst trivial rfl (x_move hst rfl) ?_; intro a hst
       refine r_t hst trivial rfl (x_move hst rfl) ?_; intro a hst
       refine r_t hst trivial rfl (x_cmpS (b := (!(sLt a0 a1 || sEq a0 a1))) hst rfl rfl rfl) ?_; intro a hst
       refine wpL_nil ?_
       refine then_normal ?_
       by_cases c16 : (!(sLt a0 a1 || sEq a0 a1)) = true
       · rw [if_pos c16] at H
         refine wq_condT hst rfl c16 ?_
         refine wq_seq ?_
         refine wq_region_lit (.inl rfl) ?_
         refine r_t hst trivial rfl (x_assign hst rfl) ?_; intro a hst
         refine wpL_nil ?_
         refine then_normal ?_
         refine wq_ret ?_
         refine then_ret ?_
         obtain rfl := Option.some.inj H
         exact ret1 hst rfl rfl ⟨rfl, hsh.pick []⟩
       · rw [if_neg c16] at H
         replace c16 := Bool.eq_false_iff.2 c16
         refine wq_condF hst rfl c16 ?_
         refine wq_skip ?_
         refine then_normal ?_
         refine wq_seq ?_
         refine wq_region_lit (.inl rfl) ?_
         refine r_t hst trivial rfl (x_assign hst rfl) ?_; intro a hst
         refine wpL_nil ?_
         refine then_normal ?_
         refine wq_ret ?_
         obtain rfl := Option.some.inj H
         exact ret1 hst rfl rfl ⟨rfl, hsh.pick []⟩

set_option maxHeartbeats 4000000 in
set_option maxRecDepth 100000 in
theorem version_sorted_1.calls (w : World) (a0 : File) (a1 : File) (c0 : Int) (ggc0 : Nat) (Zc0 : Nat → Prop) (wrc0 : World) (hsc0 : Same Zc0 wrc0 w) (hzc0 : Zc0 ggc0) (hbc0 : wrc0.heap[ggc0]? = some (.cells ([.int .i64 c0] : List Value).toArray 3 (0, 0))) (r : Int) (h : version_sorted_1 a0 a1 c0 = some r) :
    Calls Try.prog 61 ([.agg #[.int .i64 a0.Number, .int .i64 a0.Size, .string a0.Least, .string a0.Limit, .int .u64 a0.Low, .int .u64 a0.High], .agg #[.int .i64 a1.Number, .int .i64 a1.Size, .string a1.Least, .string a1.Limit, .int .u64 a1.Low, .int .u64 a1.High], .pointer (some ⟨ggc0, 0, none⟩)] : List Value).toArray w fun e w' => e = .returned (.int .i64 r) ∧ SH (fun _ => False) w w' [] := by
 have H := h
 clear h
 unfold version_sorted_1 at H
 refine calls_enter Try.func61 rfl rfl ?_
 intro a hst
 have hsh := SH.zero (fun _ => False) w
 refine wq_seq ?_
 refine wq_region_lit (.inl rfl) ?_
 refine r_box hst hsh trivial rfl rfl rfl ?_
 intro g1 a w2 hgg1 hsh hst
 refine r_box hst hsh trivial rfl rfl rfl ?_
 intro g3 a w4 hgg3 hsh hst
 refine r_t hst trivial rfl (x_assign hst rfl) ?_; intro a hst
 refine wpL_nil ?_
 refine then_normal ?_
 refine wq_seq ?_
 refine wq_seq ?_
 refine wq_region_lit (.inl rfl) ?_
 refine r_t hst trivial rfl (x_loadCap (cs := [.int .i64 c0]) hst hbc0 (Same.sh0 hsc0 hsh) hzc0 sc_3 rfl rfl) ?_; intro a hst
 refine r_t hst trivial rfl (x_cmpI (b := (c0 == 0)) hst rfl rfl rfl) ?_; intro a hst
 refine wpL_nil ?_
 refine then_normal ?_
 by_cases c8 : (c0 == 0) = true
 · rw [if_pos c8] at H
   refine wq_condT hst rfl c8 ?_
   refine wq_seq ?_
   refine wq_region_lit (.inl rfl) ?_
   refine r_t hst trivial rfl (x_fieldAddr (j' := 0) hst fa_43_0 rfl rfl) ?_; intro a hst
   refine r_t hst trivial rfl (x_loadB (i := 1) hst hsh sc_3 rfl rfl rfl) ?_; intro a hst
   refine r_t hst trivial rfl (x_fieldAddr (j' := 0) hst fa_43_0 rfl rfl) ?_; intro a hst
   refine r_t hst trivial rfl (x_loadB (i := 0) hst hsh sc_3 rfl rfl rfl) ?_; intro a hst
   obtain ⟨r9, hr9, H⟩ := Option.bind_eq_some_iff.1 H
   refine r_callD hst trivial rfl fn_62 rfl (cmp_Compare_int.calls _ a0.Number a1.Number r9 hr9) ?_
   rintro e w10 ⟨rfl, hc⟩
   replace hsh := hsh.call0 hc
   clear hc
   refine ⟨_, rfl, fun a hst => ?_⟩
   refine r_t hst trivial rfl (x_assign hst rfl) ?_; intro a hst
   refine wpL_nil ?_
   refine then_normal ?_
   refine wq_ret ?_
   refine then_ret ?_
   obtain rfl := Option.some.inj H
   exact ret1 hst rfl rfl ⟨rfl, hsh.pick []⟩
 · rw [if_neg c8] at H
   replace c8 := Bool.eq_false_iff.2 c8
   refine wq_condF hst rfl c8 ?_
   refine wq_skip ?_
   refine then_normal ?_
   refine wq_seq ?_
   refine wq_region_lit (.inl rfl) ?_
   refine r_t hst trivial rfl (x_fieldAddr (j' := 2) hst fa_43_2 rfl rfl) ?_; intro a hst
   refine r_t hst trivial rfl (x_loadB (i := 1) hst hsh sc_9 rfl rfl rfl) ?_; intro a hst
   refine r_t hst trivial rfl (x_fieldAddr (j' := 2) hst fa_43_2 rfl rfl) ?_; intro a hst
   refine r_t hst trivial rfl (x_loadB (i := 0) hst hsh sc_9 rfl rfl rfl) ?_; intro a hst
   obtain ⟨r11, hr11, H⟩ := Option.bind_eq_some_iff.1 H
   refine r_callD hst trivial rfl fn_63 rfl (cmp_Compare_string.calls _ a0.Least a1.Least r11 hr11) ?_
   rintro e w12 ⟨rfl, hc⟩
   replace hsh := hsh.call0 hc
   clear hc
   refine ⟨_, rfl, fun a hst => ?_⟩
   refine r_t hst trivial rfl (x_assign hst rfl) ?_; intro a hst
   refine wpL_nil ?_
   refine then_normal ?_
   refine wq_ret ?_
   obtain rfl := Option.some.inj H
   exact ret1 hst rfl rfl ⟨rfl, hsh.pick []⟩

set_option maxHeartbeats 4000000 in
set_option maxRecDepth 100000 in
theorem slices_insertionSortCmpFunc_File.calls (k : Nat) (w : World) (GG : Nat → Prop) (va0 : Value) (a0 : (List File)) (a1 : Int) (a2 : Int) (va3 : Value) (Za3 : Nat → Prop) (wra3 : World) (hsa3 : Same Za3 wra3 w) (hda3 : ∀ k, Za3 k → k < wra3.heap.size → ¬ GG k) (a3 : (File → File → Option Int)) (hra3 : ∀ (w : World) (x0 : File) (x1 : File) (r : Int), Same Za3 wra3 w → a3 x0 x1 = some r → CallsV Try.prog va3 [.agg #[.int .i64 x0.Number, .int .i64 x0.Size, .string x0.Least, .string x0.Limit, .int .u64 x0.Low, .int .u64 x0.High], .agg #[.int .i64 x1.Number, .int .i64 x1.Size, .string x1.Least, .string x1.Limit, .int .u64 x1.Low, .int .u64 x1.High]] w (fun e w'' => e = .returned (.int .i64 r) ∧ SH (fun _ => False) w w'' [])) (hsep : Sep GG w [Row k_File 43 va0 a0]) (r : (List File)) (h : slices_insertionSortCmpFunc_File k a0 a1 a2 a3 = some r) :
    Calls Try.prog 81 ([va0, .int .i64 a1, .int .i64 a2, va3] : List Value).toArray w fun e w' => e = .returned (.tuple #[]) ∧ SH GG w w' [Row k_File 43 va0 r] := by
 have H := h
 clear h
 unfold slices_insertionSortCmpFunc_File at H
 refine calls_enter Try.func81 rfl rfl ?_
 intro a hst
 have hsh := SH.start hsep
 refine wq_seq ?_
 refine wq_region_lit (.inl rfl) ?_
 refine r_t hst trivial rfl (x_move hst rfl) ?_; intro a hst
 refine r_t hst trivial rfl (x_arI (r := w64 (a1 + 1)) hst rfl rfl rfl) ?_; intro a hst
 refine r_t hst trivial rfl (x_assign hst rfl) ?_; intro a hst
 refine wpL_nil ?_
 refine then_normal ?_
 refine wq_block ?_
 refine wq_loop_fuel (fun k_134 a w' => ∃ (l_67 : (List File)), ∃ (i_68 : Int), slices_insertionSortCmpFunc_File.l0 a1 a2 a3 k_134 l_67 i_68 = some r ∧ ST [] Try.f81.ntmps a [(0, va0), (1, .int .i64 a1), (2, .int .i64 a2), (3, va3), (8, .int .i64 i_68)] ∧ SH GG w w' [Row k_File 43 va0 l_67]) k ?_ ?_
 · exact ⟨a0, (w64 (a1 + 1)), H, hst.keep _ ⟨rfl, rfl, rfl, rfl, rfl, trivial⟩, hsh.pick [0]⟩
 · rintro k_134 a W_69 ⟨l_67, i_68, H, hst, hsh⟩
   cases k_134 with
   | zero => rw [slices_insertionSortCmpFunc_File.l0] at H; cases H
   | succ k_134 =>
    rw [slices_insertionSortCmpFunc_File.l0] at H
    refine wq_seq ?_
    refine wq_seq ?_
    refine wq_region_lit (.inl rfl) ?_
    refine r_t hst trivial rfl (x_move hst rfl) ?_; intro a hst
    refine r_t hst trivial rfl (x_move hst rfl) ?_; intro a hst
    refine r_t hst trivial rfl (x_cmpI (b := decide (i_68 < a2)) hst rfl rfl rfl) ?_; intro a hst
    refine wpL_nil ?_
    refine then_normal ?_
    by_cases c534 : (decide (i_68 < a2)) = true
    · rw [if_pos c534] at H
      refine wq_condT hst rfl c534 ?_
      refine wq_skip ?_
      refine then_normal ?_
      obtain ⟨J_166, hJ_166, H⟩ := Jn.elim H
      refine wq_cut (fun a w' => ∃ (l_164 : (List File)), J_166 l_164 = some r ∧ ST [] Try.f81.ntmps a [(0, va0), (1, .int .i64 a1), (2, .int .i64 a2), (3, va3), (8, .int .i64 i_68)] ∧ SH GG w w' [Row k_File 43 va0 l_164]) ?_ ?_
      · rintro a W_165 ⟨l_164, H, hst, hsh⟩
        subst hJ_166
        dsimp only at H
        refine wq_region_lit (.inl rfl) ?_
        refine r_t hst trivial rfl (x_move hst rfl) ?_; intro a hst
        refine r_t hst trivial rfl (x_arI (r := w64 (i_68 + 1)) hst rfl rfl rfl) ?_; intro a hst
        refine r_t hst trivial rfl (x_assign hst rfl) ?_; intro a hst
        refine wpL_nil ?_
        refine then_normal ?_
        exact ⟨k_134, Nat.lt_succ_self _, l_164, (w64 (i_68 + 1)), H, hst.keep _ ⟨rfl, rfl, rfl, rfl, rfl, trivial⟩, hsh.pick [0]⟩
      · refine wq_block ?_
        refine wq_seq ?_
        refine wq_region_lit (.inl rfl) ?_
        refine r_t hst trivial rfl (x_move hst rfl) ?_; intro a hst
        refine r_t hst trivial rfl (x_assign hst rfl) ?_; intro a hst
        refine wpL_nil ?_
        refine then_normal ?_
        refine wq_block ?_
        refine wq_loop_fuel (fun k_189 a w' => ∃ (l_177 : (List File)), ∃ (i_178 : Int), slices_insertionSortCmpFunc_File.l1 a1 a3 J_166 k_189 l_177 i_178 = some r ∧ ST [] Try.f81.ntmps a [(0, va0), (1, .int .i64 a1), (2, .int .i64 a2), (3, va3), (8, .int .i64 i_68), (9, .int .i64 i_178)] ∧ SH GG w w' [Row k_File 43 va0 l_177]) k_134 ?_ ?_
        · exact ⟨l_67, i_68, H, hst.keep _ ⟨rfl, rfl, rfl, rfl, rfl, rfl, trivial⟩, hsh.pick [0]⟩
        · rintro k_189 a W_179 ⟨l_177, i_178, H, hst, hsh⟩
          cases k_189 with
          | zero => rw [slices_insertionSortCmpFunc_File.l1] at H; cases H
          | succ k_189 =>
           rw [slices_insertionSortCmpFunc_File.l1] at H
           refine wq_seq ?_
           refine wq_seq ?_
           refine wq_region_q (.inl rfl) (fun w' => SH GG w w' [Row k_File 43 va0 l_177]) (shut_sh _ _ _) hsh.drew fo (by kernel_rfl) ?_
           refine q_t hst trivial rfl (fun _ hsh => x_move hst rfl) ?_; intro a hst
           refine q_t hst trivial rfl (fun _ hsh => x_move hst rfl) ?_; intro a hst
           refine q_t hst trivial rfl (fun _ hsh => x_cmpI (b := decide (a1 < i_178)) hst rfl rfl rfl) ?_; intro a hst
           refine q_t hst trivial rfl (fun _ hsh => x_move hst rfl) ?_; intro a hst
           obtain ⟨J_194, hJ_194, H⟩ := Jn.elim H
           refine q_join 17 (fun a => ∃ (b_193 : Bool), J_194 b_193 = some r ∧ ST [] Try.f81.ntmps a [(0, va0), (1, .int .i64 a1), (2, .int .i64 a2), (3, va3), (8, .int .i64 i_68), (9, .int .i64 i_178), (34, .bool b_193)]) ?_ ?_
           · rintro a ⟨b_193, H, hst⟩
             subst hJ_194
             dsimp only at H
             refine q_nil ?_
             intro w771 hsh
             refine then_normal ?_
             by_cases c772 : b_193 = true
             · rw [if_pos c772] at H
               refine wq_condT hst rfl c772 ?_
               refine wq_skip ?_
               refine then_normal ?_
               refine wq_seq ?_
               refine wq_block ?_
               have hw783_0 := hsh.row 0 rfl
               refine wq_region_t (.inl rfl) (.fin [(3, 0), (3, 1), (3, 2), (3, 3), (3, 4), (3, 5), (3, 6), (3, 7), (3, 8), (0, 9), (3, 10), (3, 11), (3, 12), (0, 13), (3, 14), (2, 15), (0, 16), (2, 17)]) (fun w' => SH GG w w' []) (fun w' => SH GG w w' [Row k_File 43 va0 l_177]) (fun w' => SH GG w w' [Row k_File 43 va0 l_177]) (shut_sh _ _ _) (shut_sh _ _ _) (shut_sh _ _ _) (sub_sh [] rfl) (sub_sh [0] rfl) hsh.drew fo (by kernel_rfl) ?_
               refine t_fin ?_
               refine m_p hst trivial rfl (fun _ => x_move hst rfl) ?_; intro a hst
               refine m_p hst trivial rfl (fun _ => x_move hst rfl) ?_; intro a hst
               refine m_p hst trivial rfl (fun _ => x_move hst rfl) ?_; intro a hst
               refine m_p hst trivial rfl (fun _ => x_move hst rfl) ?_; intro a hst
               refine m_p hst trivial rfl (fun _ => x_arI (r := w64 (i_178 - 1)) hst rfl rfl rfl) ?_; intro a hst
               refine m_p hst trivial rfl (fun _ => x_move hst rfl) ?_; intro a hst
               refine m_p hst trivial rfl (fun _ => x_move hst rfl) ?_; intro a hst
               refine m_p hst trivial rfl (fun _ => x_arI (r := w64 (i_178 - 1)) hst rfl rfl rfl) ?_; intro a hst
               obtain ⟨x784, hx784, H⟩ := Option.bind_eq_some_iff.1 H
               refine m_p hst trivial rfl (fun _ => x_indexAddr hst Try.underlying39 el_43 rfl rfl hw783_0 hx784) ?_; intro a hst
               refine m_t hst trivial rfl (fun _ hsh => x_loadEsF (j := 0) (cs := [.int .i64 x784.Number, .int .i64 x784.Size, .string x784.Least, .string x784.Limit, .int .u64 x784.Low, .int .u64 x784.High]) (ps := [.int .i64 x784.Number, .int .i64 x784.Size, .string x784.Least, .string x784.Limit, .int .u64 x784.Low, .int .u64 x784.High]) hst ag_43 rfl (hsh.row 0 rfl) (Same.refl _ _) hx784 rfl (fun _ h => h) rfl) ?_; intro a hst
               refine m_p hst trivial rfl (fun _ => x_move hst rfl) ?_; intro a hst
               refine m_p hst trivial rfl (fun _ => x_move hst rfl) ?_; intro a hst
               obtain ⟨x785, hx785, H⟩ := Option.bind_eq_some_iff.1 H
               refine m_p hst trivial rfl (fun _ => x_indexAddr hst Try.underlying39 el_43 rfl rfl hw783_0 hx785) ?_; intro a hst
               refine m_t hst trivial rfl (fun _ hsh => x_loadEsF (j := 0) (cs := [.int .i64 x785.Number, .int .i64 x785.Size, .string x785.Least, .string x785.Limit, .int .u64 x785.Low, .int .u64 x785.High]) (ps := [.int .i64 x785.Number, .int .i64 x785.Size, .string x785.Least, .string x785.Limit, .int .u64 x785.Low, .int .u64 x785.High]) hst ag_43 rfl (hsh.row 0 rfl) (Same.refl _ _) hx785 rfl (fun _ h => h) rfl) ?_; intro a hst
               obtain ⟨x786, hx786, H⟩ := Option.bind_eq_some_iff.1 H
               refine m_p hst trivial rfl (fun _ => x_indexAddr hst Try.underlying39 el_43 rfl rfl hw783_0 hx786) ?_; intro a hst
               refine m_loud (.inr rfl) ?_
               intro w787 hsh
               obtain ⟨l788, hl788, H⟩ := Option.bind_eq_some_iff.1 H
               refine r_storeEs (i := 0) (off := 0) (new := x784) (vs := [.int .i64 x784.Number, .int .i64 x784.Size, .string x784.Least, .string x784.Limit, .int .u64 x784.Low, .int .u64 x784.High]) (cs' := [.int .i64 x784.Number, .int .i64 x784.Size, .string x784.Least, .string x784.Limit, .int .u64 x784.Low, .int .u64 x784.High]) hst hsh trivial ag_43 rfl rfl rfl hx786 rfl (Nat.le_of_ble_eq_true rfl) rfl (fun _ _ _ h => by rw [h]; rfl) (fun _ _ => rfl) ?_; intro a w789 hsh hst
               rw [← upd_some hl788] at hsh
               refine m_turn hsh (sub_sh [] rfl) ?_
               obtain ⟨x790, hx790, H⟩ := Option.bind_eq_some_iff.1 H
               refine m_t hst trivial rfl (fun _ hsh => x_indexAddr hst Try.underlying39 el_43 rfl rfl (hsh.row 0 rfl) hx790) ?_; intro a hst
               refine m_loud (.inr rfl) ?_
               intro w791 hsh
               obtain ⟨l792, hl792, H⟩ := Option.bind_eq_some_iff.1 H
               refine r_storeEs (i := 0) (off := 0) (new := x785) (vs := [.int .i64 x785.Number, .int .i64 x785.Size, .string x785.Least, .string x785.Limit, .int .u64 x785.Low, .int .u64 x785.High]) (cs' := [.int .i64 x785.Number, .int .i64 x785.Size, .string x785.Least, .string x785.Limit, .int .u64 x785.Low, .int .u64 x785.High]) hst hsh trivial ag_43 rfl rfl rfl hx790 rfl (Nat.le_of_ble_eq_true rfl) rfl (fun _ _ _ h => by rw [h]; rfl) (fun _ _ => rfl) ?_; intro a w793 hsh hst
               rw [← upd_some hl792] at hsh
               refine m_turn hsh (sub_sh [] rfl) ?_
               refine m_nil ?_
               intro w794 hsh
               refine qn_normal ?_
               refine block_normal ?_
               refine then_normal ?_
               refine wq_region_lit (.inl rfl) ?_
               refine r_t hst trivial rfl (x_move hst rfl) ?_; intro a hst
               refine r_t hst trivial rfl (x_arI (r := w64 (i_178 - 1)) hst rfl rfl rfl) ?_; intro a hst
               refine r_t hst trivial rfl (x_assign hst rfl) ?_; intro a hst
               refine wpL_nil ?_
               refine then_normal ?_
               exact ⟨k_189, Nat.lt_succ_self _, l792, (w64 (i_178 - 1)), H, hst.keep _ ⟨rfl, rfl, rfl, rfl, rfl, rfl, trivial⟩, hsh.pick [0]⟩
             · rw [if_neg c772] at H
               replace c772 := Bool.eq_false_iff.2 c772
               refine wq_condF hst rfl c772 ?_
               refine wq_exit ?_
               refine then_exit ?_
               refine then_exit ?_
               refine block_hit ?_
               refine block_normal ?_
               refine then_normal ?_
               exact ⟨l_177, H, hst.keep _ ⟨rfl, rfl, rfl, rfl, rfl, trivial⟩, hsh.pick [0]⟩
           · intro hj
             by_cases c766 : (decide (a1 < i_178)) = true
             · rw [if_pos c766] at H
               refine q_t hst (wt_of 21 rfl rfl c766) rfl (fun _ hsh => x_move hst rfl) ?_; intro a hst
               refine q_t hst (wt_of 21 rfl rfl c766) rfl (fun _ hsh => x_move hst rfl) ?_; intro a hst
               refine q_t hst (wt_of 21 rfl rfl c766) rfl (fun _ hsh => x_move hst rfl) ?_; intro a hst
               obtain ⟨x795, hx795, H⟩ := Option.bind_eq_some_iff.1 H
               refine q_t hst (wt_of 21 rfl rfl c766) rfl (fun _ hsh => x_indexAddr hst Try.underlying39 el_43 rfl rfl (hsh.row 0 rfl) hx795) ?_; intro a hst
               refine q_t hst (wt_of 21 rfl rfl c766) rfl (fun _ hsh => x_loadEsF (j := 0) (cs := [.int .i64 x795.Number, .int .i64 x795.Size, .string x795.Least, .string x795.Limit, .int .u64 x795.Low, .int .u64 x795.High]) (ps := [.int .i64 x795.Number, .int .i64 x795.Size, .string x795.Least, .string x795.Limit, .int .u64 x795.Low, .int .u64 x795.High]) hst ag_43 rfl (hsh.row 0 rfl) (Same.refl _ _) hx795 rfl (fun _ h => h) rfl) ?_; intro a hst
               refine q_t hst (wt_of 21 rfl rfl c766) rfl (fun _ hsh => x_move hst rfl) ?_; intro a hst
               refine q_t hst (wt_of 21 rfl rfl c766) rfl (fun _ hsh => x_move hst rfl) ?_; intro a hst
               refine q_t hst (wt_of 21 rfl rfl c766) rfl (fun _ hsh => x_arI (r := w64 (i_178 - 1)) hst rfl rfl rfl) ?_; intro a hst
               obtain ⟨x796, hx796, H⟩ := Option.bind_eq_some_iff.1 H
               refine q_t hst (wt_of 21 rfl rfl c766) rfl (fun _ hsh => x_indexAddr hst Try.underlying39 el_43 rfl rfl (hsh.row 0 rfl) hx796) ?_; intro a hst
               refine q_t hst (wt_of 21 rfl rfl c766) rfl (fun _ hsh => x_loadEsF (j := 0) (cs := [.int .i64 x796.Number, .int .i64 x796.Size, .string x796.Least, .string x796.Limit, .int .u64 x796.Low, .int .u64 x796.High]) (ps := [.int .i64 x796.Number, .int .i64 x796.Size, .string x796.Least, .string x796.Limit, .int .u64 x796.Low, .int .u64 x796.High]) hst ag_43 rfl (hsh.row 0 rfl) (Same.refl _ _) hx796 rfl (fun _ h => h) rfl) ?_; intro a hst
               obtain ⟨r797, hr797, H⟩ := Option.bind_eq_some_iff.1 H
               refine q_callV hst (wt_of 21 rfl rfl c766) rfl rfl rfl (fun w9 hsh => hra3 _ x795 x796 r797 (Same.sh2 hsa3 hda3 hsh) hr797) ?_; intro a hst
               refine q_t hst (wt_of 21 rfl rfl c766) rfl (fun _ hsh => x_cmpI (b := decide (r797 < 0)) hst rfl rfl rfl) ?_; intro a hst
               refine q_t hst trivial rfl (fun _ hsh => x_pickT hst rfl c766 rfl) ?_; intro a hst
               exact hj _ ⟨(decide (r797 < 0)), H, hst.keep _ ⟨rfl, rfl, rfl, rfl, rfl, rfl, rfl, trivial⟩⟩
             · rw [if_neg c766] at H
               replace c766 := Bool.eq_false_iff.2 c766
               refine q_not hst 21 rfl rfl c766 rfl ?_; intro a hst
               refine q_not hst 21 rfl rfl c766 rfl ?_; intro a hst
               refine q_not hst 21 rfl rfl c766 rfl ?_; intro a hst
               refine q_not hst 21 rfl rfl c766 rfl ?_; intro a hst
               refine q_not hst 21 rfl rfl c766 rfl ?_; intro a hst
               refine q_not hst 21 rfl rfl c766 rfl ?_; intro a hst
               refine q_not hst 21 rfl rfl c766 rfl ?_; intro a hst
               refine q_not hst 21 rfl rfl c766 rfl ?_; intro a hst
               refine q_not hst 21 rfl rfl c766 rfl ?_; intro a hst
               refine q_not hst 21 rfl rfl c766 rfl ?_; intro a hst
               refine q_not hst 21 rfl rfl c766 rfl ?_; intro a hst
               refine q_not hst 21 rfl rfl c766 rfl ?_; intro a hst
               refine q_t hst trivial rfl (fun _ hsh => x_pickF hst rfl c766 rfl) ?_; intro a hst
               exact hj _ ⟨false, H, hst.keep _ ⟨rfl, rfl, rfl, rfl, rfl, rfl, rfl, trivial⟩⟩
    · rw [if_neg c534] at H
      replace c534 := Bool.eq_false_iff.2 c534
      refine wq_condF hst rfl c534 ?_
      refine wq_exit ?_
      refine then_exit ?_
      refine then_exit ?_
      refine block_hit ?_
      obtain rfl := Option.some.inj H
      exact end0 hst rfl ⟨rfl, hsh.pick [0]⟩

set_option maxHeartbeats 4000000 in
set_option maxRecDepth 100000 in
theorem slices_swapRangeCmpFunc_File.calls (k : Nat) (w : World) (GG : Nat → Prop) (va0 : Value) (a0 : (List File)) (a1 : Int) (a2 : Int) (a3 : Int) (va4 : Value) (Za4 : Nat → Prop) (wra4 : World) (hsa4 : Same Za4 wra4 w) (hda4 : ∀ k, Za4 k → k < wra4.heap.size → ¬ GG k) (a4 : (File → File → Option Int)) (hra4 : ∀ (w : World) (x0 : File) (x1 : File) (r : Int), Same Za4 wra4 w → a4 x0 x1 = some r → CallsV Try.prog va4 [.agg #[.int .i64 x0.Number, .int .i64 x0.Size, .string x0.Least, .string x0.Limit, .int .u64 x0.Low, .int .u64 x0.High], .agg #[.int .i64 x1.Number, .int .i64 x1.Size, .string x1.Least, .string x1.Limit, .int .u64 x1.Low, .int .u64 x1.High]] w (fun e w'' => e = .returned (.int .i64 r) ∧ SH (fun _ => False) w w'' [])) (hsep : Sep GG w [Row k_File 43 va0 a0]) (r : (List File)) (h : slices_swapRangeCmpFunc_File k a0 a1 a2 a3 a4 = some r) :
    Calls Try.prog 90 ([va0, .int .i64 a1, .int .i64 a2, .int .i64 a3, va4] : List Value).toArray w fun e w' => e = .returned (.tuple #[]) ∧ SH GG w w' [Row k_File 43 va0 r] := by
 have H := h
 clear h
 unfold slices_swapRangeCmpFunc_File at H
 refine calls_enter Try.func90 rfl rfl ?_
 intro a hst
 have hsh := SH.start hsep
 refine wq_seq ?_
 refine wq_region_lit (.inl rfl) ?_
 refine r_t hst trivial rfl (x_assign hst rfl) ?_; intro a hst
 refine wpL_nil ?_
 refine then_normal ?_
 refine wq_block ?_
 refine wq_loop_fuel (fun k_11 a w' => ∃ (l_5 : (List File)), ∃ (i_6 : Int), slices_swapRangeCmpFunc_File.l0 a1 a2 a3 k_11 l_5 i_6 = some r ∧ ST [] Try.f90.ntmps a [(0, va0), (1, .int .i64 a1), (2, .int .i64 a2), (3, .int .i64 a3), (10, .int .i64 i_6)] ∧ SH GG w w' [Row k_File 43 va0 l_5]) k ?_ ?_
 · exact ⟨a0, 0, H, hst.keep _ ⟨rfl, rfl, rfl, rfl, rfl, trivial⟩, hsh.pick [0]⟩
 · rintro k_11 a W_7 ⟨l_5, i_6, H, hst, hsh⟩
   cases k_11 with
   | zero => rw [slices_swapRangeCmpFunc_File.l0] at H; cases H
   | succ k_11 =>
    rw [slices_swapRangeCmpFunc_File.l0] at H
    refine wq_seq ?_
    refine wq_seq ?_
    refine wq_region_lit (.inl rfl) ?_
    refine r_t hst trivial rfl (x_move hst rfl) ?_; intro a hst
    refine r_t hst trivial rfl (x_move hst rfl) ?_; intro a hst
    refine r_t hst trivial rfl (x_cmpI (b := decide (i_6 < a3)) hst rfl rfl rfl) ?_; intro a hst
    refine wpL_nil ?_
    refine then_normal ?_
    by_cases c50 : (decide (i_6 < a3)) = true
    · rw [if_pos c50] at H
      refine wq_condT hst rfl c50 ?_
      refine wq_skip ?_
      refine then_normal ?_
      refine wq_seq ?_
      refine wq_block ?_
      have hw61_0 := hsh.row 0 rfl
      refine wq_region_t (.inl rfl) (.fin [(3, 0), (3, 1), (3, 2), (3, 3), (3, 4), (3, 5), (3, 6), (3, 7), (3, 8), (3, 9), (3, 10), (3, 11), (3, 12), (0, 13), (3, 14), (3, 15), (3, 16), (3, 17), (3, 18), (0, 19), (3, 20), (2, 21), (0, 22), (2, 23)]) (fun w' => SH GG w w' []) (fun w' => SH GG w w' [Row k_File 43 va0 l_5]) (fun w' => SH GG w w' [Row k_File 43 va0 l_5]) (shut_sh _ _ _) (shut_sh _ _ _) (shut_sh _ _ _) (sub_sh [] rfl) (sub_sh [0] rfl) hsh.drew fo (by kernel_rfl) ?_
      refine t_fin ?_
      refine m_p hst trivial rfl (fun _ => x_move hst rfl) ?_; intro a hst
      refine m_p hst trivial rfl (fun _ => x_move hst rfl) ?_; intro a hst
      refine m_p hst trivial rfl (fun _ => x_move hst rfl) ?_; intro a hst
      refine m_p hst trivial rfl (fun _ => x_arI (r := w64 (a1 + i_6)) hst rfl rfl rfl) ?_; intro a hst
      refine m_p hst trivial rfl (fun _ => x_move hst rfl) ?_; intro a hst
      refine m_p hst trivial rfl (fun _ => x_move hst rfl) ?_; intro a hst
      refine m_p hst trivial rfl (fun _ => x_move hst rfl) ?_; intro a hst
      refine m_p hst trivial rfl (fun _ => x_arI (r := w64 (a2 + i_6)) hst rfl rfl rfl) ?_; intro a hst
      refine m_p hst trivial rfl (fun _ => x_move hst rfl) ?_; intro a hst
      refine m_p hst trivial rfl (fun _ => x_move hst rfl) ?_; intro a hst
      refine m_p hst trivial rfl (fun _ => x_move hst rfl) ?_; intro a hst
      refine m_p hst trivial rfl (fun _ => x_arI (r := w64 (a2 + i_6)) hst rfl rfl rfl) ?_; intro a hst
      obtain ⟨x62, hx62, H⟩ := Option.bind_eq_some_iff.1 H
      refine m_p hst trivial rfl (fun _ => x_indexAddr hst Try.underlying39 el_43 rfl rfl hw61_0 hx62) ?_; intro a hst
      refine m_t hst trivial rfl (fun _ hsh => x_loadEsF (j := 0) (cs := [.int .i64 x62.Number, .int .i64 x62.Size, .string x62.Least, .string x62.Limit, .int .u64 x62.Low, .int .u64 x62.High]) (ps := [.int .i64 x62.Number, .int .i64 x62.Size, .string x62.Least, .string x62.Limit, .int .u64 x62.Low, .int .u64 x62.High]) hst ag_43 rfl (hsh.row 0 rfl) (Same.refl _ _) hx62 rfl (fun _ h => h) rfl) ?_; intro a hst
      refine m_p hst trivial rfl (fun _ => x_move hst rfl) ?_; intro a hst
      refine m_p hst trivial rfl (fun _ => x_move hst rfl) ?_; intro a hst
      refine m_p hst trivial rfl (fun _ => x_move hst rfl) ?_; intro a hst
      refine m_p hst trivial rfl (fun _ => x_arI (r := w64 (a1 + i_6)) hst rfl rfl rfl) ?_; intro a hst
      obtain ⟨x63, hx63, H⟩ := Option.bind_eq_some_iff.1 H
      refine m_p hst trivial rfl (fun _ => x_indexAddr hst Try.underlying39 el_43 rfl rfl hw61_0 hx63) ?_; intro a hst
      refine m_t hst trivial rfl (fun _ hsh => x_loadEsF (j := 0) (cs := [.int .i64 x63.Number, .int .i64 x63.Size, .string x63.Least, .string x63.Limit, .int .u64 x63.Low, .int .u64 x63.High]) (ps := [.int .i64 x63.Number, .int .i64 x63.Size, .string x63.Least, .string x63.Limit, .int .u64 x63.Low, .int .u64 x63.High]) hst ag_43 rfl (hsh.row 0 rfl) (Same.refl _ _) hx63 rfl (fun _ h => h) rfl) ?_; intro a hst
      obtain ⟨x64, hx64, H⟩ := Option.bind_eq_some_iff.1 H
      refine m_p hst trivial rfl (fun _ => x_indexAddr hst Try.underlying39 el_43 rfl rfl hw61_0 hx64) ?_; intro a hst
      refine m_loud (.inr rfl) ?_
      intro w65 hsh
      obtain ⟨l66, hl66, H⟩ := Option.bind_eq_some_iff.1 H
      refine r_storeEs (i := 0) (off := 0) (new := x62) (vs := [.int .i64 x62.Number, .int .i64 x62.Size, .string x62.Least, .string x62.Limit, .int .u64 x62.Low, .int .u64 x62.High]) (cs' := [.int .i64 x62.Number, .int .i64 x62.Size, .string x62.Least, .string x62.Limit, .int .u64 x62.Low, .int .u64 x62.High]) hst hsh trivial ag_43 rfl rfl rfl hx64 rfl (Nat.le_of_ble_eq_true rfl) rfl (fun _ _ _ h => by rw [h]; rfl) (fun _ _ => rfl) ?_; intro a w67 hsh hst
      rw [← upd_some hl66] at hsh
      refine m_turn hsh (sub_sh [] rfl) ?_
      obtain ⟨x68, hx68, H⟩ := Option.bind_eq_some_iff.1 H
      refine m_t hst trivial rfl (fun _ hsh => x_indexAddr hst Try.underlying39 el_43 rfl rfl (hsh.row 0 rfl) hx68) ?_; intro a hst
      refine m_loud (.inr rfl) ?_
      intro w69 hsh
      obtain ⟨l70, hl70, H⟩ := Option.bind_eq_some_iff.1 H
      refine r_storeEs (i := 0) (off := 0) (new := x63) (vs := [.int .i64 x63.Number, .int .i64 x63.Size, .string x63.Least, .string x63.Limit, .int .u64 x63.Low, .int .u64 x63.High]) (cs' := [.int .i64 x63.Number, .int .i64 x63.Size, .string x63.Least, .string x63.Limit, .int .u64 x63.Low, .int .u64 x63.High]) hst hsh trivial ag_43 rfl rfl rfl hx68 rfl (Nat.le_of_ble_eq_true rfl) rfl (fun _ _ _ h => by rw [h]; rfl) (fun _ _ => rfl) ?_; intro a w71 hsh hst
      rw [← upd_some hl70] at hsh
      refine m_turn hsh (sub_sh [] rfl) ?_
      refine m_nil ?_
      intro w72 hsh
      refine qn_normal ?_
      refine block_normal ?_
      refine then_normal ?_
      refine wq_region_lit (.inl rfl) ?_
      refine r_t hst trivial rfl (x_move hst rfl) ?_; intro a hst
      refine r_t hst trivial rfl (x_arI (r := w64 (i_6 + 1)) hst rfl rfl rfl) ?_; intro a hst
      refine r_t hst trivial rfl (x_assign hst rfl) ?_; intro a hst
      refine wpL_nil ?_
      refine then_normal ?_
      exact ⟨k_11, Nat.lt_succ_self _, l70, (w64 (i_6 + 1)), H, hst.keep _ ⟨rfl, rfl, rfl, rfl, rfl, trivial⟩, hsh.pick [0]⟩
    · rw [if_neg c50] at H
      replace c50 := Bool.eq_false_iff.2 c50
      refine wq_condF hst rfl c50 ?_
      refine wq_exit ?_
      refine then_exit ?_
      refine then_exit ?_
      refine block_hit ?_
      obtain rfl := Option.some.inj H
      exact end0 hst rfl ⟨rfl, hsh.pick [0]⟩

set_option maxHeartbeats 4000000 in
set_option maxRecDepth 100000 in
theorem slices_rotateCmpFunc_File.calls (k : Nat) (w : World) (GG : Nat → Prop) (va0 : Value) (a0 : (List File)) (a1 : Int) (a2 : Int) (a3 : Int) (va4 : Value) (Za4 : Nat → Prop) (wra4 : World) (hsa4 : Same Za4 wra4 w) (hda4 : ∀ k, Za4 k → k < wra4.heap.size → ¬ GG k) (a4 : (File → File → Option Int)) (hra4 : ∀ (w : World) (x0 : File) (x1 : File) (r : Int), Same Za4 wra4 w → a4 x0 x1 = some r → CallsV Try.prog va4 [.agg #[.int .i64 x0.Number, .int .i64 x0.Size, .string x0.Least, .string x0.Limit, .int .u64 x0.Low, .int .u64 x0.High], .agg #[.int .i64 x1.Number, .int .i64 x1.Size, .string x1.Least, .string x1.Limit, .int .u64 x1.Low, .int .u64 x1.High]] w (fun e w'' => e = .returned (.int .i64 r) ∧ SH (fun _ => False) w w'' [])) (hsep : Sep GG w [Row k_File 43 va0 a0]) (r : (List File)) (h : slices_rotateCmpFunc_File k a0 a1 a2 a3 a4 = some r) :
    Calls Try.prog 88 ([va0, .int .i64 a1, .int .i64 a2, .int .i64 a3, va4] : List Value).toArray w fun e w' => e = .returned (.tuple #[]) ∧ SH GG w w' [Row k_File 43 va0 r] := by
 have H := h
 clear h
 unfold slices_rotateCmpFunc_File at H
 refine calls_enter Try.func88 rfl rfl ?_
 intro a hst
 have hsh := SH.start hsep
 refine wq_seq ?_
 refine wq_region_lit (.inl rfl) ?_
 refine r_t hst trivial rfl (x_move hst rfl) ?_; intro a hst
 refine r_t hst trivial rfl (x_move hst rfl) ?_; intro a hst
 refine r_t hst trivial rfl (x_arI (r := w64 (a2 - a1)) hst rfl rfl rfl) ?_; intro a hst
 refine r_t hst trivial rfl (x_assign hst rfl) ?_; intro a hst
 refine wpL_nil ?_
 refine then_normal ?_
 refine wq_seq ?_
 refine wq_region_lit (.inl rfl) ?_
 refine r_t hst trivial rfl (x_move hst rfl) ?_; intro a hst
 refine r_t hst trivial rfl (x_move hst rfl) ?_; intro a hst
 refine r_t hst trivial rfl (x_arI (r := w64 (a3 - a2)) hst rfl rfl rfl) ?_; intro a hst
 refine r_t hst trivial rfl (x_assign hst rfl) ?_; intro a hst
 refine wpL_nil ?_
 refine then_normal ?_
 refine wq_seq ?_
 refine wq_block ?_
 refine wq_loop_fuel (fun k_32 a w' => ∃ (l_24 : (List File)), ∃ (i_25 : Int), ∃ (i_26 : Int), slices_rotateCmpFunc_File.l0 a2 a4 k_32 l_24 i_25 i_26 = some r ∧ ST [] Try.f88.ntmps a [(0, va0), (2, .int .i64 a2), (4, va4), (10, .int .i64 i_25), (11, .int .i64 i_26)] ∧ SH GG w w' [Row k_File 43 va0 l_24]) k ?_ ?_
 · exact ⟨a0, (w64 (a2 - a1)), (w64 (a3 - a2)), H, hst.keep _ ⟨rfl, rfl, rfl, rfl, rfl, trivial⟩, hsh.pick [0]⟩
 · rintro k_32 a W_27 ⟨l_24, i_25, i_26, H, hst, hsh⟩
   cases k_32 with
   | zero => rw [slices_rotateCmpFunc_File.l0] at H; cases H
   | succ k_32 =>
    rw [slices_rotateCmpFunc_File.l0] at H
    refine wq_seq ?_
    refine wq_seq ?_
    refine wq_region_lit (.inl rfl) ?_
    refine r_t hst trivial rfl (x_move hst rfl) ?_; intro a hst
    refine r_t hst trivial rfl (x_move hst rfl) ?_; intro a hst
    refine r_t hst trivial rfl (x_cmpI (b := (i_25 != i_26)) hst rfl rfl rfl) ?_; intro a hst
    refine wpL_nil ?_
    refine then_normal ?_
    by_cases c47 : (i_25 != i_26) = true
    · rw [if_pos c47] at H
      refine wq_condT hst rfl c47 ?_
      refine wq_skip ?_
      refine then_normal ?_
      refine wq_block ?_
      refine wq_seq ?_
      refine wq_region_lit (.inl rfl) ?_
      refine r_t hst trivial rfl (x_move hst rfl) ?_; intro a hst
      refine r_t hst trivial rfl (x_move hst rfl) ?_; intro a hst
      refine r_t hst trivial rfl (x_cmpI (b := decide (i_26 < i_25)) hst rfl rfl rfl) ?_; intro a hst
      refine wpL_nil ?_
      refine then_normal ?_
      by_cases c48 : (decide (i_26 < i_25)) = true
      · rw [if_pos c48] at H
        refine wq_condT hst rfl c48 ?_
        refine wq_seq ?_
        refine wq_region_lit (.inl rfl) ?_
        refine r_t hst trivial rfl (x_move hst rfl) ?_; intro a hst
        refine r_t hst trivial rfl (x_move hst rfl) ?_; intro a hst
        refine r_t hst trivial rfl (x_move hst rfl) ?_; intro a hst
        refine r_t hst trivial rfl (x_arI (r := w64 (a2 - i_25)) hst rfl rfl rfl) ?_; intro a hst
        refine r_t hst trivial rfl (x_move hst rfl) ?_; intro a hst
        refine r_t hst trivial rfl (x_move hst rfl) ?_; intro a hst
        refine r_t hst trivial rfl (x_move hst rfl) ?_; intro a hst
        replace hsh := hsh.pick [0]
        obtain ⟨GG51, hsp, hG, hbx, hfx, hk⟩ := SH.callD (L1 := [Row k_File 43 va0 l_24]) (L2 := []) hsh
        obtain ⟨r49, hr49, H⟩ := Option.bind_eq_some_iff.1 H
        refine r_callD hst trivial rfl fn_90 rfl (slices_swapRangeCmpFunc_File.calls k_32 _ GG51 _ l_24 (w64 (a2 - i_25)) a2 i_26 va4 Za4 wra4 (Same.sh2 hsa4 hda4 hsh) (disj_own hsa4 hda4 hG) a4 hra4 hsp r49 hr49) ?_
        rintro e w50 ⟨rfl, hc⟩
        replace hsh := hk _ _ hc
        clear hc
        refine ⟨_, rfl, fun a hst => ?_⟩
        refine wpL_nil ?_
        refine then_normal ?_
        refine wq_region_lit (.inl rfl) ?_
        refine r_t hst trivial rfl (x_move hst rfl) ?_; intro a hst
        refine r_t hst trivial rfl (x_move hst rfl) ?_; intro a hst
        refine r_t hst trivial rfl (x_arI (r := w64 (i_25 - i_26)) hst rfl rfl rfl) ?_; intro a hst
        refine r_t hst trivial rfl (x_assign hst rfl) ?_; intro a hst
        refine wpL_nil ?_
        refine block_normal ?_
        refine then_normal ?_
        exact ⟨k_32, Nat.lt_succ_self _, r49, (w64 (i_25 - i_26)), i_26, H, hst.keep _ ⟨rfl, rfl, rfl, rfl, rfl, trivial⟩, hsh.pick [0]⟩
      · rw [if_neg c48] at H
        replace c48 := Bool.eq_false_iff.2 c48
        refine wq_condF hst rfl c48 ?_
        refine wq_seq ?_
        refine wq_region_lit (.inl rfl) ?_
        refine r_t hst trivial rfl (x_move hst rfl) ?_; intro a hst
        refine r_t hst trivial rfl (x_move hst rfl) ?_; intro a hst
        refine r_t hst trivial rfl (x_move hst rfl) ?_; intro a hst
        refine r_t hst trivial rfl (x_arI (r := w64 (a2 - i_25)) hst rfl rfl rfl) ?_; intro a hst
        refine r_t hst trivial rfl (x_move hst rfl) ?_; intro a hst
        refine r_t hst trivial rfl (x_move hst rfl) ?_; intro a hst
        refine r_t hst trivial rfl (x_arI (r := w64 (a2 + i_26)) hst rfl rfl rfl) ?_; intro a hst
        refine r_t hst trivial rfl (x_move hst rfl) ?_; intro a hst
        refine r_t hst trivial rfl (x_arI (r := w64 ((w64 (a2 + i_26)) - i_25)) hst rfl rfl rfl) ?_; intro a hst
        refine r_t hst trivial rfl (x_move hst rfl) ?_; intro a hst
        refine r_t hst trivial rfl (x_move hst rfl) ?_; intro a hst
        replace hsh := hsh.pick [0]
        obtain ⟨GG54, hsp, hG, hbx, hfx, hk⟩ := SH.callD (L1 := [Row k_File 43 va0 l_24]) (L2 := []) hsh
        obtain ⟨r52, hr52, H⟩ := Option.bind_eq_some_iff.1 H
        refine r_callD hst trivial rfl fn_90 rfl (slices_swapRangeCmpFunc_File.calls k_32 _ GG54 _ l_24 (w64 (a2 - i_25)) (w64 ((w64 (a2 + i_26)) - i_25)) i_25 va4 Za4 wra4 (Same.sh2 hsa4 hda4 hsh) (disj_own hsa4 hda4 hG) a4 hra4 hsp r52 hr52) ?_
        rintro e w53 ⟨rfl, hc⟩
        replace hsh := hk _ _ hc
        clear hc
        refine ⟨_, rfl, fun a hst => ?_⟩
        refine wpL_nil ?_
        refine then_normal ?_
        refine wq_region_lit (.inl rfl) ?_
        refine r_t hst trivial rfl (x_move hst rfl) ?_; intro a hst
        refine r_t hst trivial rfl (x_move hst rfl) ?_; intro a hst
        refine r_t hst trivial rfl (x_arI (r := w64 (i_26 - i_25)) hst rfl rfl rfl) ?_; intro a hst
        refine r_t hst trivial rfl (x_assign hst rfl) ?_; intro a hst
        refine wpL_nil ?_
        refine block_normal ?_
        refine then_normal ?_
        exact ⟨k_32, Nat.lt_succ_self _, r52, i_25, (w64 (i_26 - i_25)), H, hst.keep _ ⟨rfl, rfl, rfl, rfl, rfl, trivial⟩, hsh.pick [0]⟩
    · rw [if_neg c47] at H
      replace c47 := Bool.eq_false_iff.2 c47
      refine wq_condF hst rfl c47 ?_
      refine wq_exit ?_
      refine then_exit ?_
      refine then_exit ?_
      refine block_hit ?_
      refine then_normal ?_
      refine wq_region_lit (.inl rfl) ?_
      refine r_t hst trivial rfl (x_move hst rfl) ?_; intro a hst
      refine r_t hst trivial rfl (x_move hst rfl) ?_; intro a hst
      refine r_t hst trivial rfl (x_move hst rfl) ?_; intro a hst
      refine r_t hst trivial rfl (x_arI (r := w64 (a2 - i_25)) hst rfl rfl rfl) ?_; intro a hst
      refine r_t hst trivial rfl (x_move hst rfl) ?_; intro a hst
      refine r_t hst trivial rfl (x_move hst rfl) ?_; intro a hst
      refine r_t hst trivial rfl (x_move hst rfl) ?_; intro a hst
      replace hsh := hsh.pick [0]
      obtain ⟨GG57, hsp, hG, hbx, hfx, hk⟩ := SH.callD (L1 := [Row k_File 43 va0 l_24]) (L2 := []) hsh
      obtain ⟨r55, hr55, H⟩ := Option.bind_eq_some_iff.1 H
      refine r_callD hst trivial rfl fn_90 rfl (slices_swapRangeCmpFunc_File.calls k_32 _ GG57 _ l_24 (w64 (a2 - i_25)) a2 i_25 va4 Za4 wra4 (Same.sh2 hsa4 hda4 hsh) (disj_own hsa4 hda4 hG) a4 hra4 hsp r55 hr55) ?_
      rintro e w56 ⟨rfl, hc⟩
      replace hsh := hk _ _ hc
      clear hc
      refine ⟨_, rfl, fun a hst => ?_⟩
      refine wpL_nil ?_
      obtain rfl := Option.some.inj H
      exact end0 hst rfl ⟨rfl, hsh.pick [0]⟩
end Go.Proofs.Ytbbepmmelpabbaa.Mo
