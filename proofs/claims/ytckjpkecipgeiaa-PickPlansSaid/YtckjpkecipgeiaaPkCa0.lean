/- Printed by gen.py: contracts. -/
import Derived.Test.YtckjpkecipgeiaaPkKd
set_option linter.unusedVariables false
set_option linter.unusedSimpArgs false
set_option maxRecDepth 100000
namespace Go.Proofs.Ytckjpkecipgeiaa.Mo
open Go Go.Proofs.Ytckjpkecipgeiaa.Sy
open Go.Proofs
set_option maxHeartbeats 4000000 in
set_option maxRecDepth 100000 in
theorem l22_copied.calls (k : Nat) (w : World) (va0 : Value) (Za0 : Nat → Prop) (wra0 : World) (hsa0 : Same Za0 wra0 w) (a0 : (List (List File))) (hra0 : RD (Kd.slice 43 k_File) Za0 wra0 va0 a0) (r : (List (List File))) (h : l22_copied k a0 = some r) :
    Calls Try.prog 7 ([va0] : List Value).toArray w fun e w' => ∃ v0_ : Value, e = .returned (v0_) ∧ SH (fun _ => False) w w' [Row (Kd.slice 43 k_File) 31 v0_ r] := by
  have H := h
  clear h
  unfold l22_copied at H
  refine calls_enter Try.func7 rfl rfl ?_
  intro a hst
  have hsh := SH.zero (fun _ => False) w
  refine wp_seq ?_
  refine wp_region_lit ?_
  refine r_t hst trivial rfl (x_assign hst rfl) ?_; intro a hst
  refine wpList_nil ?_
  refine then_normal ?_
  refine wp_seq ?_
  refine wp_region_lit ?_
  refine r_buildSlice (vs := []) (cs := []) hst hsh trivial rfl Try.underlying23 el_31 rfl rfl (by simp [Value.cells]) rfl rfl ?_
  intro g1 a w2 hgg1 hsh hst
  replace hsh := hsh.pick [0]
  replace hsh : SH (fun _ => False) w w2 [Row (Kd.slice 43 k_File) 31 (.slice (some ⟨g1, 0, none⟩) 0 0) ([])] := SH.boxRowM (C := []) ([] : List (List File)) hsh ef_nil rfl rfl (by decide)
  refine r_t hst trivial rfl (x_assign hst rfl) ?_; intro a hst
  refine wpList_nil ?_
  refine then_normal ?_
  refine wp_seq ?_
  refine wp_seq ?_
  refine wp_region_lit ?_
  refine r_t hst trivial rfl (x_assign hst rfl) ?_; intro a hst
  refine wpList_nil ?_
  refine then_normal ?_
  refine wp_block ?_
  refine wp_loop_fuel (fun k_28 a w' => ∃ (v_20 : Value), ∃ (l_21 : (List (List File))), ∃ (i_22 : Int), l22_copied.l0 a0 k_28 l_21 i_22 = some r ∧ ST Try.f7.ntmps a [(0, va0), (2, (.slice none 0 0)), (3, v_20), (4, .int .i64 i_22)] ∧ SH (fun _ => False) w w' [Row (Kd.slice 43 k_File) 31 v_20 l_21]) k ?_ ?_
  · exact ⟨(.slice (some ⟨g1, 0, none⟩) 0 0), ([]), 0, H, hst.keep _ ⟨rfl, rfl, rfl, rfl, trivial⟩, hsh.pick [0]⟩
  · rintro k_28 a W_23 ⟨v_20, l_21, i_22, H, hst, hsh⟩
    cases k_28 with
    | zero => rw [l22_copied.l0] at H; cases H
    | succ k_28 =>
      rw [l22_copied.l0] at H
      refine wp_seq ?_
      refine wp_seq ?_
      refine wp_region_lit ?_
      refine r_t hst trivial rfl (x_move hst rfl) ?_; intro a hst
      refine r_t hst trivial rfl (x_move hst rfl) ?_; intro a hst
      refine r_t hst trivial rfl (x_lenSl hst Try.underlying23 rfl hra0.slen) ?_; intro a hst
      refine r_t hst trivial rfl (x_cmpI (b := decide (i_22 < (a0.length : Int))) hst rfl rfl rfl) ?_; intro a hst
      refine wpList_nil ?_
      refine then_normal ?_
      by_cases c175 : (decide (i_22 < (a0.length : Int))) = true
      · rw [if_pos c175] at H
        refine wp_condT hst rfl c175 ?_
        refine wp_skip ?_
        refine then_normal ?_
        refine wp_seq ?_
        refine wp_block ?_
        refine wp_region_lit ?_
        refine r_t hst trivial rfl (x_move hst rfl) ?_; intro a hst
        refine r_buildSlice (vs := []) (cs := []) hst hsh trivial rfl Try.underlying31 el_43 rfl rfl (by simp [Value.cells]) rfl rfl ?_
        intro g192 a w193 hgg192 hsh hst
        replace hsh := hsh.pick [0, 0]
        replace hsh : SH (fun _ => False) w w193 [Row k_File 43 (.slice (some ⟨g192, 0, none⟩) 0 0) ([]), Row (Kd.slice 43 k_File) 31 v_20 l_21] := SH.boxRow ([] : List File) hsh rfl rfl rfl
        refine r_t hst trivial rfl (x_move hst rfl) ?_; intro a hst
        refine r_t hst trivial rfl (x_move hst rfl) ?_; intro a hst
        obtain ⟨x195, hx195, H⟩ := Option.bind_eq_some_iff.1 H
        refine r_t hst trivial rfl (x_indexAddr hst Try.underlying23 el_31 rfl rfl hra0 hx195) ?_; intro a hst
        obtain ⟨_, hk196, hc197⟩ := RD.cells2 hra0 hx195
        obtain ⟨v198, rfl, hr199⟩ := hk196
        refine r_t hst trivial rfl (x_loadC hst sc_31 rfl (hc197 _ (Same.sh0 hsa0 hsh) 0 _ rfl)) ?_; intro a hst
        replace hsh := hsh.pick [0, 0]
        obtain ⟨l200, hl200, H⟩ := Option.bind_eq_some_iff.1 H
        refine r_appendN (M := [Row (Kd.slice 43 k_File) 31 v_20 l_21]) hst hsh trivial rfl Try.underlying31 el_43 (by decide) (by decide) (by decide) rfl rfl (flat_flat _ _ _ _) hr199 (Same.sh0 hsa0 hsh) hl200 ?_
        intro v201 a w202 hsh hst
        refine r_buildSlice (vs := [v201]) (cs := [v201]) hst hsh trivial rfl Try.underlying23 el_31 rfl rfl (by simp [cells_sl, cells_slen (hsh.row 0 rfl).slen]) rfl (by simp [cells_sl, cells_slen (hsh.row 0 rfl).slen]) ?_
        intro g203 a w204 hgg203 hsh hst
        replace hsh := hsh.pick [2, 0, 0]
        obtain ⟨l205, hl205, H⟩ := Option.bind_eq_some_iff.1 H
        refine r_append1 (xx := l200) (C := [Row k_File 43 v201 l200]) (M := []) hst hsh trivial rfl Try.underlying23 el_31 (by decide) (by decide) (by decide) rfl rfl mf_slice hl205 ?_
        intro v206 a w207 hsh hst
        refine r_t hst trivial rfl (x_assign hst rfl) ?_; intro a hst
        refine wpList_nil ?_
        refine block_normal ?_
        refine then_normal ?_
        refine wp_region_lit ?_
        refine r_t hst trivial rfl (x_move hst rfl) ?_; intro a hst
        refine r_t hst trivial rfl (x_arI (r := w64 (i_22 + 1)) hst rfl rfl rfl) ?_; intro a hst
        refine r_t hst trivial rfl (x_assign hst rfl) ?_; intro a hst
        refine wpList_nil ?_
        refine then_normal ?_
        exact ⟨k_28, Nat.lt_succ_self _, v206, l205, (w64 (i_22 + 1)), H, hst.keep _ ⟨rfl, rfl, rfl, rfl, trivial⟩, hsh.pick [0]⟩
      · rw [if_neg c175] at H
        replace c175 := Bool.eq_false_iff.2 c175
        refine wp_condF hst rfl c175 ?_
        refine wp_exit ?_
        refine then_exit ?_
        refine then_exit ?_
        refine block_hit ?_
        refine then_normal ?_
        refine wp_seq ?_
        refine wp_region_lit ?_
        refine r_t hst trivial rfl (x_move hst rfl) ?_; intro a hst
        refine r_t hst trivial rfl (x_assign hst rfl) ?_; intro a hst
        refine wpList_nil ?_
        refine then_normal ?_
        refine wp_ret ?_
        obtain rfl := Option.some.inj H
        exact ret1 hst rfl rfl ⟨v_20, rfl, hsh.pick [0]⟩

set_option maxHeartbeats 4000000 in
set_option maxRecDepth 100000 in
theorem version_may.calls (w : World) (a0 : File) (r : Bool) (h : version_may a0 = some r) :
    Calls Try.prog 59 ([.agg #[.int .i64 a0.Number, .int .i64 a0.Size, .string a0.Least, .string a0.Limit, .int .u64 a0.Low, .int .u64 a0.High]] : List Value).toArray w fun e w' => e = .returned (.bool r) ∧ SH (fun _ => False) w w' [] := by
  have H := h
  clear h
  unfold version_may at H
  refine calls_enter Try.func59 rfl rfl ?_
  intro a hst
  have hsh := SH.zero (fun _ => False) w
  refine wp_seq ?_
  refine wp_region_lit ?_
  refine r_box hst hsh trivial rfl rfl rfl ?_
  intro g1 a w2 hgg1 hsh hst
  refine r_t hst trivial rfl (x_assign hst rfl) ?_; intro a hst
  refine wpList_nil ?_
  refine then_normal ?_
  refine wp_seq ?_
  refine wp_region_lit ?_
  refine r_t hst trivial rfl (x_fieldAddr (j' := 0) hst fa_43_0 rfl rfl) ?_; intro a hst
  refine r_t hst trivial rfl (x_loadB (i := 0) hst hsh sc_3 rfl rfl rfl) ?_; intro a hst
  refine r_t hst trivial rfl (x_cmpI (b := decide (1 ≤ a0.Number)) hst rfl rfl rfl) ?_; intro a hst
  refine r_t hst trivial rfl (x_move hst rfl) ?_; intro a hst
  refine wl_join0 (N := Try.f59.ntmps) 8 [(1, .pointer (some ⟨g1, 0, none⟩)), (2, .bool false), (10, .bool ((decide (1 ≤ a0.Number)) && (decide (a0.Number ≤ 2147483647))))] ?_ ?_
  · intro a hst
    refine r_t hst trivial rfl (x_move hst rfl) ?_; intro a hst
    refine wl_join0 (N := Try.f59.ntmps) 13 [(1, .pointer (some ⟨g1, 0, none⟩)), (2, .bool false), (15, .bool (((decide (1 ≤ a0.Number)) && (decide (a0.Number ≤ 2147483647))) && (decide (1 ≤ a0.Size))))] ?_ ?_
    · intro a hst
      refine r_t hst trivial rfl (x_move hst rfl) ?_; intro a hst
      refine wl_join0 (N := Try.f59.ntmps) 18 [(1, .pointer (some ⟨g1, 0, none⟩)), (2, .bool false), (20, .bool ((((decide (1 ≤ a0.Number)) && (decide (a0.Number ≤ 2147483647))) && (decide (1 ≤ a0.Size))) && (decide (a0.Size ≤ 268435456))))] ?_ ?_
      · intro a hst
        refine r_t hst trivial rfl (x_move hst rfl) ?_; intro a hst
        refine wl_join0 (N := Try.f59.ntmps) 24 [(1, .pointer (some ⟨g1, 0, none⟩)), (2, .bool false), (26, .bool (((((decide (1 ≤ a0.Number)) && (decide (a0.Number ≤ 2147483647))) && (decide (1 ≤ a0.Size))) && (decide (a0.Size ≤ 268435456))) && (decide (1 ≤ (a0.Least.size : Int)))))] ?_ ?_
        · intro a hst
          refine r_t hst trivial rfl (x_move hst rfl) ?_; intro a hst
          refine wl_join0 (N := Try.f59.ntmps) 30 [(1, .pointer (some ⟨g1, 0, none⟩)), (2, .bool false), (32, .bool ((((((decide (1 ≤ a0.Number)) && (decide (a0.Number ≤ 2147483647))) && (decide (1 ≤ a0.Size))) && (decide (a0.Size ≤ 268435456))) && (decide (1 ≤ (a0.Least.size : Int)))) && (decide ((a0.Least.size : Int) ≤ 1024))))] ?_ ?_
          · intro a hst
            refine r_t hst trivial rfl (x_move hst rfl) ?_; intro a hst
            refine wl_join0 (N := Try.f59.ntmps) 37 [(1, .pointer (some ⟨g1, 0, none⟩)), (2, .bool false), (39, .bool (((((((decide (1 ≤ a0.Number)) && (decide (a0.Number ≤ 2147483647))) && (decide (1 ≤ a0.Size))) && (decide (a0.Size ≤ 268435456))) && (decide (1 ≤ (a0.Least.size : Int)))) && (decide ((a0.Least.size : Int) ≤ 1024))) && (sLt a0.Least a0.Limit)))] ?_ ?_
            · intro a hst
              refine r_t hst trivial rfl (x_move hst rfl) ?_; intro a hst
              refine wl_join0 (N := Try.f59.ntmps) 43 [(1, .pointer (some ⟨g1, 0, none⟩)), (2, .bool false), (45, .bool ((((((((decide (1 ≤ a0.Number)) && (decide (a0.Number ≤ 2147483647))) && (decide (1 ≤ a0.Size))) && (decide (a0.Size ≤ 268435456))) && (decide (1 ≤ (a0.Least.size : Int)))) && (decide ((a0.Least.size : Int) ≤ 1024))) && (sLt a0.Least a0.Limit)) && (decide ((a0.Limit.size : Int) ≤ 1025))))] ?_ ?_
              · intro a hst
                refine r_t hst trivial rfl (x_move hst rfl) ?_; intro a hst
                refine wl_join0 (N := Try.f59.ntmps) 48 [(1, .pointer (some ⟨g1, 0, none⟩)), (2, .bool false), (50, .bool (((((((((decide (1 ≤ a0.Number)) && (decide (a0.Number ≤ 2147483647))) && (decide (1 ≤ a0.Size))) && (decide (a0.Size ≤ 268435456))) && (decide (1 ≤ (a0.Least.size : Int)))) && (decide ((a0.Least.size : Int) ≤ 1024))) && (sLt a0.Least a0.Limit)) && (decide ((a0.Limit.size : Int) ≤ 1025))) && (decide (1 ≤ a0.Low))))] ?_ ?_
                · intro a hst
                  refine r_t hst trivial rfl (x_move hst rfl) ?_; intro a hst
                  refine wl_join0 (N := Try.f59.ntmps) 55 [(1, .pointer (some ⟨g1, 0, none⟩)), (2, .bool false), (57, .bool ((((((((((decide (1 ≤ a0.Number)) && (decide (a0.Number ≤ 2147483647))) && (decide (1 ≤ a0.Size))) && (decide (a0.Size ≤ 268435456))) && (decide (1 ≤ (a0.Least.size : Int)))) && (decide ((a0.Least.size : Int) ≤ 1024))) && (sLt a0.Least a0.Limit)) && (decide ((a0.Limit.size : Int) ≤ 1025))) && (decide (1 ≤ a0.Low))) && (decide (a0.Low ≤ a0.High))))] ?_ ?_
                  · intro a hst
                    refine r_t hst trivial rfl (x_move hst rfl) ?_; intro a hst
                    refine wl_join0 (N := Try.f59.ntmps) 60 [(2, .bool false), (62, .bool (((((((((((decide (1 ≤ a0.Number)) && (decide (a0.Number ≤ 2147483647))) && (decide (1 ≤ a0.Size))) && (decide (a0.Size ≤ 268435456))) && (decide (1 ≤ (a0.Least.size : Int)))) && (decide ((a0.Least.size : Int) ≤ 1024))) && (sLt a0.Least a0.Limit)) && (decide ((a0.Limit.size : Int) ≤ 1025))) && (decide (1 ≤ a0.Low))) && (decide (a0.Low ≤ a0.High))) && (decide (a0.High ≤ 72057594037927935))))] ?_ ?_
                    · intro a hst
                      refine r_t hst trivial rfl (x_assign hst rfl) ?_; intro a hst
                      refine wpList_nil ?_
                      refine then_normal ?_
                      refine wp_ret ?_
                      obtain rfl := Option.some.inj H
                      exact ret1 hst rfl rfl ⟨rfl, hsh.pick []⟩
                    · intro hj
                      by_cases c12 : ((((((((((decide (1 ≤ a0.Number)) && (decide (a0.Number ≤ 2147483647))) && (decide (1 ≤ a0.Size))) && (decide (a0.Size ≤ 268435456))) && (decide (1 ≤ (a0.Least.size : Int)))) && (decide ((a0.Least.size : Int) ≤ 1024))) && (sLt a0.Least a0.Limit)) && (decide ((a0.Limit.size : Int) ≤ 1025))) && (decide (1 ≤ a0.Low))) && (decide (a0.Low ≤ a0.High))) = true
                      · refine r_t hst (wt_of 58 rfl rfl c12) rfl (x_fieldAddr (j' := 5) hst fa_43_5 rfl rfl) ?_; intro a hst
                        refine r_t hst (wt_of 58 rfl rfl c12) rfl (x_loadB (i := 0) hst hsh sc_41 rfl rfl rfl) ?_; intro a hst
                        refine r_t hst (wt_of 58 rfl rfl c12) rfl (x_cmpI (b := decide (a0.High ≤ 72057594037927935)) hst rfl rfl rfl) ?_; intro a hst
                        refine r_t hst trivial rfl (x_andT hst rfl c12 rfl) ?_; intro a hst
                        exact hj _ (hst.keep _ ⟨rfl, rfl, trivial⟩)
                      · replace c12 := Bool.eq_false_iff.2 c12
                        refine r_not hst 58 rfl rfl c12 rfl ?_; intro a hst
                        refine r_not hst 58 rfl rfl c12 rfl ?_; intro a hst
                        refine r_not hst 58 rfl rfl c12 rfl ?_; intro a hst
                        refine r_t hst trivial rfl (x_andF (decide (a0.High ≤ 72057594037927935)) hst rfl c12 rfl) ?_; intro a hst
                        exact hj _ (hst.keep _ ⟨rfl, rfl, trivial⟩)
                  · intro hj
                    by_cases c11 : (((((((((decide (1 ≤ a0.Number)) && (decide (a0.Number ≤ 2147483647))) && (decide (1 ≤ a0.Size))) && (decide (a0.Size ≤ 268435456))) && (decide (1 ≤ (a0.Least.size : Int)))) && (decide ((a0.Least.size : Int) ≤ 1024))) && (sLt a0.Least a0.Limit)) && (decide ((a0.Limit.size : Int) ≤ 1025))) && (decide (1 ≤ a0.Low))) = true
                    · refine r_t hst (wt_of 51 rfl rfl c11) rfl (x_fieldAddr (j' := 4) hst fa_43_4 rfl rfl) ?_; intro a hst
                      refine r_t hst (wt_of 51 rfl rfl c11) rfl (x_loadB (i := 0) hst hsh sc_41 rfl rfl rfl) ?_; intro a hst
                      refine r_t hst (wt_of 51 rfl rfl c11) rfl (x_fieldAddr (j' := 5) hst fa_43_5 rfl rfl) ?_; intro a hst
                      refine r_t hst (wt_of 51 rfl rfl c11) rfl (x_loadB (i := 0) hst hsh sc_41 rfl rfl rfl) ?_; intro a hst
                      refine r_t hst (wt_of 51 rfl rfl c11) rfl (x_cmpI (b := decide (a0.Low ≤ a0.High)) hst rfl rfl rfl) ?_; intro a hst
                      refine r_t hst trivial rfl (x_andT hst rfl c11 rfl) ?_; intro a hst
                      exact hj _ (hst.keep _ ⟨rfl, rfl, rfl, trivial⟩)
                    · replace c11 := Bool.eq_false_iff.2 c11
                      refine r_not hst 51 rfl rfl c11 rfl ?_; intro a hst
                      refine r_not hst 51 rfl rfl c11 rfl ?_; intro a hst
                      refine r_not hst 51 rfl rfl c11 rfl ?_; intro a hst
                      refine r_not hst 51 rfl rfl c11 rfl ?_; intro a hst
                      refine r_not hst 51 rfl rfl c11 rfl ?_; intro a hst
                      refine r_t hst trivial rfl (x_andF (decide (a0.Low ≤ a0.High)) hst rfl c11 rfl) ?_; intro a hst
                      exact hj _ (hst.keep _ ⟨rfl, rfl, rfl, trivial⟩)
                · intro hj
                  by_cases c10 : ((((((((decide (1 ≤ a0.Number)) && (decide (a0.Number ≤ 2147483647))) && (decide (1 ≤ a0.Size))) && (decide (a0.Size ≤ 268435456))) && (decide (1 ≤ (a0.Least.size : Int)))) && (decide ((a0.Least.size : Int) ≤ 1024))) && (sLt a0.Least a0.Limit)) && (decide ((a0.Limit.size : Int) ≤ 1025))) = true
                  · refine r_t hst (wt_of 46 rfl rfl c10) rfl (x_fieldAddr (j' := 4) hst fa_43_4 rfl rfl) ?_; intro a hst
                    refine r_t hst (wt_of 46 rfl rfl c10) rfl (x_loadB (i := 0) hst hsh sc_41 rfl rfl rfl) ?_; intro a hst
                    refine r_t hst (wt_of 46 rfl rfl c10) rfl (x_cmpI (b := decide (1 ≤ a0.Low)) hst rfl rfl rfl) ?_; intro a hst
                    refine r_t hst trivial rfl (x_andT hst rfl c10 rfl) ?_; intro a hst
                    exact hj _ (hst.keep _ ⟨rfl, rfl, rfl, trivial⟩)
                  · replace c10 := Bool.eq_false_iff.2 c10
                    refine r_not hst 46 rfl rfl c10 rfl ?_; intro a hst
                    refine r_not hst 46 rfl rfl c10 rfl ?_; intro a hst
                    refine r_not hst 46 rfl rfl c10 rfl ?_; intro a hst
                    refine r_t hst trivial rfl (x_andF (decide (1 ≤ a0.Low)) hst rfl c10 rfl) ?_; intro a hst
                    exact hj _ (hst.keep _ ⟨rfl, rfl, rfl, trivial⟩)
              · intro hj
                by_cases c9 : (((((((decide (1 ≤ a0.Number)) && (decide (a0.Number ≤ 2147483647))) && (decide (1 ≤ a0.Size))) && (decide (a0.Size ≤ 268435456))) && (decide (1 ≤ (a0.Least.size : Int)))) && (decide ((a0.Least.size : Int) ≤ 1024))) && (sLt a0.Least a0.Limit)) = true
                · refine r_t hst (wt_of 40 rfl rfl c9) rfl (x_fieldAddr (j' := 3) hst fa_43_3 rfl rfl) ?_; intro a hst
                  refine r_t hst (wt_of 40 rfl rfl c9) rfl (x_loadB (i := 0) hst hsh sc_9 rfl rfl rfl) ?_; intro a hst
                  refine r_t hst (wt_of 40 rfl rfl c9) rfl (x_lenStr hst Try.underlying9 rfl) ?_; intro a hst
                  refine r_t hst (wt_of 40 rfl rfl c9) rfl (x_cmpI (b := decide ((a0.Limit.size : Int) ≤ 1025)) hst rfl rfl rfl) ?_; intro a hst
                  refine r_t hst trivial rfl (x_andT hst rfl c9 rfl) ?_; intro a hst
                  exact hj _ (hst.keep _ ⟨rfl, rfl, rfl, trivial⟩)
                · replace c9 := Bool.eq_false_iff.2 c9
                  refine r_not hst 40 rfl rfl c9 rfl ?_; intro a hst
                  refine r_not hst 40 rfl rfl c9 rfl ?_; intro a hst
                  refine r_not hst 40 rfl rfl c9 rfl ?_; intro a hst
                  refine r_not hst 40 rfl rfl c9 rfl ?_; intro a hst
                  refine r_t hst trivial rfl (x_andF (decide ((a0.Limit.size : Int) ≤ 1025)) hst rfl c9 rfl) ?_; intro a hst
                  exact hj _ (hst.keep _ ⟨rfl, rfl, rfl, trivial⟩)
            · intro hj
              by_cases c8 : ((((((decide (1 ≤ a0.Number)) && (decide (a0.Number ≤ 2147483647))) && (decide (1 ≤ a0.Size))) && (decide (a0.Size ≤ 268435456))) && (decide (1 ≤ (a0.Least.size : Int)))) && (decide ((a0.Least.size : Int) ≤ 1024))) = true
              · refine r_t hst (wt_of 33 rfl rfl c8) rfl (x_fieldAddr (j' := 2) hst fa_43_2 rfl rfl) ?_; intro a hst
                refine r_t hst (wt_of 33 rfl rfl c8) rfl (x_loadB (i := 0) hst hsh sc_9 rfl rfl rfl) ?_; intro a hst
                refine r_t hst (wt_of 33 rfl rfl c8) rfl (x_fieldAddr (j' := 3) hst fa_43_3 rfl rfl) ?_; intro a hst
                refine r_t hst (wt_of 33 rfl rfl c8) rfl (x_loadB (i := 0) hst hsh sc_9 rfl rfl rfl) ?_; intro a hst
                refine r_t hst (wt_of 33 rfl rfl c8) rfl (x_cmpS (b := sLt a0.Least a0.Limit) hst rfl rfl rfl) ?_; intro a hst
                refine r_t hst trivial rfl (x_andT hst rfl c8 rfl) ?_; intro a hst
                exact hj _ (hst.keep _ ⟨rfl, rfl, rfl, trivial⟩)
              · replace c8 := Bool.eq_false_iff.2 c8
                refine r_not hst 33 rfl rfl c8 rfl ?_; intro a hst
                refine r_not hst 33 rfl rfl c8 rfl ?_; intro a hst
                refine r_not hst 33 rfl rfl c8 rfl ?_; intro a hst
                refine r_not hst 33 rfl rfl c8 rfl ?_; intro a hst
                refine r_not hst 33 rfl rfl c8 rfl ?_; intro a hst
                refine r_t hst trivial rfl (x_andF (sLt a0.Least a0.Limit) hst rfl c8 rfl) ?_; intro a hst
                exact hj _ (hst.keep _ ⟨rfl, rfl, rfl, trivial⟩)
          · intro hj
            by_cases c7 : (((((decide (1 ≤ a0.Number)) && (decide (a0.Number ≤ 2147483647))) && (decide (1 ≤ a0.Size))) && (decide (a0.Size ≤ 268435456))) && (decide (1 ≤ (a0.Least.size : Int)))) = true
            · refine r_t hst (wt_of 27 rfl rfl c7) rfl (x_fieldAddr (j' := 2) hst fa_43_2 rfl rfl) ?_; intro a hst
              refine r_t hst (wt_of 27 rfl rfl c7) rfl (x_loadB (i := 0) hst hsh sc_9 rfl rfl rfl) ?_; intro a hst
              refine r_t hst (wt_of 27 rfl rfl c7) rfl (x_lenStr hst Try.underlying9 rfl) ?_; intro a hst
              refine r_t hst (wt_of 27 rfl rfl c7) rfl (x_cmpI (b := decide ((a0.Least.size : Int) ≤ 1024)) hst rfl rfl rfl) ?_; intro a hst
              refine r_t hst trivial rfl (x_andT hst rfl c7 rfl) ?_; intro a hst
              exact hj _ (hst.keep _ ⟨rfl, rfl, rfl, trivial⟩)
            · replace c7 := Bool.eq_false_iff.2 c7
              refine r_not hst 27 rfl rfl c7 rfl ?_; intro a hst
              refine r_not hst 27 rfl rfl c7 rfl ?_; intro a hst
              refine r_not hst 27 rfl rfl c7 rfl ?_; intro a hst
              refine r_not hst 27 rfl rfl c7 rfl ?_; intro a hst
              refine r_t hst trivial rfl (x_andF (decide ((a0.Least.size : Int) ≤ 1024)) hst rfl c7 rfl) ?_; intro a hst
              exact hj _ (hst.keep _ ⟨rfl, rfl, rfl, trivial⟩)
        · intro hj
          by_cases c6 : ((((decide (1 ≤ a0.Number)) && (decide (a0.Number ≤ 2147483647))) && (decide (1 ≤ a0.Size))) && (decide (a0.Size ≤ 268435456))) = true
          · refine r_t hst (wt_of 21 rfl rfl c6) rfl (x_fieldAddr (j' := 2) hst fa_43_2 rfl rfl) ?_; intro a hst
            refine r_t hst (wt_of 21 rfl rfl c6) rfl (x_loadB (i := 0) hst hsh sc_9 rfl rfl rfl) ?_; intro a hst
            refine r_t hst (wt_of 21 rfl rfl c6) rfl (x_lenStr hst Try.underlying9 rfl) ?_; intro a hst
            refine r_t hst (wt_of 21 rfl rfl c6) rfl (x_cmpI (b := decide (1 ≤ (a0.Least.size : Int))) hst rfl rfl rfl) ?_; intro a hst
            refine r_t hst trivial rfl (x_andT hst rfl c6 rfl) ?_; intro a hst
            exact hj _ (hst.keep _ ⟨rfl, rfl, rfl, trivial⟩)
          · replace c6 := Bool.eq_false_iff.2 c6
            refine r_not hst 21 rfl rfl c6 rfl ?_; intro a hst
            refine r_not hst 21 rfl rfl c6 rfl ?_; intro a hst
            refine r_not hst 21 rfl rfl c6 rfl ?_; intro a hst
            refine r_not hst 21 rfl rfl c6 rfl ?_; intro a hst
            refine r_t hst trivial rfl (x_andF (decide (1 ≤ (a0.Least.size : Int))) hst rfl c6 rfl) ?_; intro a hst
            exact hj _ (hst.keep _ ⟨rfl, rfl, rfl, trivial⟩)
      · intro hj
        by_cases c5 : (((decide (1 ≤ a0.Number)) && (decide (a0.Number ≤ 2147483647))) && (decide (1 ≤ a0.Size))) = true
        · refine r_t hst (wt_of 16 rfl rfl c5) rfl (x_fieldAddr (j' := 1) hst fa_43_1 rfl rfl) ?_; intro a hst
          refine r_t hst (wt_of 16 rfl rfl c5) rfl (x_loadB (i := 0) hst hsh sc_3 rfl rfl rfl) ?_; intro a hst
          refine r_t hst (wt_of 16 rfl rfl c5) rfl (x_cmpI (b := decide (a0.Size ≤ 268435456)) hst rfl rfl rfl) ?_; intro a hst
          refine r_t hst trivial rfl (x_andT hst rfl c5 rfl) ?_; intro a hst
          exact hj _ (hst.keep _ ⟨rfl, rfl, rfl, trivial⟩)
        · replace c5 := Bool.eq_false_iff.2 c5
          refine r_not hst 16 rfl rfl c5 rfl ?_; intro a hst
          refine r_not hst 16 rfl rfl c5 rfl ?_; intro a hst
          refine r_not hst 16 rfl rfl c5 rfl ?_; intro a hst
          refine r_t hst trivial rfl (x_andF (decide (a0.Size ≤ 268435456)) hst rfl c5 rfl) ?_; intro a hst
          exact hj _ (hst.keep _ ⟨rfl, rfl, rfl, trivial⟩)
    · intro hj
      by_cases c4 : ((decide (1 ≤ a0.Number)) && (decide (a0.Number ≤ 2147483647))) = true
      · refine r_t hst (wt_of 11 rfl rfl c4) rfl (x_fieldAddr (j' := 1) hst fa_43_1 rfl rfl) ?_; intro a hst
        refine r_t hst (wt_of 11 rfl rfl c4) rfl (x_loadB (i := 0) hst hsh sc_3 rfl rfl rfl) ?_; intro a hst
        refine r_t hst (wt_of 11 rfl rfl c4) rfl (x_cmpI (b := decide (1 ≤ a0.Size)) hst rfl rfl rfl) ?_; intro a hst
        refine r_t hst trivial rfl (x_andT hst rfl c4 rfl) ?_; intro a hst
        exact hj _ (hst.keep _ ⟨rfl, rfl, rfl, trivial⟩)
      · replace c4 := Bool.eq_false_iff.2 c4
        refine r_not hst 11 rfl rfl c4 rfl ?_; intro a hst
        refine r_not hst 11 rfl rfl c4 rfl ?_; intro a hst
        refine r_not hst 11 rfl rfl c4 rfl ?_; intro a hst
        refine r_t hst trivial rfl (x_andF (decide (1 ≤ a0.Size)) hst rfl c4 rfl) ?_; intro a hst
        exact hj _ (hst.keep _ ⟨rfl, rfl, rfl, trivial⟩)
  · intro hj
    by_cases c3 : (decide (1 ≤ a0.Number)) = true
    · refine r_t hst (wt_of 6 rfl rfl c3) rfl (x_fieldAddr (j' := 0) hst fa_43_0 rfl rfl) ?_; intro a hst
      refine r_t hst (wt_of 6 rfl rfl c3) rfl (x_loadB (i := 0) hst hsh sc_3 rfl rfl rfl) ?_; intro a hst
      refine r_t hst (wt_of 6 rfl rfl c3) rfl (x_cmpI (b := decide (a0.Number ≤ 2147483647)) hst rfl rfl rfl) ?_; intro a hst
      refine r_t hst trivial rfl (x_andT hst rfl c3 rfl) ?_; intro a hst
      exact hj _ (hst.keep _ ⟨rfl, rfl, rfl, trivial⟩)
    · replace c3 := Bool.eq_false_iff.2 c3
      refine r_not hst 6 rfl rfl c3 rfl ?_; intro a hst
      refine r_not hst 6 rfl rfl c3 rfl ?_; intro a hst
      refine r_not hst 6 rfl rfl c3 rfl ?_; intro a hst
      refine r_t hst trivial rfl (x_andF (decide (a0.Number ≤ 2147483647)) hst rfl c3 rfl) ?_; intro a hst
      exact hj _ (hst.keep _ ⟨rfl, rfl, rfl, trivial⟩)

set_option maxHeartbeats 4000000 in
set_option maxRecDepth 100000 in
theorem version_Valid.calls (k : Nat) (w : World) (va0 : Value) (Za0 : Nat → Prop) (wra0 : World) (hsa0 : Same Za0 wra0 w) (a0 : (List (List File))) (hra0 : RD (Kd.slice 43 k_File) Za0 wra0 va0 a0) (r : Bool) (h : version_Valid k a0 = some r) :
    Calls Try.prog 39 ([va0] : List Value).toArray w fun e w' => e = .returned (.bool r) ∧ SH (fun _ => False) w w' [] := by
  have H := h
  clear h
  unfold version_Valid at H
  refine calls_enter Try.func39 rfl rfl ?_
  intro a hst
  have hsh := SH.zero (fun _ => False) w
  refine wp_seq ?_
  refine wp_region_lit ?_
  refine r_t hst trivial rfl (x_assign hst rfl) ?_; intro a hst
  refine wpList_nil ?_
  refine then_normal ?_
  refine wp_seq ?_
  refine wp_seq ?_
  refine wp_region_lit ?_
  refine r_t hst trivial rfl (x_move hst rfl) ?_; intro a hst
  refine r_t hst trivial rfl (x_lenSl hst Try.underlying23 rfl hra0.slen) ?_; intro a hst
  refine r_t hst trivial rfl (x_cmpI (b := decide ((a0.length : Int) < 1)) hst rfl rfl rfl) ?_; intro a hst
  refine r_t hst trivial rfl (x_move hst rfl) ?_; intro a hst
  refine wl_join0 (N := Try.f39.ntmps) 8 [(0, va0), (2, .bool false), (15, .bool ((decide ((a0.length : Int) < 1)) || (decide (7 < (a0.length : Int)))))] ?_ ?_
  · intro a hst
    refine wpList_nil ?_
    refine then_normal ?_
    by_cases c4 : ((decide ((a0.length : Int) < 1)) || (decide (7 < (a0.length : Int)))) = true
    · rw [if_pos c4] at H
      refine wp_condT hst rfl c4 ?_
      refine wp_seq ?_
      refine wp_region_lit ?_
      refine r_t hst trivial rfl (x_assign hst rfl) ?_; intro a hst
      refine wpList_nil ?_
      refine then_normal ?_
      refine wp_ret ?_
      refine then_ret ?_
      obtain rfl := Option.some.inj H
      exact ret1 hst rfl rfl ⟨rfl, hsh.pick []⟩
    · rw [if_neg c4] at H
      replace c4 := Bool.eq_false_iff.2 c4
      refine wp_condF hst rfl c4 ?_
      refine wp_skip ?_
      refine then_normal ?_
      refine wp_seq ?_
      refine wp_region_lit ?_
      refine r_makeMap (q := .i64) (r := .i64) 3 3 hst hsh trivial rfl ?_
      intro g5 a w6 hgg5 hsh hst
      refine r_t hst trivial rfl (x_assign hst rfl) ?_; intro a hst
      refine wpList_nil ?_
      refine then_normal ?_
      refine wp_seq ?_
      refine wp_seq ?_
      refine wp_region_lit ?_
      refine r_t hst trivial rfl (x_move hst rfl) ?_; intro a hst
      refine r_t hst trivial rfl (x_lenSl hst Try.underlying23 rfl hra0.slen) ?_; intro a hst
      refine r_t hst trivial rfl (x_move hst rfl) ?_; intro a hst
      refine wpList_nil ?_
      refine then_normal ?_
      refine wp_block ?_
      refine wp_loop_fuel (fun k_237 a w' => ∃ (l_188 : (List (Int × Int))), ∃ (i_189 : Int), version_Valid.l0 a0 k_237 l_188 i_189 = some r ∧ ST Try.f39.ntmps a [(2, .bool false), (3, .map (some g5)), (17, va0), (18, .int .i64 (a0.length : Int)), (19, .int .i64 i_189)] ∧ SH (fun _ => False) w w' [MapI Try.prog .i64 .i64 3 3 g5 l_188]) k ?_ ?_
      · exact ⟨([]), 0, H, hst.keep _ ⟨rfl, rfl, rfl, rfl, rfl, trivial⟩, hsh.pick [0]⟩
      · rintro k_237 a W_190 ⟨l_188, i_189, H, hst, hsh⟩
        cases k_237 with
        | zero => rw [version_Valid.l0] at H; cases H
        | succ k_237 =>
          rw [version_Valid.l0] at H
          refine wp_seq ?_
          refine wp_region_lit ?_
          refine r_t hst trivial rfl (x_cmpI (b := decide (i_189 < (a0.length : Int))) hst rfl rfl rfl) ?_; intro a hst
          refine wpList_nil ?_
          refine then_normal ?_
          refine wp_seq ?_
          by_cases c2168 : (decide (i_189 < (a0.length : Int))) = true
          · rw [if_pos c2168] at H
            refine wp_condT hst rfl c2168 ?_
            refine wp_skip ?_
            refine then_normal ?_
            obtain ⟨J_260, hJ_260, H⟩ := Jn.elim H
            refine wp_cut (fun a w' => ∃ (l_258 : (List (Int × Int))), J_260 l_258 = some r ∧ ST Try.f39.ntmps a [(2, .bool false), (3, .map (some g5)), (17, va0), (18, .int .i64 (a0.length : Int)), (19, .int .i64 i_189)] ∧ SH (fun _ => False) w w' [MapI Try.prog .i64 .i64 3 3 g5 l_258]) ?_ ?_
            · rintro a W_259 ⟨l_258, H, hst, hsh⟩
              subst hJ_260
              dsimp only at H
              refine wp_region_lit ?_
              refine r_t hst trivial rfl (x_arI (r := w64 (i_189 + 1)) hst rfl rfl rfl) ?_; intro a hst
              refine r_t hst trivial rfl (x_move hst rfl) ?_; intro a hst
              refine wpList_nil ?_
              refine then_normal ?_
              exact ⟨k_237, Nat.lt_succ_self _, l_258, (w64 (i_189 + 1)), H, hst.keep _ ⟨rfl, rfl, rfl, rfl, rfl, trivial⟩, hsh.pick [0]⟩
            · refine wp_block ?_
              refine wp_seq ?_
              refine wp_region_lit ?_
              refine r_t hst trivial rfl (x_move hst rfl) ?_; intro a hst
              obtain ⟨x2384, hx2384, H⟩ := Option.bind_eq_some_iff.1 H
              refine r_t hst trivial rfl (x_indexAddr hst Try.underlying23 el_31 rfl rfl hra0 hx2384) ?_; intro a hst
              obtain ⟨_, hk2385, hc2386⟩ := RD.cells2 hra0 hx2384
              obtain ⟨v2387, rfl, hr2388⟩ := hk2385
              refine r_t hst trivial rfl (x_loadC hst sc_31 rfl (hc2386 _ (Same.sh0 hsa0 hsh) 0 _ rfl)) ?_; intro a hst
              refine r_t hst trivial rfl (x_assign hst rfl) ?_; intro a hst
              refine r_t hst trivial rfl (x_assign hst rfl) ?_; intro a hst
              refine wpList_nil ?_
              refine then_normal ?_
              refine wp_seq ?_
              refine wp_region_lit ?_
              refine r_t hst trivial rfl (x_move hst rfl) ?_; intro a hst
              refine r_t hst trivial rfl (x_lenSl hst Try.underlying31 rfl hr2388.slen) ?_; intro a hst
              refine r_t hst trivial rfl (x_move hst rfl) ?_; intro a hst
              refine wpList_nil ?_
              refine then_normal ?_
              refine wp_block ?_
              refine wp_loop_fuel (fun k_277 a w' => ∃ (l_268 : (List (Int × Int))), ∃ (i_269 : Int), version_Valid.l1 i_189 J_260 x2384 k_277 l_268 i_269 = some r ∧ ST Try.f39.ntmps a [(2, .bool false), (3, .map (some g5)), (4, .int .i64 i_189), (5, v2387), (17, va0), (18, .int .i64 (a0.length : Int)), (19, .int .i64 i_189), (24, v2387), (25, .int .i64 (x2384.length : Int)), (26, .int .i64 i_269)] ∧ SH (fun _ => False) w w' [MapI Try.prog .i64 .i64 3 3 g5 l_268]) k_237 ?_ ?_
              · exact ⟨l_188, 0, H, hst.keep _ ⟨rfl, rfl, rfl, rfl, rfl, rfl, rfl, rfl, rfl, rfl, trivial⟩, hsh.pick [0]⟩
              · rintro k_277 a W_270 ⟨l_268, i_269, H, hst, hsh⟩
                cases k_277 with
                | zero => rw [version_Valid.l1] at H; cases H
                | succ k_277 =>
                  rw [version_Valid.l1] at H
                  refine wp_seq ?_
                  refine wp_region_lit ?_
                  refine r_t hst trivial rfl (x_cmpI (b := decide (i_269 < (x2384.length : Int))) hst rfl rfl rfl) ?_; intro a hst
                  refine wpList_nil ?_
                  refine then_normal ?_
                  refine wp_seq ?_
                  by_cases c2530 : (decide (i_269 < (x2384.length : Int))) = true
                  · rw [if_pos c2530] at H
                    refine wp_condT hst rfl c2530 ?_
                    refine wp_skip ?_
                    refine then_normal ?_
                    obtain ⟨J_280, hJ_280, H⟩ := Jn.elim H
                    refine wp_cut (fun a w' => ∃ (l_278 : (List (Int × Int))), J_280 l_278 = some r ∧ ST Try.f39.ntmps a [(2, .bool false), (3, .map (some g5)), (4, .int .i64 i_189), (5, v2387), (17, va0), (18, .int .i64 (a0.length : Int)), (19, .int .i64 i_189), (24, v2387), (25, .int .i64 (x2384.length : Int)), (26, .int .i64 i_269)] ∧ SH (fun _ => False) w w' [MapI Try.prog .i64 .i64 3 3 g5 l_278]) ?_ ?_
                    · rintro a W_279 ⟨l_278, H, hst, hsh⟩
                      subst hJ_280
                      dsimp only at H
                      refine wp_region_lit ?_
                      refine r_t hst trivial rfl (x_arI (r := w64 (i_269 + 1)) hst rfl rfl rfl) ?_; intro a hst
                      refine r_t hst trivial rfl (x_move hst rfl) ?_; intro a hst
                      refine wpList_nil ?_
                      refine then_normal ?_
                      exact ⟨k_277, Nat.lt_succ_self _, l_278, (w64 (i_269 + 1)), H, hst.keep _ ⟨rfl, rfl, rfl, rfl, rfl, rfl, rfl, rfl, rfl, rfl, trivial⟩, hsh.pick [0]⟩
                    · refine wp_block ?_
                      refine wp_seq ?_
                      refine wp_region_lit ?_
                      refine r_t hst trivial rfl (x_move hst rfl) ?_; intro a hst
                      obtain ⟨x2565, hx2565, H⟩ := Option.bind_eq_some_iff.1 H
                      refine r_t hst trivial rfl (x_indexAddr hst Try.underlying31 el_43 rfl rfl hr2388 hx2565) ?_; intro a hst
                      refine r_t hst trivial rfl (x_loadEsF (j := 0) (cs := [.int .i64 x2565.Number, .int .i64 x2565.Size, .string x2565.Least, .string x2565.Limit, .int .u64 x2565.Low, .int .u64 x2565.High]) (ps := [.int .i64 x2565.Number, .int .i64 x2565.Size, .string x2565.Least, .string x2565.Limit, .int .u64 x2565.Low, .int .u64 x2565.High]) hst ag_43 rfl hr2388 (Same.sh0 hsa0 hsh) hx2565 rfl (fun _ h => h) rfl) ?_; intro a hst
                      refine r_alloc hst hsh trivial rfl zr_43 ?_
                      intro g2566 a w2567 hgg2566 hsh hst
                      refine r_t hst trivial rfl (x_assign hst rfl) ?_; intro a hst
                      refine r_storeBs (i := 0) (cs' := [.int .i64 x2565.Number, .int .i64 x2565.Size, .string x2565.Least, .string x2565.Limit, .int .u64 x2565.Low, .int .u64 x2565.High]) (vs := [.int .i64 x2565.Number, .int .i64 x2565.Size, .string x2565.Least, .string x2565.Limit, .int .u64 x2565.Low, .int .u64 x2565.High]) hst hsh trivial ag_43 rfl rfl rfl rfl rfl rfl ?_; intro a w2568 hsh hst
                      refine wpList_nil ?_
                      refine then_normal ?_
                      refine wp_seq ?_
                      refine wp_region_lit ?_
                      refine r_t hst trivial rfl (x_move hst rfl) ?_; intro a hst
                      refine r_t hst trivial rfl (x_fieldAddr (j' := 0) hst fa_43_0 rfl rfl) ?_; intro a hst
                      refine r_t hst trivial rfl (x_loadB (i := 0) hst hsh sc_3 rfl rfl rfl) ?_; intro a hst
                      by_cases c2569 : wfi .i64 x2565.Number = true
                      · rw [if_pos c2569] at H
                        refine r_t hst trivial rfl (x_lookupI (i := 1) hst hsh Try.underlying92 Try.underlying3 Try.underlying3 (fun _ => by kernel_rfl) rfl rfl rfl c2569) ?_; intro a hst
                        refine r_t hst trivial rfl (x_arI (r := w64 ((mget l_268 x2565.Number) + 1)) hst rfl rfl rfl) ?_; intro a hst
                        obtain ⟨l2570, hl2570, H⟩ := Option.bind_eq_some_iff.1 H
                        refine r_mapUpdateI (i := 1) hst hsh trivial Try.underlying92 Try.underlying3 Try.underlying3 rfl rfl rfl rfl c2569 hl2570 ?_; intro a w2571 hsh hst
                        refine wpList_nil ?_
                        refine then_normal ?_
                        refine wp_seq ?_
                        refine wp_seq ?_
                        refine wp_region_lit ?_
                        refine r_t hst trivial rfl (x_loadBs (i := 1) (ps := [.int .i64 x2565.Number, .int .i64 x2565.Size, .string x2565.Least, .string x2565.Limit, .int .u64 x2565.Low, .int .u64 x2565.High]) hst hsh ag_43 rfl rfl rfl) ?_; intro a hst
                        obtain ⟨r2576, hr2576, H⟩ := Option.bind_eq_some_iff.1 H
                        refine r_callD hst trivial rfl fn_59 rfl (version_may.calls _ x2565 r2576 hr2576) ?_
                        rintro e w2577 ⟨rfl, hc⟩
                        replace hsh := hsh.call0 hc
                        clear hc
                        refine ⟨_, rfl, fun a hst => ?_⟩
                        refine r_t hst trivial rfl (x_notB hst rfl) ?_; intro a hst
                        refine r_t hst trivial rfl (x_move hst rfl) ?_; intro a hst
                        refine wl_join0 (N := Try.f39.ntmps) 10 [(2, .bool false), (3, .map (some g5)), (4, .int .i64 i_189), (5, v2387), (6, .int .i64 i_269), (7, .pointer (some ⟨g2566, 0, none⟩)), (17, va0), (18, .int .i64 (a0.length : Int)), (19, .int .i64 i_189), (24, v2387), (25, .int .i64 (x2384.length : Int)), (26, .int .i64 i_269), (45, .bool ((!r2576) || (decide (1 < (mget l2570 x2565.Number)))))] ?_ ?_
                        · intro a hst
                          refine wpList_nil ?_
                          refine then_normal ?_
                          by_cases c2579 : ((!r2576) || (decide (1 < (mget l2570 x2565.Number)))) = true
                          · rw [if_pos c2579] at H
                            refine wp_condT hst rfl c2579 ?_
                            refine wp_seq ?_
                            refine wp_region_lit ?_
                            refine r_t hst trivial rfl (x_assign hst rfl) ?_; intro a hst
                            refine wpList_nil ?_
                            refine then_normal ?_
                            refine wp_ret ?_
                            refine then_ret ?_
                            refine block_ret ?_
                            refine then_ret ?_
                            refine then_ret ?_
                            refine block_ret ?_
                            refine block_ret ?_
                            refine then_ret ?_
                            refine then_ret ?_
                            refine block_ret ?_
                            refine then_ret ?_
                            obtain rfl := Option.some.inj H
                            exact ret1 hst rfl rfl ⟨rfl, hsh.pick []⟩
                          · rw [if_neg c2579] at H
                            replace c2579 := Bool.eq_false_iff.2 c2579
                            refine wp_condF hst rfl c2579 ?_
                            refine wp_skip ?_
                            refine then_normal ?_
                            refine wp_seq ?_
                            refine wp_seq ?_
                            refine wp_region_lit ?_
                            refine r_t hst trivial rfl (x_move hst rfl) ?_; intro a hst
                            refine r_t hst trivial rfl (x_cmpI (b := (i_269 == 0)) hst rfl rfl rfl) ?_; intro a hst
                            refine wpList_nil ?_
                            refine then_normal ?_
                            by_cases c2581 : (i_269 == 0) = true
                            · rw [if_pos c2581] at H
                              refine wp_condT hst rfl c2581 ?_
                              refine wp_exit ?_
                              refine then_exit ?_
                              refine block_hit ?_
                              refine then_normal ?_
                              exact ⟨l2570, H, hst.keep _ ⟨rfl, rfl, rfl, rfl, rfl, rfl, rfl, rfl, rfl, rfl, trivial⟩, hsh.pick [0]⟩
                            · rw [if_neg c2581] at H
                              replace c2581 := Bool.eq_false_iff.2 c2581
                              refine wp_condF hst rfl c2581 ?_
                              refine wp_skip ?_
                              refine then_normal ?_
                              refine wp_seq ?_
                              refine wp_seq ?_
                              refine wp_region_lit ?_
                              refine r_t hst trivial rfl (x_move hst rfl) ?_; intro a hst
                              refine r_t hst trivial rfl (x_cmpI (b := (i_189 == 0)) hst rfl rfl rfl) ?_; intro a hst
                              refine wpList_nil ?_
                              refine then_normal ?_
                              by_cases c2589 : (i_189 == 0) = true
                              · rw [if_pos c2589] at H
                                refine wp_condT hst rfl c2589 ?_
                                refine wp_seq ?_
                                refine wp_seq ?_
                                refine wp_region_q (fun w' => SH (fun _ => False) w w' [MapI Try.prog .i64 .i64 3 3 g5 l2570, Box g2566 [.int .i64 x2565.Number, .int .i64 x2565.Size, .string x2565.Least, .string x2565.Limit, .int .u64 x2565.Low, .int .u64 x2565.High] 43]) hsh.drew fo (by kernel_rfl) ?_
                                refine q_t hst trivial rfl (fun _ hsh => x_move hst rfl) ?_; intro a hst
                                refine q_t hst trivial rfl (fun _ hsh => x_move hst rfl) ?_; intro a hst
                                refine q_t hst trivial rfl (fun _ hsh => x_arI (r := w64 (i_269 - 1)) hst rfl rfl rfl) ?_; intro a hst
                                obtain ⟨x2593, hx2593, H⟩ := Option.bind_eq_some_iff.1 H
                                refine q_t hst trivial rfl (fun _ hsh => x_indexAddr hst Try.underlying31 el_43 rfl rfl hr2388 hx2593) ?_; intro a hst
                                refine q_t hst trivial rfl (fun _ hsh => x_fieldAddrE (n' := Int.toNat (w64 (i_269 - 1)) * k_File.sz) hst fa_43_0 rfl rfl) ?_; intro a hst
                                refine q_t hst trivial rfl (fun _ hsh => x_loadEF (j := 0) (cs := [.int .i64 x2593.Number, .int .i64 x2593.Size, .string x2593.Least, .string x2593.Limit, .int .u64 x2593.Low, .int .u64 x2593.High]) hst sc_3 rfl hr2388 (Same.sh0 hsa0 hsh) hx2593 rfl (fun _ h => h) rfl) ?_; intro a hst
                                refine q_t hst trivial rfl (fun _ hsh => x_fieldAddr (j' := 0) hst fa_43_0 rfl rfl) ?_; intro a hst
                                refine q_t hst trivial rfl (fun _ hsh => x_loadB (i := 1) hst hsh sc_3 rfl rfl rfl) ?_; intro a hst
                                refine q_t hst trivial rfl (fun _ hsh => x_cmpI (b := decide (x2565.Number ≤ x2593.Number)) hst rfl rfl rfl) ?_; intro a hst
                                refine q_nil ?_
                                intro w2594 hsh
                                refine then_normal ?_
                                by_cases c2595 : (decide (x2565.Number ≤ x2593.Number)) = true
                                · rw [if_pos c2595] at H
                                  refine wp_condT hst rfl c2595 ?_
                                  refine wp_seq ?_
                                  refine wp_region_lit ?_
                                  refine r_t hst trivial rfl (x_assign hst rfl) ?_; intro a hst
                                  refine wpList_nil ?_
                                  refine then_normal ?_
                                  refine wp_ret ?_
                                  refine then_ret ?_
                                  refine then_ret ?_
                                  refine block_ret ?_
                                  refine then_ret ?_
                                  refine then_ret ?_
                                  refine block_ret ?_
                                  refine block_ret ?_
                                  refine then_ret ?_
                                  refine then_ret ?_
                                  refine block_ret ?_
                                  refine then_ret ?_
                                  obtain rfl := Option.some.inj H
                                  exact ret1 hst rfl rfl ⟨rfl, hsh.pick []⟩
                                · rw [if_neg c2595] at H
                                  replace c2595 := Bool.eq_false_iff.2 c2595
                                  refine wp_condF hst rfl c2595 ?_
                                  refine wp_skip ?_
                                  refine then_normal ?_
                                  refine wp_exit ?_
                                  refine then_exit ?_
                                  refine block_hit ?_
                                  refine then_normal ?_
                                  exact ⟨l2570, H, hst.keep _ ⟨rfl, rfl, rfl, rfl, rfl, rfl, rfl, rfl, rfl, rfl, trivial⟩, hsh.pick [0]⟩
                              · rw [if_neg c2589] at H
                                replace c2589 := Bool.eq_false_iff.2 c2589
                                refine wp_condF hst rfl c2589 ?_
                                refine wp_skip ?_
                                refine then_normal ?_
                                refine wp_seq ?_
                                refine wp_region_q (fun w' => SH (fun _ => False) w w' [MapI Try.prog .i64 .i64 3 3 g5 l2570, Box g2566 [.int .i64 x2565.Number, .int .i64 x2565.Size, .string x2565.Least, .string x2565.Limit, .int .u64 x2565.Low, .int .u64 x2565.High] 43]) hsh.drew fo (by kernel_rfl) ?_
                                refine q_t hst trivial rfl (fun _ hsh => x_move hst rfl) ?_; intro a hst
                                refine q_t hst trivial rfl (fun _ hsh => x_move hst rfl) ?_; intro a hst
                                refine q_t hst trivial rfl (fun _ hsh => x_arI (r := w64 (i_269 - 1)) hst rfl rfl rfl) ?_; intro a hst
                                obtain ⟨x2596, hx2596, H⟩ := Option.bind_eq_some_iff.1 H
                                refine q_t hst trivial rfl (fun _ hsh => x_indexAddr hst Try.underlying31 el_43 rfl rfl hr2388 hx2596) ?_; intro a hst
                                refine q_t hst trivial rfl (fun _ hsh => x_fieldAddrE (n' := Int.toNat (w64 (i_269 - 1)) * k_File.sz + 3) hst fa_43_3 rfl rfl) ?_; intro a hst
                                refine q_t hst trivial rfl (fun _ hsh => x_loadEF (j := 3) (cs := [.int .i64 x2596.Number, .int .i64 x2596.Size, .string x2596.Least, .string x2596.Limit, .int .u64 x2596.Low, .int .u64 x2596.High]) hst sc_9 rfl hr2388 (Same.sh0 hsa0 hsh) hx2596 rfl (fun _ h => h) rfl) ?_; intro a hst
                                refine q_t hst trivial rfl (fun _ hsh => x_fieldAddr (j' := 2) hst fa_43_2 rfl rfl) ?_; intro a hst
                                refine q_t hst trivial rfl (fun _ hsh => x_loadB (i := 1) hst hsh sc_9 rfl rfl rfl) ?_; intro a hst
                                refine q_t hst trivial rfl (fun _ hsh => x_cmpS (b := (!(sLt x2596.Limit x2565.Least || sEq x2596.Limit x2565.Least))) hst rfl rfl rfl) ?_; intro a hst
                                refine q_nil ?_
                                intro w2597 hsh
                                refine then_normal ?_
                                by_cases c2598 : (!(sLt x2596.Limit x2565.Least || sEq x2596.Limit x2565.Least)) = true
                                · rw [if_pos c2598] at H
                                  refine wp_condT hst rfl c2598 ?_
                                  refine wp_seq ?_
                                  refine wp_region_lit ?_
                                  refine r_t hst trivial rfl (x_assign hst rfl) ?_; intro a hst
                                  refine wpList_nil ?_
                                  refine then_normal ?_
                                  refine wp_ret ?_
                                  refine block_ret ?_
                                  refine then_ret ?_
                                  refine then_ret ?_
                                  refine block_ret ?_
                                  refine block_ret ?_
                                  refine then_ret ?_
                                  refine then_ret ?_
                                  refine block_ret ?_
                                  refine then_ret ?_
                                  obtain rfl := Option.some.inj H
                                  exact ret1 hst rfl rfl ⟨rfl, hsh.pick []⟩
                                · rw [if_neg c2598] at H
                                  replace c2598 := Bool.eq_false_iff.2 c2598
                                  refine wp_condF hst rfl c2598 ?_
                                  refine wp_skip ?_
                                  refine block_normal ?_
                                  refine then_normal ?_
                                  exact ⟨l2570, H, hst.keep _ ⟨rfl, rfl, rfl, rfl, rfl, rfl, rfl, rfl, rfl, rfl, trivial⟩, hsh.pick [0]⟩
                        · intro hj
                          by_cases c2578 : (!r2576) = true
                          · refine r_not hst 39 rfl rfl c2578 rfl ?_; intro a hst
                            refine r_not hst 39 rfl rfl c2578 rfl ?_; intro a hst
                            refine r_not hst 39 rfl rfl c2578 rfl ?_; intro a hst
                            refine r_not hst 39 rfl rfl c2578 rfl ?_; intro a hst
                            refine r_not hst 39 rfl rfl c2578 rfl ?_; intro a hst
                            refine r_t hst trivial rfl (x_orT (decide (1 < (mget l2570 x2565.Number))) hst rfl c2578 rfl) ?_; intro a hst
                            exact hj _ (hst.keep _ ⟨rfl, rfl, rfl, rfl, rfl, rfl, rfl, rfl, rfl, rfl, rfl, rfl, rfl, trivial⟩)
                          · replace c2578 := Bool.eq_false_iff.2 c2578
                            refine r_t hst (wt_of 39 rfl rfl c2578) rfl (x_move hst rfl) ?_; intro a hst
                            refine r_t hst (wt_of 39 rfl rfl c2578) rfl (x_fieldAddr (j' := 0) hst fa_43_0 rfl rfl) ?_; intro a hst
                            refine r_t hst (wt_of 39 rfl rfl c2578) rfl (x_loadB (i := 1) hst hsh sc_3 rfl rfl rfl) ?_; intro a hst
                            refine r_t hst (wt_of 39 rfl rfl c2578) rfl (x_lookupI (i := 0) hst hsh Try.underlying92 Try.underlying3 Try.underlying3 (fun _ => by kernel_rfl) rfl rfl rfl c2569) ?_; intro a hst
                            refine r_t hst (wt_of 39 rfl rfl c2578) rfl (x_cmpI (b := decide (1 < (mget l2570 x2565.Number))) hst rfl rfl rfl) ?_; intro a hst
                            refine r_t hst trivial rfl (x_orF hst rfl c2578 rfl) ?_; intro a hst
                            exact hj _ (hst.keep _ ⟨rfl, rfl, rfl, rfl, rfl, rfl, rfl, rfl, rfl, rfl, rfl, rfl, rfl, trivial⟩)
                      · rw [if_neg c2569] at H; cases H
                  · rw [if_neg c2530] at H
                    replace c2530 := Bool.eq_false_iff.2 c2530
                    refine wp_condF hst rfl c2530 ?_
                    refine wp_exit ?_
                    refine then_exit ?_
                    refine then_exit ?_
                    refine block_hit ?_
                    refine block_normal ?_
                    refine then_normal ?_
                    exact ⟨l_268, H, hst.keep _ ⟨rfl, rfl, rfl, rfl, rfl, trivial⟩, hsh.pick [0]⟩
          · rw [if_neg c2168] at H
            replace c2168 := Bool.eq_false_iff.2 c2168
            refine wp_condF hst rfl c2168 ?_
            refine wp_exit ?_
            refine then_exit ?_
            refine then_exit ?_
            refine block_hit ?_
            refine then_normal ?_
            refine wp_seq ?_
            refine wp_region_lit ?_
            refine r_t hst trivial rfl (x_assign hst rfl) ?_; intro a hst
            refine wpList_nil ?_
            refine then_normal ?_
            refine wp_ret ?_
            obtain rfl := Option.some.inj H
            exact ret1 hst rfl rfl ⟨rfl, hsh.pick []⟩
  · intro hj
    by_cases c3 : (decide ((a0.length : Int) < 1)) = true
    · refine r_not hst 11 rfl rfl c3 rfl ?_; intro a hst
      refine r_not hst 11 rfl rfl c3 rfl ?_; intro a hst
      refine r_not hst 11 rfl rfl c3 rfl ?_; intro a hst
      refine r_t hst trivial rfl (x_orT (decide (7 < (a0.length : Int))) hst rfl c3 rfl) ?_; intro a hst
      exact hj _ (hst.keep _ ⟨rfl, rfl, rfl, trivial⟩)
    · replace c3 := Bool.eq_false_iff.2 c3
      refine r_t hst (wt_of 11 rfl rfl c3) rfl (x_move hst rfl) ?_; intro a hst
      refine r_t hst (wt_of 11 rfl rfl c3) rfl (x_lenSl hst Try.underlying23 rfl hra0.slen) ?_; intro a hst
      refine r_t hst (wt_of 11 rfl rfl c3) rfl (x_cmpI (b := decide (7 < (a0.length : Int))) hst rfl rfl rfl) ?_; intro a hst
      refine r_t hst trivial rfl (x_orF hst rfl c3 rfl) ?_; intro a hst
      exact hj _ (hst.keep _ ⟨rfl, rfl, rfl, trivial⟩)

set_option maxHeartbeats 4000000 in
set_option maxRecDepth 100000 in
theorem pick_rates.calls (w : World) (a0 : Config) (va0_0 : Value) (Za0_0 : Nat → Prop) (wra0_0 : World) (hsa0_0 : Same Za0_0 wra0_0 w) (hra0_0 : RD (Kd.int .i64) Za0_0 wra0_0 va0_0 a0.Heights) (r : Bool) (h : pick_rates a0 = some r) :
    Calls Try.prog 50 ([.agg #[.int .i64 a0.Block, .int .i64 a0.Mem, .int .i64 a0.Frozen, .int .i64 a0.Shape.Page, .int .i64 a0.Shape.Restart, .int .i64 a0.Shape.Bits, .int .i64 a0.Cut, .int .i64 a0.Files0, .int .i64 a0.Stop0, .int .i64 a0.Base, .int .i64 a0.Ratio, .int .i64 a0.Levels, .int .i64 a0.Chunk, .int .i64 a0.Roll, .int .i64 a0.Clients, va0_0]] : List Value).toArray w fun e w' => e = .returned (.bool r) ∧ SH (fun _ => False) w w' [] := by
  have H := h
  clear h
  unfold pick_rates at H
  refine calls_enter Try.func50 rfl rfl ?_
  intro a hst
  have hsh := SH.zero (fun _ => False) w
  refine wp_seq ?_
  refine wp_region_lit ?_
  refine r_box hst hsh trivial rfl rfl rfl ?_
  intro g1 a w2 hgg1 hsh hst
  refine r_t hst trivial rfl (x_assign hst rfl) ?_; intro a hst
  refine wpList_nil ?_
  refine then_normal ?_
  refine wp_seq ?_
  refine wp_region_lit ?_
  refine r_t hst trivial rfl (x_fieldAddr (j' := 9) hst fa_28_7 rfl rfl) ?_; intro a hst
  refine r_t hst trivial rfl (x_loadB (i := 0) hst hsh sc_3 rfl rfl rfl) ?_; intro a hst
  refine r_t hst trivial rfl (x_cmpI (b := decide (1 ≤ a0.Base)) hst rfl rfl rfl) ?_; intro a hst
  refine r_t hst trivial rfl (x_move hst rfl) ?_; intro a hst
  refine wl_join0 (N := Try.f50.ntmps) 8 [(1, .pointer (some ⟨g1, 0, none⟩)), (2, .bool false), (10, .bool ((decide (1 ≤ a0.Base)) && (decide (a0.Base ≤ 268435456))))] ?_ ?_
  · intro a hst
    refine r_t hst trivial rfl (x_move hst rfl) ?_; intro a hst
    refine wl_join0 (N := Try.f50.ntmps) 13 [(1, .pointer (some ⟨g1, 0, none⟩)), (2, .bool false), (15, .bool (((decide (1 ≤ a0.Base)) && (decide (a0.Base ≤ 268435456))) && (decide (2 ≤ a0.Ratio))))] ?_ ?_
    · intro a hst
      refine r_t hst trivial rfl (x_move hst rfl) ?_; intro a hst
      refine wl_join0 (N := Try.f50.ntmps) 18 [(2, .bool false), (20, .bool ((((decide (1 ≤ a0.Base)) && (decide (a0.Base ≤ 268435456))) && (decide (2 ≤ a0.Ratio))) && (decide (a0.Ratio ≤ 100))))] ?_ ?_
      · intro a hst
        refine r_t hst trivial rfl (x_assign hst rfl) ?_; intro a hst
        refine wpList_nil ?_
        refine then_normal ?_
        refine wp_ret ?_
        obtain rfl := Option.some.inj H
        exact ret1 hst rfl rfl ⟨rfl, hsh.pick []⟩
      · intro hj
        by_cases c5 : (((decide (1 ≤ a0.Base)) && (decide (a0.Base ≤ 268435456))) && (decide (2 ≤ a0.Ratio))) = true
        · refine r_t hst (wt_of 16 rfl rfl c5) rfl (x_fieldAddr (j' := 10) hst fa_28_8 rfl rfl) ?_; intro a hst
          refine r_t hst (wt_of 16 rfl rfl c5) rfl (x_loadB (i := 0) hst hsh sc_3 rfl rfl rfl) ?_; intro a hst
          refine r_t hst (wt_of 16 rfl rfl c5) rfl (x_cmpI (b := decide (a0.Ratio ≤ 100)) hst rfl rfl rfl) ?_; intro a hst
          refine r_t hst trivial rfl (x_andT hst rfl c5 rfl) ?_; intro a hst
          exact hj _ (hst.keep _ ⟨rfl, rfl, trivial⟩)
        · replace c5 := Bool.eq_false_iff.2 c5
          refine r_not hst 16 rfl rfl c5 rfl ?_; intro a hst
          refine r_not hst 16 rfl rfl c5 rfl ?_; intro a hst
          refine r_not hst 16 rfl rfl c5 rfl ?_; intro a hst
          refine r_t hst trivial rfl (x_andF (decide (a0.Ratio ≤ 100)) hst rfl c5 rfl) ?_; intro a hst
          exact hj _ (hst.keep _ ⟨rfl, rfl, trivial⟩)
    · intro hj
      by_cases c4 : ((decide (1 ≤ a0.Base)) && (decide (a0.Base ≤ 268435456))) = true
      · refine r_t hst (wt_of 11 rfl rfl c4) rfl (x_fieldAddr (j' := 10) hst fa_28_8 rfl rfl) ?_; intro a hst
        refine r_t hst (wt_of 11 rfl rfl c4) rfl (x_loadB (i := 0) hst hsh sc_3 rfl rfl rfl) ?_; intro a hst
        refine r_t hst (wt_of 11 rfl rfl c4) rfl (x_cmpI (b := decide (2 ≤ a0.Ratio)) hst rfl rfl rfl) ?_; intro a hst
        refine r_t hst trivial rfl (x_andT hst rfl c4 rfl) ?_; intro a hst
        exact hj _ (hst.keep _ ⟨rfl, rfl, rfl, trivial⟩)
      · replace c4 := Bool.eq_false_iff.2 c4
        refine r_not hst 11 rfl rfl c4 rfl ?_; intro a hst
        refine r_not hst 11 rfl rfl c4 rfl ?_; intro a hst
        refine r_not hst 11 rfl rfl c4 rfl ?_; intro a hst
        refine r_t hst trivial rfl (x_andF (decide (2 ≤ a0.Ratio)) hst rfl c4 rfl) ?_; intro a hst
        exact hj _ (hst.keep _ ⟨rfl, rfl, rfl, trivial⟩)
  · intro hj
    by_cases c3 : (decide (1 ≤ a0.Base)) = true
    · refine r_t hst (wt_of 6 rfl rfl c3) rfl (x_fieldAddr (j' := 9) hst fa_28_7 rfl rfl) ?_; intro a hst
      refine r_t hst (wt_of 6 rfl rfl c3) rfl (x_loadB (i := 0) hst hsh sc_3 rfl rfl rfl) ?_; intro a hst
      refine r_t hst (wt_of 6 rfl rfl c3) rfl (x_cmpI (b := decide (a0.Base ≤ 268435456)) hst rfl rfl rfl) ?_; intro a hst
      refine r_t hst trivial rfl (x_andT hst rfl c3 rfl) ?_; intro a hst
      exact hj _ (hst.keep _ ⟨rfl, rfl, rfl, trivial⟩)
    · replace c3 := Bool.eq_false_iff.2 c3
      refine r_not hst 6 rfl rfl c3 rfl ?_; intro a hst
      refine r_not hst 6 rfl rfl c3 rfl ?_; intro a hst
      refine r_not hst 6 rfl rfl c3 rfl ?_; intro a hst
      refine r_t hst trivial rfl (x_andF (decide (a0.Base ≤ 268435456)) hst rfl c3 rfl) ?_; intro a hst
      exact hj _ (hst.keep _ ⟨rfl, rfl, rfl, trivial⟩)

set_option maxHeartbeats 4000000 in
set_option maxRecDepth 100000 in
theorem pick_may.calls (k : Nat) (w : World) (va0 : Value) (Za0 : Nat → Prop) (wra0 : World) (hsa0 : Same Za0 wra0 w) (a0 : (List (List File))) (hra0 : RD (Kd.slice 43 k_File) Za0 wra0 va0 a0) (a1 : Config) (va1_0 : Value) (Za1_0 : Nat → Prop) (wra1_0 : World) (hsa1_0 : Same Za1_0 wra1_0 w) (hra1_0 : RD (Kd.int .i64) Za1_0 wra1_0 va1_0 a1.Heights) (r : Bool) (h : pick_may k a0 a1 = some r) :
    Calls Try.prog 22 ([va0, .agg #[.int .i64 a1.Block, .int .i64 a1.Mem, .int .i64 a1.Frozen, .int .i64 a1.Shape.Page, .int .i64 a1.Shape.Restart, .int .i64 a1.Shape.Bits, .int .i64 a1.Cut, .int .i64 a1.Files0, .int .i64 a1.Stop0, .int .i64 a1.Base, .int .i64 a1.Ratio, .int .i64 a1.Levels, .int .i64 a1.Chunk, .int .i64 a1.Roll, .int .i64 a1.Clients, va1_0]] : List Value).toArray w fun e w' => e = .returned (.bool r) ∧ SH (fun _ => False) w w' [] := by
  have H := h
  clear h
  unfold pick_may at H
  refine calls_enter Try.func22 rfl rfl ?_
  intro a hst
  have hsh := SH.zero (fun _ => False) w
  refine wp_seq ?_
  refine wp_region_lit ?_
  refine r_box hst hsh trivial rfl rfl rfl ?_
  intro g1 a w2 hgg1 hsh hst
  refine r_t hst trivial rfl (x_assign hst rfl) ?_; intro a hst
  refine wpList_nil ?_
  refine then_normal ?_
  refine wp_seq ?_
  refine wp_region_lit ?_
  refine r_t hst trivial rfl (x_move hst rfl) ?_; intro a hst
  obtain ⟨r3, hr3, H⟩ := Option.bind_eq_some_iff.1 H
  refine r_callD hst trivial rfl fn_39 rfl (version_Valid.calls k _ _ _ _ (Same.sh0 hsa0 hsh) _ hra0 r3 hr3) ?_
  rintro e w4 ⟨rfl, hc⟩
  replace hsh := hsh.call0 hc
  clear hc
  refine ⟨_, rfl, fun a hst => ?_⟩
  refine r_t hst trivial rfl (x_move hst rfl) ?_; intro a hst
  refine wl_join0 (N := Try.f22.ntmps) 9 [(3, .pointer (some ⟨g1, 0, none⟩)), (4, .bool false), (13, .bool (r3 && (a1.Levels == (a0.length : Int))))] ?_ ?_
  · intro a hst
    refine r_t hst trivial rfl (x_move hst rfl) ?_; intro a hst
    refine wl_join0 (N := Try.f22.ntmps) 14 [(3, .pointer (some ⟨g1, 0, none⟩)), (4, .bool false), (18, .bool ((r3 && (a1.Levels == (a0.length : Int))) && (decide (2 ≤ a1.Levels))))] ?_ ?_
    · intro a hst
      refine r_t hst trivial rfl (x_move hst rfl) ?_; intro a hst
      refine wl_join0 (N := Try.f22.ntmps) 19 [(3, .pointer (some ⟨g1, 0, none⟩)), (4, .bool false), (23, .bool (((r3 && (a1.Levels == (a0.length : Int))) && (decide (2 ≤ a1.Levels))) && (decide (1 ≤ a1.Files0))))] ?_ ?_
      · intro a hst
        refine r_t hst trivial rfl (x_move hst rfl) ?_; intro a hst
        refine wl_join0 (N := Try.f22.ntmps) 24 [(3, .pointer (some ⟨g1, 0, none⟩)), (4, .bool false), (28, .bool ((((r3 && (a1.Levels == (a0.length : Int))) && (decide (2 ≤ a1.Levels))) && (decide (1 ≤ a1.Files0))) && (decide (1 ≤ a1.Cut))))] ?_ ?_
        · intro a hst
          refine r_t hst trivial rfl (x_move hst rfl) ?_; intro a hst
          obtain ⟨J_2, hJ_2, H⟩ := Jn.elim H
          refine wl_join 28 (fun a w' => ∃ (b_1 : Bool), J_2 b_1 = some r ∧ ST Try.f22.ntmps a [(4, .bool false), (32, .bool b_1)] ∧ SH (fun _ => False) w w' []) ?_ ?_
          · rintro a W_3 ⟨b_1, H, hst, hsh⟩
            subst hJ_2
            dsimp only at H
            refine r_t hst trivial rfl (x_assign hst rfl) ?_; intro a hst
            refine wpList_nil ?_
            refine then_normal ?_
            refine wp_ret ?_
            obtain rfl := Option.some.inj H
            exact ret1 hst rfl rfl ⟨rfl, hsh.pick []⟩
          · intro hj
            by_cases c9 : ((((r3 && (a1.Levels == (a0.length : Int))) && (decide (2 ≤ a1.Levels))) && (decide (1 ≤ a1.Files0))) && (decide (1 ≤ a1.Cut))) = true
            · rw [if_pos c9] at H
              refine r_t hst (wt_of 29 rfl rfl c9) rfl (x_loadBs (i := 0) (ps := [.int .i64 a1.Block, .int .i64 a1.Mem, .int .i64 a1.Frozen, .int .i64 a1.Shape.Page, .int .i64 a1.Shape.Restart, .int .i64 a1.Shape.Bits, .int .i64 a1.Cut, .int .i64 a1.Files0, .int .i64 a1.Stop0, .int .i64 a1.Base, .int .i64 a1.Ratio, .int .i64 a1.Levels, .int .i64 a1.Chunk, .int .i64 a1.Roll, .int .i64 a1.Clients, va1_0]) hst hsh ag_28 rfl rfl rfl) ?_; intro a hst
              obtain ⟨r12, hr12, H⟩ := Option.bind_eq_some_iff.1 H
              refine r_callD hst (wt_of 29 rfl rfl c9) rfl fn_50 rfl (pick_rates.calls _ a1 _ _ _ (Same.sh0 hsa1_0 hsh) hra1_0 r12 hr12) ?_
              rintro e w13 ⟨rfl, hc⟩
              replace hsh := hsh.call0 hc
              clear hc
              refine ⟨_, rfl, fun a hst => ?_⟩
              refine r_t hst trivial rfl (x_pickT hst rfl c9 rfl) ?_; intro a hst
              exact hj _ _ ⟨r12, H, hst.keep _ ⟨rfl, rfl, trivial⟩, hsh.pick []⟩
            · rw [if_neg c9] at H
              replace c9 := Bool.eq_false_iff.2 c9
              refine r_not hst 29 rfl rfl c9 rfl ?_; intro a hst
              refine r_not hst 29 rfl rfl c9 rfl ?_; intro a hst
              refine r_t hst trivial rfl (x_pickF hst rfl c9 rfl) ?_; intro a hst
              exact hj _ _ ⟨false, H, hst.keep _ ⟨rfl, rfl, trivial⟩, hsh.pick []⟩
        · intro hj
          by_cases c8 : (((r3 && (a1.Levels == (a0.length : Int))) && (decide (2 ≤ a1.Levels))) && (decide (1 ≤ a1.Files0))) = true
          · refine r_t hst (wt_of 24 rfl rfl c8) rfl (x_fieldAddr (j' := 6) hst fa_28_4 rfl rfl) ?_; intro a hst
            refine r_t hst (wt_of 24 rfl rfl c8) rfl (x_loadB (i := 0) hst hsh sc_3 rfl rfl rfl) ?_; intro a hst
            refine r_t hst (wt_of 24 rfl rfl c8) rfl (x_cmpI (b := decide (1 ≤ a1.Cut)) hst rfl rfl rfl) ?_; intro a hst
            refine r_t hst trivial rfl (x_andT hst rfl c8 rfl) ?_; intro a hst
            exact hj _ (hst.keep _ ⟨rfl, rfl, rfl, trivial⟩)
          · replace c8 := Bool.eq_false_iff.2 c8
            refine r_not hst 24 rfl rfl c8 rfl ?_; intro a hst
            refine r_not hst 24 rfl rfl c8 rfl ?_; intro a hst
            refine r_not hst 24 rfl rfl c8 rfl ?_; intro a hst
            refine r_t hst trivial rfl (x_andF (decide (1 ≤ a1.Cut)) hst rfl c8 rfl) ?_; intro a hst
            exact hj _ (hst.keep _ ⟨rfl, rfl, rfl, trivial⟩)
      · intro hj
        by_cases c7 : ((r3 && (a1.Levels == (a0.length : Int))) && (decide (2 ≤ a1.Levels))) = true
        · refine r_t hst (wt_of 19 rfl rfl c7) rfl (x_fieldAddr (j' := 7) hst fa_28_5 rfl rfl) ?_; intro a hst
          refine r_t hst (wt_of 19 rfl rfl c7) rfl (x_loadB (i := 0) hst hsh sc_3 rfl rfl rfl) ?_; intro a hst
          refine r_t hst (wt_of 19 rfl rfl c7) rfl (x_cmpI (b := decide (1 ≤ a1.Files0)) hst rfl rfl rfl) ?_; intro a hst
          refine r_t hst trivial rfl (x_andT hst rfl c7 rfl) ?_; intro a hst
          exact hj _ (hst.keep _ ⟨rfl, rfl, rfl, trivial⟩)
        · replace c7 := Bool.eq_false_iff.2 c7
          refine r_not hst 19 rfl rfl c7 rfl ?_; intro a hst
          refine r_not hst 19 rfl rfl c7 rfl ?_; intro a hst
          refine r_not hst 19 rfl rfl c7 rfl ?_; intro a hst
          refine r_t hst trivial rfl (x_andF (decide (1 ≤ a1.Files0)) hst rfl c7 rfl) ?_; intro a hst
          exact hj _ (hst.keep _ ⟨rfl, rfl, rfl, trivial⟩)
    · intro hj
      by_cases c6 : (r3 && (a1.Levels == (a0.length : Int))) = true
      · refine r_t hst (wt_of 14 rfl rfl c6) rfl (x_fieldAddr (j' := 11) hst fa_28_9 rfl rfl) ?_; intro a hst
        refine r_t hst (wt_of 14 rfl rfl c6) rfl (x_loadB (i := 0) hst hsh sc_3 rfl rfl rfl) ?_; intro a hst
        refine r_t hst (wt_of 14 rfl rfl c6) rfl (x_cmpI (b := decide (2 ≤ a1.Levels)) hst rfl rfl rfl) ?_; intro a hst
        refine r_t hst trivial rfl (x_andT hst rfl c6 rfl) ?_; intro a hst
        exact hj _ (hst.keep _ ⟨rfl, rfl, rfl, trivial⟩)
      · replace c6 := Bool.eq_false_iff.2 c6
        refine r_not hst 14 rfl rfl c6 rfl ?_; intro a hst
        refine r_not hst 14 rfl rfl c6 rfl ?_; intro a hst
        refine r_not hst 14 rfl rfl c6 rfl ?_; intro a hst
        refine r_t hst trivial rfl (x_andF (decide (2 ≤ a1.Levels)) hst rfl c6 rfl) ?_; intro a hst
        exact hj _ (hst.keep _ ⟨rfl, rfl, rfl, trivial⟩)
  · intro hj
    by_cases c5 : r3 = true
    · refine r_t hst (wt_of 7 rfl rfl c5) rfl (x_fieldAddr (j' := 11) hst fa_28_9 rfl rfl) ?_; intro a hst
      refine r_t hst (wt_of 7 rfl rfl c5) rfl (x_loadB (i := 0) hst hsh sc_3 rfl rfl rfl) ?_; intro a hst
      refine r_t hst (wt_of 7 rfl rfl c5) rfl (x_move hst rfl) ?_; intro a hst
      refine r_t hst (wt_of 7 rfl rfl c5) rfl (x_lenSl hst Try.underlying23 rfl hra0.slen) ?_; intro a hst
      refine r_t hst (wt_of 7 rfl rfl c5) rfl (x_cmpI (b := (a1.Levels == (a0.length : Int))) hst rfl rfl rfl) ?_; intro a hst
      refine r_t hst trivial rfl (x_andT hst rfl c5 rfl) ?_; intro a hst
      exact hj _ (hst.keep _ ⟨rfl, rfl, rfl, trivial⟩)
    · replace c5 := Bool.eq_false_iff.2 c5
      refine r_not hst 7 rfl rfl c5 rfl ?_; intro a hst
      refine r_not hst 7 rfl rfl c5 rfl ?_; intro a hst
      refine r_not hst 7 rfl rfl c5 rfl ?_; intro a hst
      refine r_not hst 7 rfl rfl c5 rfl ?_; intro a hst
      refine r_not hst 7 rfl rfl c5 rfl ?_; intro a hst
      refine r_t hst trivial rfl (x_andF (a1.Levels == (a0.length : Int)) hst rfl c5 rfl) ?_; intro a hst
      exact hj _ (hst.keep _ ⟨rfl, rfl, rfl, trivial⟩)

set_option maxHeartbeats 4000000 in
set_option maxRecDepth 100000 in
theorem version_of.calls (k : Nat) (w : World) (va0 : Value) (Za0 : Nat → Prop) (wra0 : World) (hsa0 : Same Za0 wra0 w) (a0 : (List (List File))) (hra0 : RD (Kd.slice 43 k_File) Za0 wra0 va0 a0) (a1 : Int) (r : (List File)) (h : version_of k a0 a1 = some r) :
    Calls Try.prog 47 ([va0, .int .i64 a1] : List Value).toArray w fun e w' => ∃ v0_ : Value, e = .returned (v0_) ∧ SH (fun _ => False) w w' [] ∧ RD k_File Za0 wra0 v0_ r := by
  have H := h
  clear h
  unfold version_of at H
  refine calls_enter Try.func47 rfl rfl ?_
  intro a hst
  have hsh := SH.zero (fun _ => False) w
  refine wp_seq ?_
  refine wp_region_lit ?_
  refine r_t hst trivial rfl (x_assign hst rfl) ?_; intro a hst
  refine wpList_nil ?_
  refine then_normal ?_
  refine wp_seq ?_
  refine wp_seq ?_
  refine wp_region_lit ?_
  refine r_t hst trivial rfl (x_move hst rfl) ?_; intro a hst
  obtain ⟨r6, hr6, H⟩ := Option.bind_eq_some_iff.1 H
  refine r_callD hst trivial rfl fn_39 rfl (version_Valid.calls k _ _ _ _ (Same.sh0 hsa0 hsh) _ hra0 r6 hr6) ?_
  rintro e w7 ⟨rfl, hc⟩
  replace hsh := hsh.call0 hc
  clear hc
  refine ⟨_, rfl, fun a hst => ?_⟩
  refine r_t hst trivial rfl (x_notB hst rfl) ?_; intro a hst
  refine r_t hst trivial rfl (x_move hst rfl) ?_; intro a hst
  refine wl_join0 (N := Try.f47.ntmps) 7 [(0, va0), (1, .int .i64 a1), (4, (.slice none 0 0)), (11, .bool ((!r6) || (decide (a1 < 0))))] ?_ ?_
  · intro a hst
    refine r_t hst trivial rfl (x_move hst rfl) ?_; intro a hst
    refine wl_join0 (N := Try.f47.ntmps) 13 [(0, va0), (1, .int .i64 a1), (4, (.slice none 0 0)), (17, .bool (((!r6) || (decide (a1 < 0))) || (decide ((a0.length : Int) ≤ a1))))] ?_ ?_
    · intro a hst
      refine wpList_nil ?_
      refine then_normal ?_
      by_cases c10 : (((!r6) || (decide (a1 < 0))) || (decide ((a0.length : Int) ≤ a1))) = true
      · rw [if_pos c10] at H
        refine wp_condT hst rfl c10 ?_
        refine wp_seq ?_
        refine wp_region_lit ?_
        refine r_t hst trivial rfl (x_assign hst rfl) ?_; intro a hst
        refine wpList_nil ?_
        refine then_normal ?_
        refine wp_ret ?_
        refine then_ret ?_
        obtain rfl := Option.some.inj H
        exact ret1 hst rfl rfl ⟨(.slice none 0 0), rfl, hsh.pick [], (RD.nil _ _ _)⟩
      · rw [if_neg c10] at H
        replace c10 := Bool.eq_false_iff.2 c10
        refine wp_condF hst rfl c10 ?_
        refine wp_skip ?_
        refine then_normal ?_
        refine wp_seq ?_
        refine wp_region_lit ?_
        refine r_t hst trivial rfl (x_move hst rfl) ?_; intro a hst
        refine r_t hst trivial rfl (x_move hst rfl) ?_; intro a hst
        obtain ⟨x11, hx11, H⟩ := Option.bind_eq_some_iff.1 H
        refine r_t hst trivial rfl (x_indexAddr hst Try.underlying23 el_31 rfl rfl hra0 hx11) ?_; intro a hst
        obtain ⟨_, hk12, hc13⟩ := RD.cells2 hra0 hx11
        obtain ⟨v14, rfl, hr15⟩ := hk12
        refine r_t hst trivial rfl (x_loadC hst sc_31 rfl (hc13 _ (Same.sh0 hsa0 hsh) 0 _ rfl)) ?_; intro a hst
        refine r_t hst trivial rfl (x_assign hst rfl) ?_; intro a hst
        refine wpList_nil ?_
        refine then_normal ?_
        refine wp_ret ?_
        obtain rfl := Option.some.inj H
        exact ret1 hst rfl rfl ⟨v14, rfl, hsh.pick [], hr15⟩
    · intro hj
      by_cases c9 : ((!r6) || (decide (a1 < 0))) = true
      · refine r_not hst 12 rfl rfl c9 rfl ?_; intro a hst
        refine r_not hst 12 rfl rfl c9 rfl ?_; intro a hst
        refine r_not hst 12 rfl rfl c9 rfl ?_; intro a hst
        refine r_not hst 12 rfl rfl c9 rfl ?_; intro a hst
        refine r_t hst trivial rfl (x_orT (decide ((a0.length : Int) ≤ a1)) hst rfl c9 rfl) ?_; intro a hst
        exact hj _ (hst.keep _ ⟨rfl, rfl, rfl, rfl, trivial⟩)
      · replace c9 := Bool.eq_false_iff.2 c9
        refine r_t hst (wt_of 12 rfl rfl c9) rfl (x_move hst rfl) ?_; intro a hst
        refine r_t hst (wt_of 12 rfl rfl c9) rfl (x_move hst rfl) ?_; intro a hst
        refine r_t hst (wt_of 12 rfl rfl c9) rfl (x_lenSl hst Try.underlying23 rfl hra0.slen) ?_; intro a hst
        refine r_t hst (wt_of 12 rfl rfl c9) rfl (x_cmpI (b := decide ((a0.length : Int) ≤ a1)) hst rfl rfl rfl) ?_; intro a hst
        refine r_t hst trivial rfl (x_orF hst rfl c9 rfl) ?_; intro a hst
        exact hj _ (hst.keep _ ⟨rfl, rfl, rfl, rfl, trivial⟩)
  · intro hj
    by_cases c8 : (!r6) = true
    · refine r_not hst 8 rfl rfl c8 rfl ?_; intro a hst
      refine r_not hst 8 rfl rfl c8 rfl ?_; intro a hst
      refine r_t hst trivial rfl (x_orT (decide (a1 < 0)) hst rfl c8 rfl) ?_; intro a hst
      exact hj _ (hst.keep _ ⟨rfl, rfl, rfl, rfl, trivial⟩)
    · replace c8 := Bool.eq_false_iff.2 c8
      refine r_t hst (wt_of 8 rfl rfl c8) rfl (x_move hst rfl) ?_; intro a hst
      refine r_t hst (wt_of 8 rfl rfl c8) rfl (x_cmpI (b := decide (a1 < 0)) hst rfl rfl rfl) ?_; intro a hst
      refine r_t hst trivial rfl (x_orF hst rfl c8 rfl) ?_; intro a hst
      exact hj _ (hst.keep _ ⟨rfl, rfl, rfl, rfl, trivial⟩)

set_option maxHeartbeats 4000000 in
set_option maxRecDepth 100000 in
theorem version_Size.calls (k : Nat) (w : World) (va0 : Value) (Za0 : Nat → Prop) (wra0 : World) (hsa0 : Same Za0 wra0 w) (a0 : (List (List File))) (hra0 : RD (Kd.slice 43 k_File) Za0 wra0 va0 a0) (a1 : Int) (r : Int) (h : version_Size k a0 a1 = some r) :
    Calls Try.prog 37 ([va0, .int .i64 a1] : List Value).toArray w fun e w' => e = .returned (.int .i64 r) ∧ SH (fun _ => False) w w' [] := by
  have H := h
  clear h
  unfold version_Size at H
  refine calls_enter Try.func37 rfl rfl ?_
  intro a hst
  have hsh := SH.zero (fun _ => False) w
  refine wp_seq ?_
  refine wp_region_lit ?_
  refine r_t hst trivial rfl (x_assign hst rfl) ?_; intro a hst
  refine wpList_nil ?_
  refine then_normal ?_
  refine wp_seq ?_
  refine wp_region_lit ?_
  refine r_t hst trivial rfl (x_assign hst rfl) ?_; intro a hst
  refine wpList_nil ?_
  refine then_normal ?_
  refine wp_seq ?_
  refine wp_seq ?_
  refine wp_region_lit ?_
  refine r_t hst trivial rfl (x_move hst rfl) ?_; intro a hst
  refine r_t hst trivial rfl (x_move hst rfl) ?_; intro a hst
  obtain ⟨r35, hr35, H⟩ := Option.bind_eq_some_iff.1 H
  refine r_callD hst trivial rfl fn_47 rfl (version_of.calls k _ _ _ _ (Same.sh0 hsa0 hsh) _ hra0 a1 r35 hr35) ?_
  rintro e w36 ⟨v37, rfl, hc, hv38⟩
  replace hsh := hsh.call0 hc
  clear hc
  refine ⟨_, rfl, fun a hst => ?_⟩
  refine r_t hst trivial rfl (x_lenSl hst Try.underlying31 rfl hv38.slen) ?_; intro a hst
  refine r_t hst trivial rfl (x_move hst rfl) ?_; intro a hst
  refine wpList_nil ?_
  refine then_normal ?_
  refine wp_block ?_
  refine wp_loop_fuel (fun k_22 a w' => ∃ (i_16 : Int), ∃ (i_17 : Int), version_Size.l0 r35 k_22 i_16 i_17 = some r ∧ ST Try.f37.ntmps a [(4, .int .i64 0), (5, .int .i64 i_16), (10, v37), (11, .int .i64 (r35.length : Int)), (12, .int .i64 i_17)] ∧ SH (fun _ => False) w w' []) k ?_ ?_
  · exact ⟨0, 0, H, hst.keep _ ⟨rfl, rfl, rfl, rfl, rfl, trivial⟩, hsh.pick []⟩
  · rintro k_22 a W_18 ⟨i_16, i_17, H, hst, hsh⟩
    cases k_22 with
    | zero => rw [version_Size.l0] at H; cases H
    | succ k_22 =>
      rw [version_Size.l0] at H
      refine wp_seq ?_
      refine wp_region_lit ?_
      refine r_t hst trivial rfl (x_cmpI (b := decide (i_17 < (r35.length : Int))) hst rfl rfl rfl) ?_; intro a hst
      refine wpList_nil ?_
      refine then_normal ?_
      refine wp_seq ?_
      by_cases c60 : (decide (i_17 < (r35.length : Int))) = true
      · rw [if_pos c60] at H
        refine wp_condT hst rfl c60 ?_
        refine wp_skip ?_
        refine then_normal ?_
        refine wp_seq ?_
        refine wp_block ?_
        refine wp_seq ?_
        refine wp_region_lit ?_
        obtain ⟨x65, hx65, H⟩ := Option.bind_eq_some_iff.1 H
        refine r_t hst trivial rfl (x_indexAddr hst Try.underlying31 el_43 rfl rfl hv38 hx65) ?_; intro a hst
        refine r_t hst trivial rfl (x_loadEsF (j := 0) (cs := [.int .i64 x65.Number, .int .i64 x65.Size, .string x65.Least, .string x65.Limit, .int .u64 x65.Low, .int .u64 x65.High]) (ps := [.int .i64 x65.Number, .int .i64 x65.Size, .string x65.Least, .string x65.Limit, .int .u64 x65.Low, .int .u64 x65.High]) hst ag_43 rfl hv38 (Same.sh0 hsa0 hsh) hx65 rfl (fun _ h => h) rfl) ?_; intro a hst
        refine r_alloc hst hsh trivial rfl zr_43 ?_
        intro g66 a w67 hgg66 hsh hst
        refine r_storeBs (i := 0) (cs' := [.int .i64 x65.Number, .int .i64 x65.Size, .string x65.Least, .string x65.Limit, .int .u64 x65.Low, .int .u64 x65.High]) (vs := [.int .i64 x65.Number, .int .i64 x65.Size, .string x65.Least, .string x65.Limit, .int .u64 x65.Low, .int .u64 x65.High]) hst hsh trivial ag_43 rfl rfl rfl rfl rfl rfl ?_; intro a w68 hsh hst
        refine wpList_nil ?_
        refine then_normal ?_
        refine wp_region_lit ?_
        refine r_t hst trivial rfl (x_move hst rfl) ?_; intro a hst
        refine r_t hst trivial rfl (x_fieldAddr (j' := 1) hst fa_43_1 rfl rfl) ?_; intro a hst
        refine r_t hst trivial rfl (x_loadB (i := 0) hst hsh sc_3 rfl rfl rfl) ?_; intro a hst
        refine r_t hst trivial rfl (x_arI (r := w64 (i_16 + x65.Size)) hst rfl rfl rfl) ?_; intro a hst
        refine r_t hst trivial rfl (x_assign hst rfl) ?_; intro a hst
        refine wpList_nil ?_
        refine block_normal ?_
        refine then_normal ?_
        refine wp_region_lit ?_
        refine r_t hst trivial rfl (x_arI (r := w64 (i_17 + 1)) hst rfl rfl rfl) ?_; intro a hst
        refine r_t hst trivial rfl (x_move hst rfl) ?_; intro a hst
        refine wpList_nil ?_
        refine then_normal ?_
        exact ⟨k_22, Nat.lt_succ_self _, (w64 (i_16 + x65.Size)), (w64 (i_17 + 1)), H, hst.keep _ ⟨rfl, rfl, rfl, rfl, rfl, trivial⟩, hsh.pick []⟩
      · rw [if_neg c60] at H
        replace c60 := Bool.eq_false_iff.2 c60
        refine wp_condF hst rfl c60 ?_
        refine wp_exit ?_
        refine then_exit ?_
        refine then_exit ?_
        refine block_hit ?_
        refine then_normal ?_
        refine wp_seq ?_
        refine wp_region_lit ?_
        refine r_t hst trivial rfl (x_move hst rfl) ?_; intro a hst
        refine r_t hst trivial rfl (x_assign hst rfl) ?_; intro a hst
        refine wpList_nil ?_
        refine then_normal ?_
        refine wp_ret ?_
        obtain rfl := Option.some.inj H
        exact ret1 hst rfl rfl ⟨rfl, hsh.pick []⟩

set_option maxHeartbeats 4000000 in
set_option maxRecDepth 100000 in
theorem pick_Bears.calls (k : Nat) (w : World) (a0 : Config) (va0_0 : Value) (Za0_0 : Nat → Prop) (wra0_0 : World) (hsa0_0 : Same Za0_0 wra0_0 w) (hra0_0 : RD (Kd.int .i64) Za0_0 wra0_0 va0_0 a0.Heights) (a1 : Int) (r : Int) (h : pick_Bears k a0 a1 = some r) :
    Calls Try.prog 38 ([.agg #[.int .i64 a0.Block, .int .i64 a0.Mem, .int .i64 a0.Frozen, .int .i64 a0.Shape.Page, .int .i64 a0.Shape.Restart, .int .i64 a0.Shape.Bits, .int .i64 a0.Cut, .int .i64 a0.Files0, .int .i64 a0.Stop0, .int .i64 a0.Base, .int .i64 a0.Ratio, .int .i64 a0.Levels, .int .i64 a0.Chunk, .int .i64 a0.Roll, .int .i64 a0.Clients, va0_0], .int .i64 a1] : List Value).toArray w fun e w' => e = .returned (.int .i64 r) ∧ SH (fun _ => False) w w' [] := by
  have H := h
  clear h
  unfold pick_Bears at H
  refine calls_enter Try.func38 rfl rfl ?_
  intro a hst
  have hsh := SH.zero (fun _ => False) w
  refine wp_seq ?_
  refine wp_region_lit ?_
  refine r_box hst hsh trivial rfl rfl rfl ?_
  intro g1 a w2 hgg1 hsh hst
  refine r_t hst trivial rfl (x_assign hst rfl) ?_; intro a hst
  refine wpList_nil ?_
  refine then_normal ?_
  refine wp_seq ?_
  refine wp_seq ?_
  refine wp_region_lit ?_
  refine r_t hst trivial rfl (x_loadBs (i := 0) (ps := [.int .i64 a0.Block, .int .i64 a0.Mem, .int .i64 a0.Frozen, .int .i64 a0.Shape.Page, .int .i64 a0.Shape.Restart, .int .i64 a0.Shape.Bits, .int .i64 a0.Cut, .int .i64 a0.Files0, .int .i64 a0.Stop0, .int .i64 a0.Base, .int .i64 a0.Ratio, .int .i64 a0.Levels, .int .i64 a0.Chunk, .int .i64 a0.Roll, .int .i64 a0.Clients, va0_0]) hst hsh ag_28 rfl rfl rfl) ?_; intro a hst
  obtain ⟨r8, hr8, H⟩ := Option.bind_eq_some_iff.1 H
  refine r_callD hst trivial rfl fn_50 rfl (pick_rates.calls _ a0 _ _ _ (Same.sh0 hsa0_0 hsh) hra0_0 r8 hr8) ?_
  rintro e w9 ⟨rfl, hc⟩
  replace hsh := hsh.call0 hc
  clear hc
  refine ⟨_, rfl, fun a hst => ?_⟩
  refine r_t hst trivial rfl (x_notB hst rfl) ?_; intro a hst
  refine r_t hst trivial rfl (x_move hst rfl) ?_; intro a hst
  refine wl_join0 (N := Try.f38.ntmps) 7 [(1, .int .i64 a1), (2, .pointer (some ⟨g1, 0, none⟩)), (4, .int .i64 0), (12, .bool ((!r8) || (decide (a1 < 1))))] ?_ ?_
  · intro a hst
    refine r_t hst trivial rfl (x_move hst rfl) ?_; intro a hst
    refine wl_join0 (N := Try.f38.ntmps) 11 [(1, .int .i64 a1), (2, .pointer (some ⟨g1, 0, none⟩)), (4, .int .i64 0), (16, .bool (((!r8) || (decide (a1 < 1))) || (decide (6 < a1))))] ?_ ?_
    · intro a hst
      refine wpList_nil ?_
      refine then_normal ?_
      by_cases c12 : (((!r8) || (decide (a1 < 1))) || (decide (6 < a1))) = true
      · rw [if_pos c12] at H
        refine wp_condT hst rfl c12 ?_
        refine wp_seq ?_
        refine wp_region_lit ?_
        refine r_t hst trivial rfl (x_assign hst rfl) ?_; intro a hst
        refine wpList_nil ?_
        refine then_normal ?_
        refine wp_ret ?_
        refine then_ret ?_
        obtain rfl := Option.some.inj H
        exact ret1 hst rfl rfl ⟨rfl, hsh.pick []⟩
      · rw [if_neg c12] at H
        replace c12 := Bool.eq_false_iff.2 c12
        refine wp_condF hst rfl c12 ?_
        refine wp_skip ?_
        refine then_normal ?_
        refine wp_seq ?_
        refine wp_region_lit ?_
        refine r_t hst trivial rfl (x_fieldAddr (j' := 9) hst fa_28_7 rfl rfl) ?_; intro a hst
        refine r_t hst trivial rfl (x_loadB (i := 0) hst hsh sc_3 rfl rfl rfl) ?_; intro a hst
        refine r_t hst trivial rfl (x_assign hst rfl) ?_; intro a hst
        refine wpList_nil ?_
        refine then_normal ?_
        refine wp_seq ?_
        refine wp_seq ?_
        refine wp_region_lit ?_
        refine r_t hst trivial rfl (x_move hst rfl) ?_; intro a hst
        refine r_t hst trivial rfl (x_arI (r := w64 (a1 - 1)) hst rfl rfl rfl) ?_; intro a hst
        refine r_t hst trivial rfl (x_move hst rfl) ?_; intro a hst
        refine wpList_nil ?_
        refine then_normal ?_
        refine wp_block ?_
        refine wp_loop_fuel (fun k_30 a w' => ∃ (i_22 : Int), ∃ (i_23 : Int), ∃ (i_24 : Int), pick_Bears.l0 a0 k_30 i_22 i_23 i_24 = some r ∧ ST Try.f38.ntmps a [(2, .pointer (some ⟨g1, 0, none⟩)), (4, .int .i64 0), (5, .int .i64 i_22), (20, .int .i64 i_23), (21, .int .i64 i_24)] ∧ SH (fun _ => False) w w' [Box g1 [.int .i64 a0.Block, .int .i64 a0.Mem, .int .i64 a0.Frozen, .int .i64 a0.Shape.Page, .int .i64 a0.Shape.Restart, .int .i64 a0.Shape.Bits, .int .i64 a0.Cut, .int .i64 a0.Files0, .int .i64 a0.Stop0, .int .i64 a0.Base, .int .i64 a0.Ratio, .int .i64 a0.Levels, .int .i64 a0.Chunk, .int .i64 a0.Roll, .int .i64 a0.Clients, va0_0] 28]) k ?_ ?_
        · exact ⟨a0.Base, (w64 (a1 - 1)), 0, H, hst.keep _ ⟨rfl, rfl, rfl, rfl, rfl, trivial⟩, hsh.pick [0]⟩
        · rintro k_30 a W_25 ⟨i_22, i_23, i_24, H, hst, hsh⟩
          cases k_30 with
          | zero => rw [pick_Bears.l0] at H; cases H
          | succ k_30 =>
            rw [pick_Bears.l0] at H
            refine wp_seq ?_
            refine wp_region_lit ?_
            refine r_t hst trivial rfl (x_cmpI (b := decide (i_24 < i_23)) hst rfl rfl rfl) ?_; intro a hst
            refine wpList_nil ?_
            refine then_normal ?_
            refine wp_seq ?_
            by_cases c24 : (decide (i_24 < i_23)) = true
            · rw [if_pos c24] at H
              refine wp_condT hst rfl c24 ?_
              refine wp_skip ?_
              refine then_normal ?_
              refine wp_seq ?_
              refine wp_block ?_
              refine wp_region_lit ?_
              refine r_t hst trivial rfl (x_move hst rfl) ?_; intro a hst
              refine r_t hst trivial rfl (x_fieldAddr (j' := 10) hst fa_28_8 rfl rfl) ?_; intro a hst
              refine r_t hst trivial rfl (x_loadB (i := 0) hst hsh sc_3 rfl rfl rfl) ?_; intro a hst
              refine r_t hst trivial rfl (x_arI (r := w64 (i_22 * a0.Ratio)) hst rfl rfl rfl) ?_; intro a hst
              refine r_t hst trivial rfl (x_minI hst rfl rfl) ?_; intro a hst
              refine r_t hst trivial rfl (x_assign hst rfl) ?_; intro a hst
              refine wpList_nil ?_
              refine block_normal ?_
              refine then_normal ?_
              refine wp_region_lit ?_
              refine r_t hst trivial rfl (x_arI (r := w64 (i_24 + 1)) hst rfl rfl rfl) ?_; intro a hst
              refine r_t hst trivial rfl (x_move hst rfl) ?_; intro a hst
              refine wpList_nil ?_
              refine then_normal ?_
              exact ⟨k_30, Nat.lt_succ_self _, (minI (w64 (i_22 * a0.Ratio)) 1099511627776), i_23, (w64 (i_24 + 1)), H, hst.keep _ ⟨rfl, rfl, rfl, rfl, rfl, trivial⟩, hsh.pick [0]⟩
            · rw [if_neg c24] at H
              replace c24 := Bool.eq_false_iff.2 c24
              refine wp_condF hst rfl c24 ?_
              refine wp_exit ?_
              refine then_exit ?_
              refine then_exit ?_
              refine block_hit ?_
              refine then_normal ?_
              refine wp_seq ?_
              refine wp_region_lit ?_
              refine r_t hst trivial rfl (x_move hst rfl) ?_; intro a hst
              refine r_t hst trivial rfl (x_assign hst rfl) ?_; intro a hst
              refine wpList_nil ?_
              refine then_normal ?_
              refine wp_ret ?_
              obtain rfl := Option.some.inj H
              exact ret1 hst rfl rfl ⟨rfl, hsh.pick []⟩
    · intro hj
      by_cases c11 : ((!r8) || (decide (a1 < 1))) = true
      · refine r_not hst 13 rfl rfl c11 rfl ?_; intro a hst
        refine r_not hst 13 rfl rfl c11 rfl ?_; intro a hst
        refine r_t hst trivial rfl (x_orT (decide (6 < a1)) hst rfl c11 rfl) ?_; intro a hst
        exact hj _ (hst.keep _ ⟨rfl, rfl, rfl, rfl, trivial⟩)
      · replace c11 := Bool.eq_false_iff.2 c11
        refine r_t hst (wt_of 13 rfl rfl c11) rfl (x_move hst rfl) ?_; intro a hst
        refine r_t hst (wt_of 13 rfl rfl c11) rfl (x_cmpI (b := decide (6 < a1)) hst rfl rfl rfl) ?_; intro a hst
        refine r_t hst trivial rfl (x_orF hst rfl c11 rfl) ?_; intro a hst
        exact hj _ (hst.keep _ ⟨rfl, rfl, rfl, rfl, trivial⟩)
  · intro hj
    by_cases c10 : (!r8) = true
    · refine r_not hst 9 rfl rfl c10 rfl ?_; intro a hst
      refine r_not hst 9 rfl rfl c10 rfl ?_; intro a hst
      refine r_t hst trivial rfl (x_orT (decide (a1 < 1)) hst rfl c10 rfl) ?_; intro a hst
      exact hj _ (hst.keep _ ⟨rfl, rfl, rfl, rfl, trivial⟩)
    · replace c10 := Bool.eq_false_iff.2 c10
      refine r_t hst (wt_of 9 rfl rfl c10) rfl (x_move hst rfl) ?_; intro a hst
      refine r_t hst (wt_of 9 rfl rfl c10) rfl (x_cmpI (b := decide (a1 < 1)) hst rfl rfl rfl) ?_; intro a hst
      refine r_t hst trivial rfl (x_orF hst rfl c10 rfl) ?_; intro a hst
      exact hj _ (hst.keep _ ⟨rfl, rfl, rfl, rfl, trivial⟩)

set_option maxHeartbeats 4000000 in
set_option maxRecDepth 100000 in
theorem pick_Score.calls (k : Nat) (w : World) (va0 : Value) (Za0 : Nat → Prop) (wra0 : World) (hsa0 : Same Za0 wra0 w) (a0 : (List (List File))) (hra0 : RD (Kd.slice 43 k_File) Za0 wra0 va0 a0) (a1 : Config) (va1_0 : Value) (Za1_0 : Nat → Prop) (wra1_0 : World) (hsa1_0 : Same Za1_0 wra1_0 w) (hra1_0 : RD (Kd.int .i64) Za1_0 wra1_0 va1_0 a1.Heights) (a2 : Int) (r : Int) (h : pick_Score k a0 a1 a2 = some r) :
    Calls Try.prog 13 ([va0, .agg #[.int .i64 a1.Block, .int .i64 a1.Mem, .int .i64 a1.Frozen, .int .i64 a1.Shape.Page, .int .i64 a1.Shape.Restart, .int .i64 a1.Shape.Bits, .int .i64 a1.Cut, .int .i64 a1.Files0, .int .i64 a1.Stop0, .int .i64 a1.Base, .int .i64 a1.Ratio, .int .i64 a1.Levels, .int .i64 a1.Chunk, .int .i64 a1.Roll, .int .i64 a1.Clients, va1_0], .int .i64 a2] : List Value).toArray w fun e w' => e = .returned (.int .i64 r) ∧ SH (fun _ => False) w w' [] := by
  have H := h
  clear h
  unfold pick_Score at H
  refine calls_enter Try.func13 rfl rfl ?_
  intro a hst
  have hsh := SH.zero (fun _ => False) w
  refine wp_seq ?_
  refine wp_region_lit ?_
  refine r_box hst hsh trivial rfl rfl rfl ?_
  intro g1 a w2 hgg1 hsh hst
  refine r_t hst trivial rfl (x_assign hst rfl) ?_; intro a hst
  refine wpList_nil ?_
  refine then_normal ?_
  refine wp_seq ?_
  refine wp_block ?_
  refine wp_seq ?_
  refine wp_region_lit ?_
  refine r_t hst trivial rfl (x_move hst rfl) ?_; intro a hst
  refine r_t hst trivial rfl (x_loadBs (i := 0) (ps := [.int .i64 a1.Block, .int .i64 a1.Mem, .int .i64 a1.Frozen, .int .i64 a1.Shape.Page, .int .i64 a1.Shape.Restart, .int .i64 a1.Shape.Bits, .int .i64 a1.Cut, .int .i64 a1.Files0, .int .i64 a1.Stop0, .int .i64 a1.Base, .int .i64 a1.Ratio, .int .i64 a1.Levels, .int .i64 a1.Chunk, .int .i64 a1.Roll, .int .i64 a1.Clients, va1_0]) hst hsh ag_28 rfl rfl rfl) ?_; intro a hst
  obtain ⟨r16, hr16, H⟩ := Option.bind_eq_some_iff.1 H
  refine r_callD hst trivial rfl fn_22 rfl (pick_may.calls k _ _ _ _ (Same.sh0 hsa0 hsh) _ hra0 a1 _ _ _ (Same.sh0 hsa1_0 hsh) hra1_0 r16 hr16) ?_
  rintro e w17 ⟨rfl, hc⟩
  replace hsh := hsh.call0 hc
  clear hc
  refine ⟨_, rfl, fun a hst => ?_⟩
  refine r_t hst trivial rfl (x_notB hst rfl) ?_; intro a hst
  refine r_t hst trivial rfl (x_move hst rfl) ?_; intro a hst
  refine wl_join0 (N := Try.f13.ntmps) 8 [(0, va0), (2, .int .i64 a2), (4, .pointer (some ⟨g1, 0, none⟩)), (6, .int .i64 0), (15, .bool ((!r16) || (decide (a2 < 0))))] ?_ ?_
  · intro a hst
    refine r_t hst trivial rfl (x_move hst rfl) ?_; intro a hst
    refine wl_join0 (N := Try.f13.ntmps) 15 [(0, va0), (2, .int .i64 a2), (4, .pointer (some ⟨g1, 0, none⟩)), (6, .int .i64 0), (22, .bool (((!r16) || (decide (a2 < 0))) || (decide ((w64 ((a0.length : Int) - 1)) ≤ a2))))] ?_ ?_
    · intro a hst
      refine r_t hst trivial rfl (x_assign hst rfl) ?_; intro a hst
      refine wpList_nil ?_
      refine then_normal ?_
      by_cases c20 : (((!r16) || (decide (a2 < 0))) || (decide ((w64 ((a0.length : Int) - 1)) ≤ a2))) = true
      · rw [if_pos c20] at H
        refine wp_condT hst rfl c20 ?_
        refine wp_seq ?_
        refine wp_region_lit ?_
        refine r_t hst trivial rfl (x_assign hst rfl) ?_; intro a hst
        refine wpList_nil ?_
        refine then_normal ?_
        refine wp_ret ?_
        refine block_ret ?_
        refine then_ret ?_
        obtain rfl := Option.some.inj H
        exact ret1 hst rfl rfl ⟨rfl, hsh.pick []⟩
      · rw [if_neg c20] at H
        replace c20 := Bool.eq_false_iff.2 c20
        refine wp_condF hst rfl c20 ?_
        refine wp_seq ?_
        refine wp_region_lit ?_
        refine r_t hst trivial rfl (x_move hst rfl) ?_; intro a hst
        refine r_t hst trivial rfl (x_cmpI (b := (a2 == 0)) hst rfl rfl rfl) ?_; intro a hst
        refine r_t hst trivial rfl (x_assign hst rfl) ?_; intro a hst
        refine wpList_nil ?_
        refine then_normal ?_
        by_cases c21 : (a2 == 0) = true
        · rw [if_pos c21] at H
          refine wp_condT hst rfl c21 ?_
          refine wp_seq ?_
          refine wp_region_q (fun w' => SH (fun _ => False) w w' [Box g1 [.int .i64 a1.Block, .int .i64 a1.Mem, .int .i64 a1.Frozen, .int .i64 a1.Shape.Page, .int .i64 a1.Shape.Restart, .int .i64 a1.Shape.Bits, .int .i64 a1.Cut, .int .i64 a1.Files0, .int .i64 a1.Stop0, .int .i64 a1.Base, .int .i64 a1.Ratio, .int .i64 a1.Levels, .int .i64 a1.Chunk, .int .i64 a1.Roll, .int .i64 a1.Clients, va1_0] 28]) hsh.drew fo (by kernel_rfl) ?_
          refine q_t hst trivial rfl (fun _ hsh => x_move hst rfl) ?_; intro a hst
          obtain ⟨x22, hx22, H⟩ := Option.bind_eq_some_iff.1 H
          refine q_t hst trivial rfl (fun _ hsh => x_indexAddr hst Try.underlying23 el_31 rfl rfl hra0 hx22) ?_; intro a hst
          obtain ⟨_, hk23, hc24⟩ := RD.cells2 hra0 hx22
          obtain ⟨v25, rfl, hr26⟩ := hk23
          refine q_t hst trivial rfl (fun _ hsh => x_loadC hst sc_31 rfl (hc24 _ (Same.sh0 hsa0 hsh) 0 _ rfl)) ?_; intro a hst
          refine q_t hst trivial rfl (fun _ hsh => x_lenSl hst Try.underlying31 rfl hr26.slen) ?_; intro a hst
          refine q_t hst trivial rfl (fun _ hsh => x_arI (r := w64 (1000 * (x22.length : Int))) hst rfl rfl rfl) ?_; intro a hst
          refine q_t hst trivial rfl (fun _ hsh => x_fieldAddr (j' := 7) hst fa_28_5 rfl rfl) ?_; intro a hst
          refine q_t hst trivial rfl (fun _ hsh => x_loadB (i := 0) hst hsh sc_3 rfl rfl rfl) ?_; intro a hst
          refine q_t hst trivial rfl (fun _ hsh => x_minI hst rfl rfl) ?_; intro a hst
          by_cases c27 : (minI a1.Files0 268435456) = 0
          · rw [if_pos c27] at H; cases H
          · rw [if_neg c27] at H
            refine q_t hst trivial rfl (fun _ hsh => x_quo hst rfl rfl c27) ?_; intro a hst
            refine q_t hst trivial rfl (fun _ hsh => x_assign hst rfl) ?_; intro a hst
            refine q_nil ?_
            intro w28 hsh
            refine then_normal ?_
            refine wp_ret ?_
            refine block_ret ?_
            refine then_ret ?_
            obtain rfl := Option.some.inj H
            exact ret1 hst rfl rfl ⟨rfl, hsh.pick []⟩
        · rw [if_neg c21] at H
          replace c21 := Bool.eq_false_iff.2 c21
          refine wp_condF hst rfl c21 ?_
          refine wp_skip ?_
          refine block_normal ?_
          refine then_normal ?_
          refine wp_seq ?_
          refine wp_region_q (fun w' => SH (fun _ => False) w w' [Box g1 [.int .i64 a1.Block, .int .i64 a1.Mem, .int .i64 a1.Frozen, .int .i64 a1.Shape.Page, .int .i64 a1.Shape.Restart, .int .i64 a1.Shape.Bits, .int .i64 a1.Cut, .int .i64 a1.Files0, .int .i64 a1.Stop0, .int .i64 a1.Base, .int .i64 a1.Ratio, .int .i64 a1.Levels, .int .i64 a1.Chunk, .int .i64 a1.Roll, .int .i64 a1.Clients, va1_0] 28]) hsh.drew fo (by kernel_rfl) ?_
          refine q_t hst trivial rfl (fun _ hsh => x_move hst rfl) ?_; intro a hst
          refine q_t hst trivial rfl (fun _ hsh => x_move hst rfl) ?_; intro a hst
          obtain ⟨r29, hr29, H⟩ := Option.bind_eq_some_iff.1 H
          refine q_call hst trivial rfl fn_37 rfl (fun w9 hsh => q_calls hsh (version_Size.calls k _ _ _ _ (Same.sh0 hsa0 hsh) _ hra0 a2 r29 hr29)) ?_; intro a hst
          refine q_t hst trivial rfl (fun _ hsh => x_arI (r := w64 (1000 * r29)) hst rfl rfl rfl) ?_; intro a hst
          refine q_t hst trivial rfl (fun _ hsh => x_loadBs (i := 0) (ps := [.int .i64 a1.Block, .int .i64 a1.Mem, .int .i64 a1.Frozen, .int .i64 a1.Shape.Page, .int .i64 a1.Shape.Restart, .int .i64 a1.Shape.Bits, .int .i64 a1.Cut, .int .i64 a1.Files0, .int .i64 a1.Stop0, .int .i64 a1.Base, .int .i64 a1.Ratio, .int .i64 a1.Levels, .int .i64 a1.Chunk, .int .i64 a1.Roll, .int .i64 a1.Clients, va1_0]) hst hsh ag_28 rfl rfl rfl) ?_; intro a hst
          refine q_t hst trivial rfl (fun _ hsh => x_move hst rfl) ?_; intro a hst
          obtain ⟨r31, hr31, H⟩ := Option.bind_eq_some_iff.1 H
          refine q_call hst trivial rfl fn_38 rfl (fun w9 hsh => q_calls hsh (pick_Bears.calls k _ a1 _ _ _ (Same.sh0 hsa1_0 hsh) hra1_0 a2 r31 hr31)) ?_; intro a hst
          by_cases c33 : r31 = 0
          · rw [if_pos c33] at H; cases H
          · rw [if_neg c33] at H
            refine q_t hst trivial rfl (fun _ hsh => x_quo hst rfl rfl c33) ?_; intro a hst
            refine q_t hst trivial rfl (fun _ hsh => x_assign hst rfl) ?_; intro a hst
            refine q_nil ?_
            intro w34 hsh
            refine then_normal ?_
            refine wp_ret ?_
            obtain rfl := Option.some.inj H
            exact ret1 hst rfl rfl ⟨rfl, hsh.pick []⟩
    · intro hj
      by_cases c19 : ((!r16) || (decide (a2 < 0))) = true
      · refine r_not hst 16 rfl rfl c19 rfl ?_; intro a hst
        refine r_not hst 16 rfl rfl c19 rfl ?_; intro a hst
        refine r_not hst 16 rfl rfl c19 rfl ?_; intro a hst
        refine r_not hst 16 rfl rfl c19 rfl ?_; intro a hst
        refine r_not hst 16 rfl rfl c19 rfl ?_; intro a hst
        refine r_t hst trivial rfl (x_orT (decide ((w64 ((a0.length : Int) - 1)) ≤ a2)) hst rfl c19 rfl) ?_; intro a hst
        exact hj _ (hst.keep _ ⟨rfl, rfl, rfl, rfl, rfl, trivial⟩)
      · replace c19 := Bool.eq_false_iff.2 c19
        refine r_t hst (wt_of 16 rfl rfl c19) rfl (x_move hst rfl) ?_; intro a hst
        refine r_t hst (wt_of 16 rfl rfl c19) rfl (x_move hst rfl) ?_; intro a hst
        refine r_t hst (wt_of 16 rfl rfl c19) rfl (x_lenSl hst Try.underlying23 rfl hra0.slen) ?_; intro a hst
        refine r_t hst (wt_of 16 rfl rfl c19) rfl (x_arI (r := w64 ((a0.length : Int) - 1)) hst rfl rfl rfl) ?_; intro a hst
        refine r_t hst (wt_of 16 rfl rfl c19) rfl (x_cmpI (b := decide ((w64 ((a0.length : Int) - 1)) ≤ a2)) hst rfl rfl rfl) ?_; intro a hst
        refine r_t hst trivial rfl (x_orF hst rfl c19 rfl) ?_; intro a hst
        exact hj _ (hst.keep _ ⟨rfl, rfl, rfl, rfl, rfl, trivial⟩)
  · intro hj
    by_cases c18 : (!r16) = true
    · refine r_not hst 12 rfl rfl c18 rfl ?_; intro a hst
      refine r_not hst 12 rfl rfl c18 rfl ?_; intro a hst
      refine r_t hst trivial rfl (x_orT (decide (a2 < 0)) hst rfl c18 rfl) ?_; intro a hst
      exact hj _ (hst.keep _ ⟨rfl, rfl, rfl, rfl, rfl, trivial⟩)
    · replace c18 := Bool.eq_false_iff.2 c18
      refine r_t hst (wt_of 12 rfl rfl c18) rfl (x_move hst rfl) ?_; intro a hst
      refine r_t hst (wt_of 12 rfl rfl c18) rfl (x_cmpI (b := decide (a2 < 0)) hst rfl rfl rfl) ?_; intro a hst
      refine r_t hst trivial rfl (x_orF hst rfl c18 rfl) ?_; intro a hst
      exact hj _ (hst.keep _ ⟨rfl, rfl, rfl, rfl, rfl, trivial⟩)

set_option maxHeartbeats 4000000 in
set_option maxRecDepth 100000 in
theorem pick_best_int.calls (k : Nat) (w : World) (va0 : Value) (Za0 : Nat → Prop) (wra0 : World) (hsa0 : Same Za0 wra0 w) (a0 : (List Int)) (hra0 : RD (Kd.int .i64) Za0 wra0 va0 a0) (r : Int) (h : pick_best_int k a0 = some r) :
    Calls Try.prog 23 ([va0] : List Value).toArray w fun e w' => e = .returned (.int .i64 r) ∧ SH (fun _ => False) w w' [] := by
  have H := h
  clear h
  unfold pick_best_int at H
  refine calls_enter Try.func23 rfl rfl ?_
  intro a hst
  have hsh := SH.zero (fun _ => False) w
  refine wp_seq ?_
  refine wp_region_lit ?_
  refine r_t hst trivial rfl (x_assign hst rfl) ?_; intro a hst
  refine wpList_nil ?_
  refine then_normal ?_
  refine wp_seq ?_
  refine wp_region_lit ?_
  refine r_t hst trivial rfl (x_assign hst rfl) ?_; intro a hst
  refine wpList_nil ?_
  refine then_normal ?_
  refine wp_seq ?_
  refine wp_seq ?_
  refine wp_region_lit ?_
  refine r_t hst trivial rfl (x_move hst rfl) ?_; intro a hst
  refine r_t hst trivial rfl (x_lenSl hst Try.underlying26 rfl hra0.slen) ?_; intro a hst
  refine r_t hst trivial rfl (x_move hst rfl) ?_; intro a hst
  refine wpList_nil ?_
  refine then_normal ?_
  refine wp_block ?_
  refine wp_loop_fuel (fun k_49 a w' => ∃ (i_40 : Int), ∃ (i_41 : Int), pick_best_int.l0 a0 k_49 i_40 i_41 = some r ∧ ST Try.f23.ntmps a [(0, va0), (2, .int .i64 0), (3, .int .i64 i_40), (6, .int .i64 (a0.length : Int)), (7, .int .i64 i_41)] ∧ SH (fun _ => False) w w' []) k ?_ ?_
  · exact ⟨0, 0, H, hst.keep _ ⟨rfl, rfl, rfl, rfl, rfl, trivial⟩, hsh.pick []⟩
  · rintro k_49 a W_42 ⟨i_40, i_41, H, hst, hsh⟩
    cases k_49 with
    | zero => rw [pick_best_int.l0] at H; cases H
    | succ k_49 =>
      rw [pick_best_int.l0] at H
      refine wp_seq ?_
      refine wp_region_lit ?_
      refine r_t hst trivial rfl (x_cmpI (b := decide (i_41 < (a0.length : Int))) hst rfl rfl rfl) ?_; intro a hst
      refine wpList_nil ?_
      refine then_normal ?_
      refine wp_seq ?_
      by_cases c72 : (decide (i_41 < (a0.length : Int))) = true
      · rw [if_pos c72] at H
        refine wp_condT hst rfl c72 ?_
        refine wp_skip ?_
        refine then_normal ?_
        obtain ⟨J_52, hJ_52, H⟩ := Jn.elim H
        refine wp_cut (fun a w' => ∃ (i_50 : Int), J_52 i_50 = some r ∧ ST Try.f23.ntmps a [(0, va0), (2, .int .i64 0), (3, .int .i64 i_50), (6, .int .i64 (a0.length : Int)), (7, .int .i64 i_41)] ∧ SH (fun _ => False) w w' []) ?_ ?_
        · rintro a W_51 ⟨i_50, H, hst, hsh⟩
          subst hJ_52
          dsimp only at H
          refine wp_region_lit ?_
          refine r_t hst trivial rfl (x_arI (r := w64 (i_41 + 1)) hst rfl rfl rfl) ?_; intro a hst
          refine r_t hst trivial rfl (x_move hst rfl) ?_; intro a hst
          refine wpList_nil ?_
          refine then_normal ?_
          exact ⟨k_49, Nat.lt_succ_self _, i_50, (w64 (i_41 + 1)), H, hst.keep _ ⟨rfl, rfl, rfl, rfl, rfl, trivial⟩, hsh.pick []⟩
        · refine wp_block ?_
          refine wp_seq ?_
          refine wp_region_lit ?_
          refine r_t hst trivial rfl (x_move hst rfl) ?_; intro a hst
          refine r_t hst trivial rfl (x_assign hst rfl) ?_; intro a hst
          refine wpList_nil ?_
          refine then_normal ?_
          refine wp_seq ?_
          refine wp_region_q (fun w' => SH (fun _ => False) w w' []) hsh.drew fo (by kernel_rfl) ?_
          refine q_t hst trivial rfl (fun _ hsh => x_move hst rfl) ?_; intro a hst
          refine q_t hst trivial rfl (fun _ hsh => x_move hst rfl) ?_; intro a hst
          obtain ⟨x77, hx77, H⟩ := Option.bind_eq_some_iff.1 H
          refine q_t hst trivial rfl (fun _ hsh => x_indexAddr hst Try.underlying26 el_3 rfl rfl hra0 hx77) ?_; intro a hst
          refine q_t hst trivial rfl (fun _ hsh => x_loadEF (j := 0) (cs := [.int .i64 x77]) hst sc_3 rfl hra0 (Same.sh0 hsa0 hsh) hx77 rfl (fun _ h => h) rfl) ?_; intro a hst
          refine q_t hst trivial rfl (fun _ hsh => x_move hst rfl) ?_; intro a hst
          refine q_t hst trivial rfl (fun _ hsh => x_move hst rfl) ?_; intro a hst
          obtain ⟨x78, hx78, H⟩ := Option.bind_eq_some_iff.1 H
          refine q_t hst trivial rfl (fun _ hsh => x_indexAddr hst Try.underlying26 el_3 rfl rfl hra0 hx78) ?_; intro a hst
          refine q_t hst trivial rfl (fun _ hsh => x_loadEF (j := 0) (cs := [.int .i64 x78]) hst sc_3 rfl hra0 (Same.sh0 hsa0 hsh) hx78 rfl (fun _ h => h) rfl) ?_; intro a hst
          refine q_t hst trivial rfl (fun _ hsh => x_cmpI (b := decide (x78 < x77)) hst rfl rfl rfl) ?_; intro a hst
          refine q_nil ?_
          intro w79 hsh
          refine then_normal ?_
          by_cases c80 : (decide (x78 < x77)) = true
          · rw [if_pos c80] at H
            refine wp_condT hst rfl c80 ?_
            refine wp_region_lit ?_
            refine r_t hst trivial rfl (x_move hst rfl) ?_; intro a hst
            refine r_t hst trivial rfl (x_assign hst rfl) ?_; intro a hst
            refine wpList_nil ?_
            refine block_normal ?_
            refine then_normal ?_
            exact ⟨i_41, H, hst.keep _ ⟨rfl, rfl, rfl, rfl, rfl, trivial⟩, hsh.pick []⟩
          · rw [if_neg c80] at H
            replace c80 := Bool.eq_false_iff.2 c80
            refine wp_condF hst rfl c80 ?_
            refine wp_skip ?_
            refine block_normal ?_
            refine then_normal ?_
            exact ⟨i_40, H, hst.keep _ ⟨rfl, rfl, rfl, rfl, rfl, trivial⟩, hsh.pick []⟩
      · rw [if_neg c72] at H
        replace c72 := Bool.eq_false_iff.2 c72
        refine wp_condF hst rfl c72 ?_
        refine wp_exit ?_
        refine then_exit ?_
        refine then_exit ?_
        refine block_hit ?_
        refine then_normal ?_
        refine wp_seq ?_
        refine wp_region_lit ?_
        refine r_t hst trivial rfl (x_move hst rfl) ?_; intro a hst
        refine r_t hst trivial rfl (x_assign hst rfl) ?_; intro a hst
        refine wpList_nil ?_
        refine then_normal ?_
        refine wp_ret ?_
        obtain rfl := Option.some.inj H
        exact ret1 hst rfl rfl ⟨rfl, hsh.pick []⟩

set_option maxHeartbeats 4000000 in
set_option maxRecDepth 100000 in
theorem pick_first_1.calls (w : World) (a0 : File) (c0 : ByteArray) (ggc0 : Nat) (Zc0 : Nat → Prop) (wrc0 : World) (hsc0 : Same Zc0 wrc0 w) (hzc0 : Zc0 ggc0) (hbc0 : wrc0.heap[ggc0]? = some (.cells ([.string c0] : List Value).toArray 9 (0, 0))) (r : Bool) (h : pick_first_1 a0 c0 = some r) :
    Calls Try.prog 51 ([.agg #[.int .i64 a0.Number, .int .i64 a0.Size, .string a0.Least, .string a0.Limit, .int .u64 a0.Low, .int .u64 a0.High], .pointer (some ⟨ggc0, 0, none⟩)] : List Value).toArray w fun e w' => e = .returned (.bool r) ∧ SH (fun _ => False) w w' [] := by
  have H := h
  clear h
  unfold pick_first_1 at H
  refine calls_enter Try.func51 rfl rfl ?_
  intro a hst
  have hsh := SH.zero (fun _ => False) w
  refine wp_seq ?_
  refine wp_region_lit ?_
  refine r_box hst hsh trivial rfl rfl rfl ?_
  intro g1 a w2 hgg1 hsh hst
  refine r_t hst trivial rfl (x_assign hst rfl) ?_; intro a hst
  refine wpList_nil ?_
  refine then_normal ?_
  refine wp_seq ?_
  refine wp_region_lit ?_
  refine r_t hst trivial rfl (x_fieldAddr (j' := 2) hst fa_43_2 rfl rfl) ?_; intro a hst
  refine r_t hst trivial rfl (x_loadB (i := 0) hst hsh sc_9 rfl rfl rfl) ?_; intro a hst
  refine r_t hst trivial rfl (x_loadCap (cs := [.string c0]) hst hbc0 (Same.sh0 hsc0 hsh) hzc0 sc_9 rfl rfl) ?_; intro a hst
  refine r_t hst trivial rfl (x_cmpS (b := (!sLt a0.Least c0)) hst rfl rfl rfl) ?_; intro a hst
  refine r_t hst trivial rfl (x_assign hst rfl) ?_; intro a hst
  refine wpList_nil ?_
  refine then_normal ?_
  refine wp_ret ?_
  obtain rfl := Option.some.inj H
  exact ret1 hst rfl rfl ⟨rfl, hsh.pick []⟩

set_option maxHeartbeats 4000000 in
set_option maxRecDepth 100000 in
theorem slices_IndexFunc_File.calls (k : Nat) (w : World) (va0 : Value) (Za0 : Nat → Prop) (wra0 : World) (hsa0 : Same Za0 wra0 w) (a0 : (List File)) (hra0 : RD k_File Za0 wra0 va0 a0) (va1 : Value) (Za1 : Nat → Prop) (wra1 : World) (hsa1 : Same Za1 wra1 w) (a1 : (File → Option Bool)) (hra1 : ∀ (w : World) (x0 : File) (r : Bool), Same Za1 wra1 w → a1 x0 = some r → CallsV Try.prog va1 [.agg #[.int .i64 x0.Number, .int .i64 x0.Size, .string x0.Least, .string x0.Limit, .int .u64 x0.Low, .int .u64 x0.High]] w (fun e w'' => e = .returned (.bool r) ∧ SH (fun _ => False) w w'' [])) (r : Int) (h : slices_IndexFunc_File k a0 a1 = some r) :
    Calls Try.prog 41 ([va0, va1] : List Value).toArray w fun e w' => e = .returned (.int .i64 r) ∧ SH (fun _ => False) w w' [] := by
  have H := h
  clear h
  unfold slices_IndexFunc_File at H
  refine calls_enter Try.func41 rfl rfl ?_
  intro a hst
  have hsh := SH.zero (fun _ => False) w
  refine wp_seq ?_
  refine wp_region_lit ?_
  refine r_t hst trivial rfl (x_assign hst rfl) ?_; intro a hst
  refine wpList_nil ?_
  refine then_normal ?_
  refine wp_seq ?_
  refine wp_seq ?_
  refine wp_region_lit ?_
  refine r_t hst trivial rfl (x_move hst rfl) ?_; intro a hst
  refine r_t hst trivial rfl (x_lenSl hst Try.underlying31 rfl hra0.slen) ?_; intro a hst
  refine r_t hst trivial rfl (x_move hst rfl) ?_; intro a hst
  refine wpList_nil ?_
  refine then_normal ?_
  refine wp_block ?_
  refine wp_loop_fuel (fun k_16 a w' => ∃ (i_12 : Int), slices_IndexFunc_File.l0 a0 a1 k_16 i_12 = some r ∧ ST Try.f41.ntmps a [(0, va0), (1, va1), (4, .int .i64 0), (7, .int .i64 (a0.length : Int)), (8, .int .i64 i_12)] ∧ SH (fun _ => False) w w' []) k ?_ ?_
  · exact ⟨0, H, hst.keep _ ⟨rfl, rfl, rfl, rfl, rfl, trivial⟩, hsh.pick []⟩
  · rintro k_16 a W_13 ⟨i_12, H, hst, hsh⟩
    cases k_16 with
    | zero => rw [slices_IndexFunc_File.l0] at H; cases H
    | succ k_16 =>
      rw [slices_IndexFunc_File.l0] at H
      refine wp_seq ?_
      refine wp_region_lit ?_
      refine r_t hst trivial rfl (x_cmpI (b := decide (i_12 < (a0.length : Int))) hst rfl rfl rfl) ?_; intro a hst
      refine wpList_nil ?_
      refine then_normal ?_
      refine wp_seq ?_
      by_cases c52 : (decide (i_12 < (a0.length : Int))) = true
      · rw [if_pos c52] at H
        refine wp_condT hst rfl c52 ?_
        refine wp_skip ?_
        refine then_normal ?_
        refine wp_seq ?_
        refine wp_block ?_
        refine wp_seq ?_
        refine wp_region_lit ?_
        refine r_t hst trivial rfl (x_move hst rfl) ?_; intro a hst
        refine r_t hst trivial rfl (x_assign hst rfl) ?_; intro a hst
        refine wpList_nil ?_
        refine then_normal ?_
        refine wp_seq ?_
        refine wp_region_lit ?_
        refine r_t hst trivial rfl (x_move hst rfl) ?_; intro a hst
        refine r_t hst trivial rfl (x_move hst rfl) ?_; intro a hst
        refine r_t hst trivial rfl (x_move hst rfl) ?_; intro a hst
        obtain ⟨x57, hx57, H⟩ := Option.bind_eq_some_iff.1 H
        refine r_t hst trivial rfl (x_indexAddr hst Try.underlying31 el_43 rfl rfl hra0 hx57) ?_; intro a hst
        refine r_t hst trivial rfl (x_loadEsF (j := 0) (cs := [.int .i64 x57.Number, .int .i64 x57.Size, .string x57.Least, .string x57.Limit, .int .u64 x57.Low, .int .u64 x57.High]) (ps := [.int .i64 x57.Number, .int .i64 x57.Size, .string x57.Least, .string x57.Limit, .int .u64 x57.Low, .int .u64 x57.High]) hst ag_43 rfl hra0 (Same.sh0 hsa0 hsh) hx57 rfl (fun _ h => h) rfl) ?_; intro a hst
        obtain ⟨r58, hr58, H⟩ := Option.bind_eq_some_iff.1 H
        refine r_callV hst trivial rfl rfl rfl (hra1 _ x57 r58 (Same.sh0 hsa1 hsh) hr58) ?_
        rintro e w59 ⟨rfl, hc⟩
        replace hsh := hsh.call0 hc
        clear hc
        refine ⟨_, rfl, fun a hst => ?_⟩
        refine wpList_nil ?_
        refine then_normal ?_
        by_cases c60 : r58 = true
        · rw [if_pos c60] at H
          refine wp_condT hst rfl c60 ?_
          refine wp_seq ?_
          refine wp_region_lit ?_
          refine r_t hst trivial rfl (x_move hst rfl) ?_; intro a hst
          refine r_t hst trivial rfl (x_assign hst rfl) ?_; intro a hst
          refine wpList_nil ?_
          refine then_normal ?_
          refine wp_ret ?_
          refine block_ret ?_
          refine then_ret ?_
          refine then_ret ?_
          refine block_ret ?_
          refine then_ret ?_
          obtain rfl := Option.some.inj H
          exact ret1 hst rfl rfl ⟨rfl, hsh.pick []⟩
        · rw [if_neg c60] at H
          replace c60 := Bool.eq_false_iff.2 c60
          refine wp_condF hst rfl c60 ?_
          refine wp_skip ?_
          refine block_normal ?_
          refine then_normal ?_
          refine wp_region_lit ?_
          refine r_t hst trivial rfl (x_arI (r := w64 (i_12 + 1)) hst rfl rfl rfl) ?_; intro a hst
          refine r_t hst trivial rfl (x_move hst rfl) ?_; intro a hst
          refine wpList_nil ?_
          refine then_normal ?_
          exact ⟨k_16, Nat.lt_succ_self _, (w64 (i_12 + 1)), H, hst.keep _ ⟨rfl, rfl, rfl, rfl, rfl, trivial⟩, hsh.pick []⟩
      · rw [if_neg c52] at H
        replace c52 := Bool.eq_false_iff.2 c52
        refine wp_condF hst rfl c52 ?_
        refine wp_exit ?_
        refine then_exit ?_
        refine then_exit ?_
        refine block_hit ?_
        refine then_normal ?_
        refine wp_seq ?_
        refine wp_region_lit ?_
        refine r_t hst trivial rfl (x_assign hst rfl) ?_; intro a hst
        refine wpList_nil ?_
        refine then_normal ?_
        refine wp_ret ?_
        obtain rfl := Option.some.inj H
        exact ret1 hst rfl rfl ⟨rfl, hsh.pick []⟩

set_option maxHeartbeats 4000000 in
set_option maxRecDepth 100000 in
theorem pick_first.calls (k : Nat) (w : World) (va0 : Value) (Za0 : Nat → Prop) (wra0 : World) (hsa0 : Same Za0 wra0 w) (a0 : (List File)) (hra0 : RD k_File Za0 wra0 va0 a0) (a1 : Int) (va2 : Value) (Za2 : Nat → Prop) (wra2 : World) (hsa2 : Same Za2 wra2 w) (a2 : (List ByteArray)) (hra2 : RD Kd.str Za2 wra2 va2 a2) (r : File) (h : pick_first k a0 a1 a2 = some r) :
    Calls Try.prog 24 ([va0, .int .i64 a1, va2] : List Value).toArray w fun e w' => e = .returned (.agg #[.int .i64 r.Number, .int .i64 r.Size, .string r.Least, .string r.Limit, .int .u64 r.Low, .int .u64 r.High]) ∧ SH (fun _ => False) w w' [] := by
  have H := h
  clear h
  unfold pick_first at H
  refine calls_enter Try.func24 rfl rfl ?_
  intro a hst
  have hsh := SH.zero (fun _ => False) w
  refine wp_seq ?_
  refine wp_region_lit ?_
  refine r_alloc hst hsh trivial rfl zr_43 ?_
  intro g1 a w2 hgg1 hsh hst
  refine wpList_nil ?_
  refine then_normal ?_
  refine wp_seq ?_
  refine wp_region_lit ?_
  refine r_alloc hst hsh trivial rfl zr_9 ?_
  intro g3 a w4 hgg3 hsh hst
  refine r_storeB (i := 0) (cs' := [.string (ByteArray.mk #[])]) hst hsh trivial sc_9 rfl rfl rfl rfl rfl rfl ?_; intro a w5 hsh hst
  refine wpList_nil ?_
  refine then_normal ?_
  obtain ⟨J_3, hJ_3, H⟩ := Jn.elim H
  refine wp_cut (fun a w' => ∃ (s_1 : ByteArray), J_3 s_1 = some r ∧ ST Try.f24.ntmps a [(0, va0), (1, .int .i64 a1), (6, .pointer (some ⟨g1, 0, none⟩)), (7, .pointer (some ⟨g3, 0, none⟩))] ∧ SH (fun _ => False) w w' [Box g1 [.int .i64 0, .int .i64 0, .string (ByteArray.mk #[]), .string (ByteArray.mk #[]), .int .u64 0, .int .u64 0] 43, Box g3 [.string s_1] 9]) ?_ ?_
  · rintro a W_2 ⟨s_1, H, hst, hsh⟩
    subst hJ_3
    dsimp only at H
    obtain ⟨J_5, hJ_5, H⟩ := Jn.elim H
    refine wp_cut (fun a w' => J_5 = some r ∧ ST Try.f24.ntmps a [(0, va0), (6, .pointer (some ⟨g1, 0, none⟩))] ∧ SH (fun _ => False) w w' [Box g1 [.int .i64 0, .int .i64 0, .string (ByteArray.mk #[]), .string (ByteArray.mk #[]), .int .u64 0, .int .u64 0] 43]) ?_ ?_
    · rintro a W_4 ⟨H, hst, hsh⟩
      subst hJ_5
      refine wp_seq ?_
      refine wp_region_lit ?_
      refine r_t hst trivial rfl (x_move hst rfl) ?_; intro a hst
      obtain ⟨x15, hx15, H⟩ := Option.bind_eq_some_iff.1 H
      refine r_t hst trivial rfl (x_indexAddr hst Try.underlying31 el_43 rfl rfl hra0 hx15) ?_; intro a hst
      refine r_t hst trivial rfl (x_loadEsF (j := 0) (cs := [.int .i64 x15.Number, .int .i64 x15.Size, .string x15.Least, .string x15.Limit, .int .u64 x15.Low, .int .u64 x15.High]) (ps := [.int .i64 x15.Number, .int .i64 x15.Size, .string x15.Least, .string x15.Limit, .int .u64 x15.Low, .int .u64 x15.High]) hst ag_43 rfl hra0 (Same.sh0 hsa0 hsh) hx15 rfl (fun _ h => h) rfl) ?_; intro a hst
      refine r_storeBs (i := 0) (cs' := [.int .i64 x15.Number, .int .i64 x15.Size, .string x15.Least, .string x15.Limit, .int .u64 x15.Low, .int .u64 x15.High]) (vs := [.int .i64 x15.Number, .int .i64 x15.Size, .string x15.Least, .string x15.Limit, .int .u64 x15.Low, .int .u64 x15.High]) hst hsh trivial ag_43 rfl rfl rfl rfl rfl rfl ?_; intro a w16 hsh hst
      refine wpList_nil ?_
      refine then_normal ?_
      refine wp_ret ?_
      obtain rfl := Option.some.inj H
      exact retC hst rfl rfl (box_var (i := 0) hsh ag_43 rfl rfl) ⟨rfl, hsh.pick []⟩
    · refine wp_seq ?_
      refine wp_region_lit ?_
      refine r_t hst trivial rfl (x_move hst rfl) ?_; intro a hst
      refine r_t hst trivial rfl (x_cmpI (b := decide (0 < a1)) hst rfl rfl rfl) ?_; intro a hst
      refine wpList_nil ?_
      refine then_normal ?_
      by_cases c17 : (decide (0 < a1)) = true
      · rw [if_pos c17] at H
        refine wp_condT hst rfl c17 ?_
        refine wp_seq ?_
        refine wp_region_lit ?_
        refine r_t hst trivial rfl (x_move hst rfl) ?_; intro a hst
        refine r_t hst trivial rfl (x_makeFunc hst rfl) ?_; intro a hst
        obtain ⟨r18, hr18, H⟩ := Option.bind_eq_some_iff.1 H
        refine r_callD hst trivial rfl fn_41 rfl (slices_IndexFunc_File.calls k _ _ _ _ (Same.sh0 hsa0 hsh) _ hra0 (.func (.func 51) #[] #[.pointer (some ⟨g3, 0, none⟩)]) (fun k => k = g3) W_2 (Same.refl _ _) (fun x0 => pick_first_1 x0 s_1) (fun w1 x0 r hs h => ⟨_, _, rfl, fn_51, pick_first_1.calls w1 x0 s_1 g3 _ _ hs rfl (hsh.box 1 rfl) r h⟩) r18 hr18) ?_
        rintro e w19 ⟨rfl, hc⟩
        replace hsh := hsh.call0 hc
        clear hc
        refine ⟨_, rfl, fun a hst => ?_⟩
        refine r_t hst trivial rfl (x_assign hst rfl) ?_; intro a hst
        refine wpList_nil ?_
        refine then_normal ?_
        refine wp_seq ?_
        refine wp_region_lit ?_
        refine r_t hst trivial rfl (x_move hst rfl) ?_; intro a hst
        refine r_t hst trivial rfl (x_cmpI (b := decide (0 ≤ r18)) hst rfl rfl rfl) ?_; intro a hst
        refine wpList_nil ?_
        refine then_normal ?_
        by_cases c20 : (decide (0 ≤ r18)) = true
        · rw [if_pos c20] at H
          refine wp_condT hst rfl c20 ?_
          refine wp_seq ?_
          refine wp_region_lit ?_
          refine r_t hst trivial rfl (x_move hst rfl) ?_; intro a hst
          refine r_t hst trivial rfl (x_move hst rfl) ?_; intro a hst
          obtain ⟨x21, hx21, H⟩ := Option.bind_eq_some_iff.1 H
          refine r_t hst trivial rfl (x_indexAddr hst Try.underlying31 el_43 rfl rfl hra0 hx21) ?_; intro a hst
          refine r_t hst trivial rfl (x_loadEsF (j := 0) (cs := [.int .i64 x21.Number, .int .i64 x21.Size, .string x21.Least, .string x21.Limit, .int .u64 x21.Low, .int .u64 x21.High]) (ps := [.int .i64 x21.Number, .int .i64 x21.Size, .string x21.Least, .string x21.Limit, .int .u64 x21.Low, .int .u64 x21.High]) hst ag_43 rfl hra0 (Same.sh0 hsa0 hsh) hx21 rfl (fun _ h => h) rfl) ?_; intro a hst
          refine r_storeBs (i := 0) (cs' := [.int .i64 x21.Number, .int .i64 x21.Size, .string x21.Least, .string x21.Limit, .int .u64 x21.Low, .int .u64 x21.High]) (vs := [.int .i64 x21.Number, .int .i64 x21.Size, .string x21.Least, .string x21.Limit, .int .u64 x21.Low, .int .u64 x21.High]) hst hsh trivial ag_43 rfl rfl rfl rfl rfl rfl ?_; intro a w22 hsh hst
          refine wpList_nil ?_
          refine then_normal ?_
          refine wp_ret ?_
          refine then_ret ?_
          obtain rfl := Option.some.inj H
          exact retC hst rfl rfl (box_var (i := 0) hsh ag_43 rfl rfl) ⟨rfl, hsh.pick []⟩
        · rw [if_neg c20] at H
          replace c20 := Bool.eq_false_iff.2 c20
          refine wp_condF hst rfl c20 ?_
          refine wp_skip ?_
          refine then_normal ?_
          exact ⟨H, hst.keep _ ⟨rfl, rfl, trivial⟩, hsh.pick [0]⟩
      · rw [if_neg c17] at H
        replace c17 := Bool.eq_false_iff.2 c17
        refine wp_condF hst rfl c17 ?_
        refine wp_skip ?_
        refine then_normal ?_
        exact ⟨H, hst.keep _ ⟨rfl, rfl, trivial⟩, hsh.pick [0]⟩
  · refine wp_seq ?_
    refine wp_region_lit ?_
    refine r_t hst trivial rfl (x_move hst rfl) ?_; intro a hst
    refine r_t hst trivial rfl (x_move hst rfl) ?_; intro a hst
    refine r_t hst trivial rfl (x_lenSl hst Try.underlying29 rfl hra2.slen) ?_; intro a hst
    refine r_t hst trivial rfl (x_cmpI (b := decide (a1 < (a2.length : Int))) hst rfl rfl rfl) ?_; intro a hst
    refine wpList_nil ?_
    refine then_normal ?_
    by_cases c23 : (decide (a1 < (a2.length : Int))) = true
    · rw [if_pos c23] at H
      refine wp_condT hst rfl c23 ?_
      refine wp_region_lit ?_
      refine r_t hst trivial rfl (x_move hst rfl) ?_; intro a hst
      refine r_t hst trivial rfl (x_move hst rfl) ?_; intro a hst
      obtain ⟨x24, hx24, H⟩ := Option.bind_eq_some_iff.1 H
      refine r_t hst trivial rfl (x_indexAddr hst Try.underlying29 el_9 rfl rfl hra2 hx24) ?_; intro a hst
      refine r_t hst trivial rfl (x_loadEF (j := 0) (cs := [.string x24]) hst sc_9 rfl hra2 (Same.sh0 hsa2 hsh) hx24 rfl (fun _ h => h) rfl) ?_; intro a hst
      refine r_storeB (i := 0) (cs' := [.string x24]) hst hsh trivial sc_9 rfl rfl rfl rfl rfl rfl ?_; intro a w25 hsh hst
      refine wpList_nil ?_
      refine then_normal ?_
      exact ⟨x24, H, hst.keep _ ⟨rfl, rfl, rfl, rfl, trivial⟩, hsh.pick [1, 0]⟩
    · rw [if_neg c23] at H
      replace c23 := Bool.eq_false_iff.2 c23
      refine wp_condF hst rfl c23 ?_
      refine wp_skip ?_
      refine then_normal ?_
      exact ⟨(ByteArray.mk #[]), H, hst.keep _ ⟨rfl, rfl, rfl, rfl, trivial⟩, hsh.pick [1, 0]⟩

set_option maxHeartbeats 4000000 in
set_option maxRecDepth 100000 in
theorem version_Span.calls (k : Nat) (w : World) (va0 : Value) (Za0 : Nat → Prop) (wra0 : World) (hsa0 : Same Za0 wra0 w) (a0 : (List File)) (hra0 : RD k_File Za0 wra0 va0 a0) (r : (ByteArray × ByteArray × Bool)) (h : version_Span k a0 = some r) :
    Calls Try.prog 14 ([va0] : List Value).toArray w fun e w' => e = .returned (.tuple #[.string r.1, .string r.2.1, .bool r.2.2]) ∧ SH (fun _ => False) w w' [] := by
  have H := h
  clear h
  unfold version_Span at H
  refine calls_enter Try.func14 rfl rfl ?_
  intro a hst
  have hsh := SH.zero (fun _ => False) w
  refine wp_seq ?_
  refine wp_region_lit ?_
  refine r_t hst trivial rfl (x_assign hst rfl) ?_; intro a hst
  refine r_t hst trivial rfl (x_assign hst rfl) ?_; intro a hst
  refine r_t hst trivial rfl (x_assign hst rfl) ?_; intro a hst
  refine wpList_nil ?_
  refine then_normal ?_
  refine wp_seq ?_
  refine wp_seq ?_
  refine wp_region_lit ?_
  refine r_t hst trivial rfl (x_move hst rfl) ?_; intro a hst
  refine r_t hst trivial rfl (x_lenSl hst Try.underlying31 rfl hra0.slen) ?_; intro a hst
  refine r_t hst trivial rfl (x_move hst rfl) ?_; intro a hst
  refine wpList_nil ?_
  refine then_normal ?_
  refine wp_block ?_
  refine wp_loop_fuel (fun k_78 a w' => ∃ (s_60 : ByteArray), ∃ (s_61 : ByteArray), ∃ (i_62 : Int), version_Span.l0 a0 k_78 s_60 s_61 i_62 = some r ∧ ST Try.f14.ntmps a [(0, va0), (2, .string s_60), (3, .string s_61), (4, .bool false), (7, va0), (8, .int .i64 (a0.length : Int)), (9, .int .i64 i_62)] ∧ SH (fun _ => False) w w' []) k ?_ ?_
  · exact ⟨(ByteArray.mk #[]), (ByteArray.mk #[]), 0, H, hst.keep _ ⟨rfl, rfl, rfl, rfl, rfl, rfl, rfl, trivial⟩, hsh.pick []⟩
  · rintro k_78 a W_63 ⟨s_60, s_61, i_62, H, hst, hsh⟩
    cases k_78 with
    | zero => rw [version_Span.l0] at H; cases H
    | succ k_78 =>
      rw [version_Span.l0] at H
      refine wp_seq ?_
      refine wp_region_lit ?_
      refine r_t hst trivial rfl (x_cmpI (b := decide (i_62 < (a0.length : Int))) hst rfl rfl rfl) ?_; intro a hst
      refine wpList_nil ?_
      refine then_normal ?_
      refine wp_seq ?_
      by_cases c112 : (decide (i_62 < (a0.length : Int))) = true
      · rw [if_pos c112] at H
        refine wp_condT hst rfl c112 ?_
        refine wp_skip ?_
        refine then_normal ?_
        obtain ⟨J_85, hJ_85, H⟩ := Jn.elim H
        refine wp_cut (fun a w' => ∃ (s_82 : ByteArray), ∃ (s_83 : ByteArray), J_85 s_82 s_83 = some r ∧ ST Try.f14.ntmps a [(0, va0), (2, .string s_82), (3, .string s_83), (4, .bool false), (7, va0), (8, .int .i64 (a0.length : Int)), (9, .int .i64 i_62)] ∧ SH (fun _ => False) w w' []) ?_ ?_
        · rintro a W_84 ⟨s_82, s_83, H, hst, hsh⟩
          subst hJ_85
          dsimp only at H
          refine wp_region_lit ?_
          refine r_t hst trivial rfl (x_arI (r := w64 (i_62 + 1)) hst rfl rfl rfl) ?_; intro a hst
          refine r_t hst trivial rfl (x_move hst rfl) ?_; intro a hst
          refine wpList_nil ?_
          refine then_normal ?_
          exact ⟨k_78, Nat.lt_succ_self _, s_82, s_83, (w64 (i_62 + 1)), H, hst.keep _ ⟨rfl, rfl, rfl, rfl, rfl, rfl, rfl, trivial⟩, hsh.pick []⟩
        · refine wp_block ?_
          refine wp_seq ?_
          refine wp_region_lit ?_
          refine r_t hst trivial rfl (x_move hst rfl) ?_; intro a hst
          obtain ⟨x123, hx123, H⟩ := Option.bind_eq_some_iff.1 H
          refine r_t hst trivial rfl (x_indexAddr hst Try.underlying31 el_43 rfl rfl hra0 hx123) ?_; intro a hst
          refine r_t hst trivial rfl (x_loadEsF (j := 0) (cs := [.int .i64 x123.Number, .int .i64 x123.Size, .string x123.Least, .string x123.Limit, .int .u64 x123.Low, .int .u64 x123.High]) (ps := [.int .i64 x123.Number, .int .i64 x123.Size, .string x123.Least, .string x123.Limit, .int .u64 x123.Low, .int .u64 x123.High]) hst ag_43 rfl hra0 (Same.sh0 hsa0 hsh) hx123 rfl (fun _ h => h) rfl) ?_; intro a hst
          refine r_alloc hst hsh trivial rfl zr_43 ?_
          intro g124 a w125 hgg124 hsh hst
          refine r_t hst trivial rfl (x_assign hst rfl) ?_; intro a hst
          refine r_storeBs (i := 0) (cs' := [.int .i64 x123.Number, .int .i64 x123.Size, .string x123.Least, .string x123.Limit, .int .u64 x123.Low, .int .u64 x123.High]) (vs := [.int .i64 x123.Number, .int .i64 x123.Size, .string x123.Least, .string x123.Limit, .int .u64 x123.Low, .int .u64 x123.High]) hst hsh trivial ag_43 rfl rfl rfl rfl rfl rfl ?_; intro a w126 hsh hst
          refine wpList_nil ?_
          refine then_normal ?_
          obtain ⟨J_88, hJ_88, H⟩ := Jn.elim H
          refine wp_cut (fun a w' => ∃ (s_86 : ByteArray), J_88 s_86 = some r ∧ ST Try.f14.ntmps a [(0, va0), (2, .string s_86), (3, .string s_61), (4, .bool false), (5, .int .i64 i_62), (6, .pointer (some ⟨g124, 0, none⟩)), (7, va0), (8, .int .i64 (a0.length : Int)), (9, .int .i64 i_62)] ∧ SH (fun _ => False) w w' [Box g124 [.int .i64 x123.Number, .int .i64 x123.Size, .string x123.Least, .string x123.Limit, .int .u64 x123.Low, .int .u64 x123.High] 43]) ?_ ?_
          · rintro a W_87 ⟨s_86, H, hst, hsh⟩
            subst hJ_88
            dsimp only at H
            refine wp_seq ?_
            refine wp_region_lit ?_
            refine r_t hst trivial rfl (x_move hst rfl) ?_; intro a hst
            refine r_t hst trivial rfl (x_cmpI (b := (i_62 == 0)) hst rfl rfl rfl) ?_; intro a hst
            refine r_t hst trivial rfl (x_move hst rfl) ?_; intro a hst
            refine wl_join0 (N := Try.f14.ntmps) 8 [(0, va0), (2, .string s_86), (3, .string s_61), (4, .bool false), (6, .pointer (some ⟨g124, 0, none⟩)), (7, va0), (8, .int .i64 (a0.length : Int)), (9, .int .i64 i_62), (31, .bool ((i_62 == 0) || (!(sLt x123.Limit s_61 || sEq x123.Limit s_61))))] ?_ ?_
            · intro a hst
              refine wpList_nil ?_
              refine then_normal ?_
              by_cases c130 : ((i_62 == 0) || (!(sLt x123.Limit s_61 || sEq x123.Limit s_61))) = true
              · rw [if_pos c130] at H
                refine wp_condT hst rfl c130 ?_
                refine wp_region_lit ?_
                refine r_t hst trivial rfl (x_fieldAddr (j' := 3) hst fa_43_3 rfl rfl) ?_; intro a hst
                refine r_t hst trivial rfl (x_loadB (i := 0) hst hsh sc_9 rfl rfl rfl) ?_; intro a hst
                refine r_t hst trivial rfl (x_assign hst rfl) ?_; intro a hst
                refine wpList_nil ?_
                refine block_normal ?_
                refine then_normal ?_
                exact ⟨s_86, x123.Limit, H, hst.keep _ ⟨rfl, rfl, rfl, rfl, rfl, rfl, rfl, trivial⟩, hsh.pick []⟩
              · rw [if_neg c130] at H
                replace c130 := Bool.eq_false_iff.2 c130
                refine wp_condF hst rfl c130 ?_
                refine wp_skip ?_
                refine block_normal ?_
                refine then_normal ?_
                exact ⟨s_86, s_61, H, hst.keep _ ⟨rfl, rfl, rfl, rfl, rfl, rfl, rfl, trivial⟩, hsh.pick []⟩
            · intro hj
              by_cases c129 : (i_62 == 0) = true
              · refine r_not hst 26 rfl rfl c129 rfl ?_; intro a hst
                refine r_not hst 26 rfl rfl c129 rfl ?_; intro a hst
                refine r_not hst 26 rfl rfl c129 rfl ?_; intro a hst
                refine r_not hst 26 rfl rfl c129 rfl ?_; intro a hst
                refine r_t hst trivial rfl (x_orT (!(sLt x123.Limit s_61 || sEq x123.Limit s_61)) hst rfl c129 rfl) ?_; intro a hst
                exact hj _ (hst.keep _ ⟨rfl, rfl, rfl, rfl, rfl, rfl, rfl, rfl, rfl, trivial⟩)
              · replace c129 := Bool.eq_false_iff.2 c129
                refine r_t hst (wt_of 26 rfl rfl c129) rfl (x_fieldAddr (j' := 3) hst fa_43_3 rfl rfl) ?_; intro a hst
                refine r_t hst (wt_of 26 rfl rfl c129) rfl (x_loadB (i := 0) hst hsh sc_9 rfl rfl rfl) ?_; intro a hst
                refine r_t hst (wt_of 26 rfl rfl c129) rfl (x_move hst rfl) ?_; intro a hst
                refine r_t hst (wt_of 26 rfl rfl c129) rfl (x_cmpS (b := (!(sLt x123.Limit s_61 || sEq x123.Limit s_61))) hst rfl rfl rfl) ?_; intro a hst
                refine r_t hst trivial rfl (x_orF hst rfl c129 rfl) ?_; intro a hst
                exact hj _ (hst.keep _ ⟨rfl, rfl, rfl, rfl, rfl, rfl, rfl, rfl, rfl, trivial⟩)
          · refine wp_seq ?_
            refine wp_region_lit ?_
            refine r_t hst trivial rfl (x_move hst rfl) ?_; intro a hst
            refine r_t hst trivial rfl (x_cmpI (b := (i_62 == 0)) hst rfl rfl rfl) ?_; intro a hst
            refine r_t hst trivial rfl (x_move hst rfl) ?_; intro a hst
            refine wl_join0 (N := Try.f14.ntmps) 8 [(0, va0), (2, .string s_60), (3, .string s_61), (4, .bool false), (5, .int .i64 i_62), (6, .pointer (some ⟨g124, 0, none⟩)), (7, va0), (8, .int .i64 (a0.length : Int)), (9, .int .i64 i_62), (21, .bool ((i_62 == 0) || (sLt x123.Least s_60)))] ?_ ?_
            · intro a hst
              refine wpList_nil ?_
              refine then_normal ?_
              by_cases c132 : ((i_62 == 0) || (sLt x123.Least s_60)) = true
              · rw [if_pos c132] at H
                refine wp_condT hst rfl c132 ?_
                refine wp_region_lit ?_
                refine r_t hst trivial rfl (x_fieldAddr (j' := 2) hst fa_43_2 rfl rfl) ?_; intro a hst
                refine r_t hst trivial rfl (x_loadB (i := 0) hst hsh sc_9 rfl rfl rfl) ?_; intro a hst
                refine r_t hst trivial rfl (x_assign hst rfl) ?_; intro a hst
                refine wpList_nil ?_
                refine then_normal ?_
                exact ⟨x123.Least, H, hst.keep _ ⟨rfl, rfl, rfl, rfl, rfl, rfl, rfl, rfl, rfl, trivial⟩, hsh.pick [0]⟩
              · rw [if_neg c132] at H
                replace c132 := Bool.eq_false_iff.2 c132
                refine wp_condF hst rfl c132 ?_
                refine wp_skip ?_
                refine then_normal ?_
                exact ⟨s_60, H, hst.keep _ ⟨rfl, rfl, rfl, rfl, rfl, rfl, rfl, rfl, rfl, trivial⟩, hsh.pick [0]⟩
            · intro hj
              by_cases c131 : (i_62 == 0) = true
              · refine r_not hst 16 rfl rfl c131 rfl ?_; intro a hst
                refine r_not hst 16 rfl rfl c131 rfl ?_; intro a hst
                refine r_not hst 16 rfl rfl c131 rfl ?_; intro a hst
                refine r_not hst 16 rfl rfl c131 rfl ?_; intro a hst
                refine r_t hst trivial rfl (x_orT (sLt x123.Least s_60) hst rfl c131 rfl) ?_; intro a hst
                exact hj _ (hst.keep _ ⟨rfl, rfl, rfl, rfl, rfl, rfl, rfl, rfl, rfl, rfl, trivial⟩)
              · replace c131 := Bool.eq_false_iff.2 c131
                refine r_t hst (wt_of 16 rfl rfl c131) rfl (x_fieldAddr (j' := 2) hst fa_43_2 rfl rfl) ?_; intro a hst
                refine r_t hst (wt_of 16 rfl rfl c131) rfl (x_loadB (i := 0) hst hsh sc_9 rfl rfl rfl) ?_; intro a hst
                refine r_t hst (wt_of 16 rfl rfl c131) rfl (x_move hst rfl) ?_; intro a hst
                refine r_t hst (wt_of 16 rfl rfl c131) rfl (x_cmpS (b := sLt x123.Least s_60) hst rfl rfl rfl) ?_; intro a hst
                refine r_t hst trivial rfl (x_orF hst rfl c131 rfl) ?_; intro a hst
                exact hj _ (hst.keep _ ⟨rfl, rfl, rfl, rfl, rfl, rfl, rfl, rfl, rfl, rfl, trivial⟩)
      · rw [if_neg c112] at H
        replace c112 := Bool.eq_false_iff.2 c112
        refine wp_condF hst rfl c112 ?_
        refine wp_exit ?_
        refine then_exit ?_
        refine then_exit ?_
        refine block_hit ?_
        refine then_normal ?_
        refine wp_seq ?_
        refine wp_region_lit ?_
        refine r_t hst trivial rfl (x_move hst rfl) ?_; intro a hst
        refine r_t hst trivial rfl (x_move hst rfl) ?_; intro a hst
        refine r_t hst trivial rfl (x_move hst rfl) ?_; intro a hst
        refine r_t hst trivial rfl (x_lenSl hst Try.underlying31 rfl hra0.slen) ?_; intro a hst
        refine r_t hst trivial rfl (x_cmpI (b := decide (0 < (a0.length : Int))) hst rfl rfl rfl) ?_; intro a hst
        refine r_t hst trivial rfl (x_assign hst rfl) ?_; intro a hst
        refine r_t hst trivial rfl (x_assign hst rfl) ?_; intro a hst
        refine r_t hst trivial rfl (x_assign hst rfl) ?_; intro a hst
        refine wpList_nil ?_
        refine then_normal ?_
        refine wp_ret ?_
        obtain rfl := Option.some.inj H
        exact ret3 hst rfl rfl rfl rfl ⟨rfl, hsh.pick []⟩

set_option maxHeartbeats 4000000 in
set_option maxRecDepth 100000 in
theorem version_overlaps.calls (w : World) (a0 : File) (a1 : ByteArray) (a2 : ByteArray) (r : Bool) (h : version_overlaps a0 a1 a2 = some r) :
    Calls Try.prog 67 ([.agg #[.int .i64 a0.Number, .int .i64 a0.Size, .string a0.Least, .string a0.Limit, .int .u64 a0.Low, .int .u64 a0.High], .string a1, .string a2] : List Value).toArray w fun e w' => e = .returned (.bool r) ∧ SH (fun _ => False) w w' [] := by
  have H := h
  clear h
  unfold version_overlaps at H
  refine calls_enter Try.func67 rfl rfl ?_
  intro a hst
  have hsh := SH.zero (fun _ => False) w
  refine wp_seq ?_
  refine wp_region_lit ?_
  refine r_box hst hsh trivial rfl rfl rfl ?_
  intro g1 a w2 hgg1 hsh hst
  refine r_t hst trivial rfl (x_assign hst rfl) ?_; intro a hst
  refine wpList_nil ?_
  refine then_normal ?_
  refine wp_seq ?_
  refine wp_region_lit ?_
  refine r_t hst trivial rfl (x_fieldAddr (j' := 3) hst fa_43_3 rfl rfl) ?_; intro a hst
  refine r_t hst trivial rfl (x_loadB (i := 0) hst hsh sc_9 rfl rfl rfl) ?_; intro a hst
  refine r_t hst trivial rfl (x_move hst rfl) ?_; intro a hst
  refine r_t hst trivial rfl (x_cmpS (b := (!(sLt a0.Limit a1 || sEq a0.Limit a1))) hst rfl rfl rfl) ?_; intro a hst
  refine r_t hst trivial rfl (x_move hst rfl) ?_; intro a hst
  refine wl_join0 (N := Try.f67.ntmps) 19 [(6, .bool false), (25, .bool ((!(sLt a0.Limit a1 || sEq a0.Limit a1)) && ((sEq a2 (ByteArray.mk #[])) || ((sLt a0.Least a2) && (!(sLt a2 a1 || sEq a2 a1))))))] ?_ ?_
  · intro a hst
    refine r_t hst trivial rfl (x_assign hst rfl) ?_; intro a hst
    refine wpList_nil ?_
    refine then_normal ?_
    refine wp_ret ?_
    obtain rfl := Option.some.inj H
    exact ret1 hst rfl rfl ⟨rfl, hsh.pick []⟩
  · intro hj
    by_cases c3 : (!(sLt a0.Limit a1 || sEq a0.Limit a1)) = true
    · refine r_t hst (wt_of 11 rfl rfl c3) rfl (x_move hst rfl) ?_; intro a hst
      refine r_t hst (wt_of 11 rfl rfl c3) rfl (x_cmpS (b := sEq a2 (ByteArray.mk #[])) hst rfl rfl rfl) ?_; intro a hst
      refine r_t hst (wt_of 11 rfl rfl c3) rfl (x_move hst rfl) ?_; intro a hst
      refine wl_join0 (N := Try.f67.ntmps) 18 [(6, .bool false), (11, .bool (!(sLt a0.Limit a1 || sEq a0.Limit a1))), (24, .bool ((sEq a2 (ByteArray.mk #[])) || ((sLt a0.Least a2) && (!(sLt a2 a1 || sEq a2 a1)))))] ?_ ?_
      · intro a hst
        refine r_t hst trivial rfl (x_andT hst rfl c3 rfl) ?_; intro a hst
        exact hj _ (hst.keep _ ⟨rfl, rfl, trivial⟩)
      · intro hj
        by_cases c4 : (sEq a2 (ByteArray.mk #[])) = true
        · refine r_not hst 14 rfl rfl c4 rfl ?_; intro a hst
          refine r_not hst 14 rfl rfl c4 rfl ?_; intro a hst
          refine r_not hst 14 rfl rfl c4 rfl ?_; intro a hst
          refine r_not hst 14 rfl rfl c4 rfl ?_; intro a hst
          refine r_not hst 14 rfl rfl c4 rfl ?_; intro a hst
          refine r_notU hst 19 rfl rfl rfl ?_; intro a hst
          refine r_notU hst 19 rfl rfl rfl ?_; intro a hst
          refine r_notU hst 19 rfl rfl rfl ?_; intro a hst
          refine r_not hst 14 rfl rfl c4 rfl ?_; intro a hst
          refine r_t hst (wt_of 11 rfl rfl c3) rfl (x_orT ((sLt a0.Least a2) && (!(sLt a2 a1 || sEq a2 a1))) hst rfl c4 rfl) ?_; intro a hst
          exact hj _ (hst.keep _ ⟨rfl, rfl, rfl, trivial⟩)
        · replace c4 := Bool.eq_false_iff.2 c4
          refine r_t hst (wt_of 14 rfl rfl c4) rfl (x_fieldAddr (j' := 2) hst fa_43_2 rfl rfl) ?_; intro a hst
          refine r_t hst (wt_of 14 rfl rfl c4) rfl (x_loadB (i := 0) hst hsh sc_9 rfl rfl rfl) ?_; intro a hst
          refine r_t hst (wt_of 14 rfl rfl c4) rfl (x_move hst rfl) ?_; intro a hst
          refine r_t hst (wt_of 14 rfl rfl c4) rfl (x_cmpS (b := sLt a0.Least a2) hst rfl rfl rfl) ?_; intro a hst
          refine r_t hst (wt_of 14 rfl rfl c4) rfl (x_move hst rfl) ?_; intro a hst
          refine wl_join0 (N := Try.f67.ntmps) 17 [(6, .bool false), (11, .bool (!(sLt a0.Limit a1 || sEq a0.Limit a1))), (14, .bool (sEq a2 (ByteArray.mk #[]))), (23, .bool ((sLt a0.Least a2) && (!(sLt a2 a1 || sEq a2 a1))))] ?_ ?_
          · intro a hst
            refine r_t hst (wt_of 11 rfl rfl c3) rfl (x_orF hst rfl c4 rfl) ?_; intro a hst
            exact hj _ (hst.keep _ ⟨rfl, rfl, rfl, trivial⟩)
          · intro hj
            by_cases c5 : (sLt a0.Least a2) = true
            · refine r_t hst (wt_of 19 rfl rfl c5) rfl (x_move hst rfl) ?_; intro a hst
              refine r_t hst (wt_of 19 rfl rfl c5) rfl (x_move hst rfl) ?_; intro a hst
              refine r_t hst (wt_of 19 rfl rfl c5) rfl (x_cmpS (b := (!(sLt a2 a1 || sEq a2 a1))) hst rfl rfl rfl) ?_; intro a hst
              refine r_t hst (wt_of 14 rfl rfl c4) rfl (x_andT hst rfl c5 rfl) ?_; intro a hst
              exact hj _ (hst.keep _ ⟨rfl, rfl, rfl, rfl, trivial⟩)
            · replace c5 := Bool.eq_false_iff.2 c5
              refine r_not hst 19 rfl rfl c5 rfl ?_; intro a hst
              refine r_not hst 19 rfl rfl c5 rfl ?_; intro a hst
              refine r_not hst 19 rfl rfl c5 rfl ?_; intro a hst
              refine r_t hst (wt_of 14 rfl rfl c4) rfl (x_andF (!(sLt a2 a1 || sEq a2 a1)) hst rfl c5 rfl) ?_; intro a hst
              exact hj _ (hst.keep _ ⟨rfl, rfl, rfl, rfl, trivial⟩)
    · replace c3 := Bool.eq_false_iff.2 c3
      refine r_not hst 11 rfl rfl c3 rfl ?_; intro a hst
      refine r_not hst 11 rfl rfl c3 rfl ?_; intro a hst
      refine r_not hst 11 rfl rfl c3 rfl ?_; intro a hst
      refine r_notU hst 14 rfl rfl rfl ?_; intro a hst
      refine r_notU hst 14 rfl rfl rfl ?_; intro a hst
      refine r_notU hst 14 rfl rfl rfl ?_; intro a hst
      refine r_notU hst 14 rfl rfl rfl ?_; intro a hst
      refine r_notU hst 14 rfl rfl rfl ?_; intro a hst
      refine r_notU hst 19 rfl rfl rfl ?_; intro a hst
      refine r_notU hst 19 rfl rfl rfl ?_; intro a hst
      refine r_notU hst 19 rfl rfl rfl ?_; intro a hst
      refine r_notU hst 14 rfl rfl rfl ?_; intro a hst
      refine r_not hst 11 rfl rfl c3 rfl ?_; intro a hst
      refine r_t hst trivial rfl (x_andF ((sEq a2 (ByteArray.mk #[])) || ((sLt a0.Least a2) && (!(sLt a2 a1 || sEq a2 a1)))) hst rfl c3 rfl) ?_; intro a hst
      exact hj _ (hst.keep _ ⟨rfl, rfl, trivial⟩)

set_option maxHeartbeats 4000000 in
set_option maxRecDepth 100000 in
theorem version_Over.calls (k : Nat) (w : World) (va0 : Value) (Za0 : Nat → Prop) (wra0 : World) (hsa0 : Same Za0 wra0 w) (a0 : (List (List File))) (hra0 : RD (Kd.slice 43 k_File) Za0 wra0 va0 a0) (a1 : Int) (a2 : ByteArray) (a3 : ByteArray) (r : (List File)) (h : version_Over k a0 a1 a2 a3 = some r) :
    Calls Try.prog 52 ([va0, .int .i64 a1, .string a2, .string a3] : List Value).toArray w fun e w' => ∃ v0_ : Value, e = .returned (v0_) ∧ SH (fun _ => False) w w' [Row k_File 43 v0_ r] := by
  have H := h
  clear h
  unfold version_Over at H
  refine calls_enter Try.func52 rfl rfl ?_
  intro a hst
  have hsh := SH.zero (fun _ => False) w
  refine wp_seq ?_
  refine wp_region_lit ?_
  refine r_t hst trivial rfl (x_assign hst rfl) ?_; intro a hst
  refine wpList_nil ?_
  refine then_normal ?_
  refine wp_seq ?_
  refine wp_region_lit ?_
  refine r_t hst trivial rfl (x_assign hst rfl) ?_; intro a hst
  refine wpList_nil ?_
  refine then_normal ?_
  refine wp_seq ?_
  refine wp_seq ?_
  refine wp_region_lit ?_
  refine r_t hst trivial rfl (x_move hst rfl) ?_; intro a hst
  refine r_t hst trivial rfl (x_move hst rfl) ?_; intro a hst
  obtain ⟨r87, hr87, H⟩ := Option.bind_eq_some_iff.1 H
  refine r_callD hst trivial rfl fn_47 rfl (version_of.calls k _ _ _ _ (Same.sh0 hsa0 hsh) _ hra0 a1 r87 hr87) ?_
  rintro e w88 ⟨v89, rfl, hc, hv90⟩
  replace hsh := hsh.call0 hc
  clear hc
  refine ⟨_, rfl, fun a hst => ?_⟩
  refine r_t hst trivial rfl (x_lenSl hst Try.underlying31 rfl hv90.slen) ?_; intro a hst
  refine r_t hst trivial rfl (x_move hst rfl) ?_; intro a hst
  refine wpList_nil ?_
  refine then_normal ?_
  refine wp_block ?_
  have hsh := hsh.addNil k_File 43
  refine wp_loop_fuel (fun k_56 a w' => ∃ (v_43 : Value), ∃ (l_44 : (List File)), ∃ (i_45 : Int), version_Over.l0 a2 a3 r87 k_56 l_44 i_45 = some r ∧ ST Try.f52.ntmps a [(2, .string a2), (3, .string a3), (8, (.slice none 0 0)), (9, v_43), (14, v89), (15, .int .i64 (r87.length : Int)), (16, .int .i64 i_45)] ∧ SH (fun _ => False) w w' [Row k_File 43 v_43 l_44]) k ?_ ?_
  · exact ⟨(.slice none 0 0), ([]), 0, H, hst.keep _ ⟨rfl, rfl, rfl, rfl, rfl, rfl, rfl, trivial⟩, hsh.pick [0]⟩
  · rintro k_56 a W_46 ⟨v_43, l_44, i_45, H, hst, hsh⟩
    cases k_56 with
    | zero => rw [version_Over.l0] at H; cases H
    | succ k_56 =>
      rw [version_Over.l0] at H
      refine wp_seq ?_
      refine wp_region_lit ?_
      refine r_t hst trivial rfl (x_cmpI (b := decide (i_45 < (r87.length : Int))) hst rfl rfl rfl) ?_; intro a hst
      refine wpList_nil ?_
      refine then_normal ?_
      refine wp_seq ?_
      by_cases c147 : (decide (i_45 < (r87.length : Int))) = true
      · rw [if_pos c147] at H
        refine wp_condT hst rfl c147 ?_
        refine wp_skip ?_
        refine then_normal ?_
        obtain ⟨J_60, hJ_60, H⟩ := Jn.elim H
        refine wp_cut (fun a w' => ∃ (v_57 : Value), ∃ (l_58 : (List File)), J_60 l_58 = some r ∧ ST Try.f52.ntmps a [(2, .string a2), (3, .string a3), (8, (.slice none 0 0)), (9, v_57), (14, v89), (15, .int .i64 (r87.length : Int)), (16, .int .i64 i_45)] ∧ SH (fun _ => False) w w' [Row k_File 43 v_57 l_58]) ?_ ?_
        · rintro a W_59 ⟨v_57, l_58, H, hst, hsh⟩
          subst hJ_60
          dsimp only at H
          refine wp_region_lit ?_
          refine r_t hst trivial rfl (x_arI (r := w64 (i_45 + 1)) hst rfl rfl rfl) ?_; intro a hst
          refine r_t hst trivial rfl (x_move hst rfl) ?_; intro a hst
          refine wpList_nil ?_
          refine then_normal ?_
          exact ⟨k_56, Nat.lt_succ_self _, v_57, l_58, (w64 (i_45 + 1)), H, hst.keep _ ⟨rfl, rfl, rfl, rfl, rfl, rfl, rfl, trivial⟩, hsh.pick [0]⟩
        · refine wp_block ?_
          refine wp_seq ?_
          refine wp_region_lit ?_
          obtain ⟨x160, hx160, H⟩ := Option.bind_eq_some_iff.1 H
          refine r_t hst trivial rfl (x_indexAddr hst Try.underlying31 el_43 rfl rfl hv90 hx160) ?_; intro a hst
          refine r_t hst trivial rfl (x_loadEsF (j := 0) (cs := [.int .i64 x160.Number, .int .i64 x160.Size, .string x160.Least, .string x160.Limit, .int .u64 x160.Low, .int .u64 x160.High]) (ps := [.int .i64 x160.Number, .int .i64 x160.Size, .string x160.Least, .string x160.Limit, .int .u64 x160.Low, .int .u64 x160.High]) hst ag_43 rfl hv90 (Same.sh0 hsa0 hsh) hx160 rfl (fun _ h => h) rfl) ?_; intro a hst
          refine r_alloc hst hsh trivial rfl zr_43 ?_
          intro g161 a w162 hgg161 hsh hst
          refine r_storeBs (i := 0) (cs' := [.int .i64 x160.Number, .int .i64 x160.Size, .string x160.Least, .string x160.Limit, .int .u64 x160.Low, .int .u64 x160.High]) (vs := [.int .i64 x160.Number, .int .i64 x160.Size, .string x160.Least, .string x160.Limit, .int .u64 x160.Low, .int .u64 x160.High]) hst hsh trivial ag_43 rfl rfl rfl rfl rfl rfl ?_; intro a w163 hsh hst
          refine wpList_nil ?_
          refine then_normal ?_
          refine wp_seq ?_
          refine wp_region_lit ?_
          refine r_t hst trivial rfl (x_loadBs (i := 0) (ps := [.int .i64 x160.Number, .int .i64 x160.Size, .string x160.Least, .string x160.Limit, .int .u64 x160.Low, .int .u64 x160.High]) hst hsh ag_43 rfl rfl rfl) ?_; intro a hst
          refine r_t hst trivial rfl (x_move hst rfl) ?_; intro a hst
          refine r_t hst trivial rfl (x_move hst rfl) ?_; intro a hst
          obtain ⟨r164, hr164, H⟩ := Option.bind_eq_some_iff.1 H
          refine r_callD hst trivial rfl fn_67 rfl (version_overlaps.calls _ x160 a2 a3 r164 hr164) ?_
          rintro e w165 ⟨rfl, hc⟩
          replace hsh := hsh.call0 hc
          clear hc
          refine ⟨_, rfl, fun a hst => ?_⟩
          refine wpList_nil ?_
          refine then_normal ?_
          by_cases c166 : r164 = true
          · rw [if_pos c166] at H
            refine wp_condT hst rfl c166 ?_
            refine wp_region_lit ?_
            refine r_t hst trivial rfl (x_move hst rfl) ?_; intro a hst
            refine r_t hst trivial rfl (x_loadBs (i := 0) (ps := [.int .i64 x160.Number, .int .i64 x160.Size, .string x160.Least, .string x160.Limit, .int .u64 x160.Low, .int .u64 x160.High]) hst hsh ag_43 rfl rfl rfl) ?_; intro a hst
            refine r_buildSlice (vs := [.agg #[.int .i64 x160.Number, .int .i64 x160.Size, .string x160.Least, .string x160.Limit, .int .u64 x160.Low, .int .u64 x160.High]]) (cs := [.int .i64 x160.Number, .int .i64 x160.Size, .string x160.Least, .string x160.Limit, .int .u64 x160.Low, .int .u64 x160.High]) hst hsh trivial rfl Try.underlying31 el_43 rfl rfl (by simp [Value.cells]) rfl rfl ?_
            intro g167 a w168 hgg167 hsh hst
            replace hsh := hsh.pick [2, 0, 0]
            obtain ⟨l169, hl169, H⟩ := Option.bind_eq_some_iff.1 H
            refine r_append1 (xx := x160) (C := []) (M := [Box g161 [.int .i64 x160.Number, .int .i64 x160.Size, .string x160.Least, .string x160.Limit, .int .u64 x160.Low, .int .u64 x160.High] 43]) hst hsh trivial rfl Try.underlying31 el_43 (by decide) (by decide) (by decide) rfl rfl (fun _ _ _ => rfl) hl169 ?_
            intro v170 a w171 hsh hst
            refine r_t hst trivial rfl (x_assign hst rfl) ?_; intro a hst
            refine wpList_nil ?_
            refine block_normal ?_
            refine then_normal ?_
            exact ⟨v170, l169, H, hst.keep _ ⟨rfl, rfl, rfl, rfl, rfl, rfl, rfl, trivial⟩, hsh.pick [0]⟩
          · rw [if_neg c166] at H
            replace c166 := Bool.eq_false_iff.2 c166
            refine wp_condF hst rfl c166 ?_
            refine wp_skip ?_
            refine block_normal ?_
            refine then_normal ?_
            exact ⟨v_43, l_44, H, hst.keep _ ⟨rfl, rfl, rfl, rfl, rfl, rfl, rfl, trivial⟩, hsh.pick [1]⟩
      · rw [if_neg c147] at H
        replace c147 := Bool.eq_false_iff.2 c147
        refine wp_condF hst rfl c147 ?_
        refine wp_exit ?_
        refine then_exit ?_
        refine then_exit ?_
        refine block_hit ?_
        refine then_normal ?_
        refine wp_seq ?_
        refine wp_region_lit ?_
        refine r_t hst trivial rfl (x_move hst rfl) ?_; intro a hst
        refine r_t hst trivial rfl (x_assign hst rfl) ?_; intro a hst
        refine wpList_nil ?_
        refine then_normal ?_
        refine wp_ret ?_
        obtain rfl := Option.some.inj H
        exact ret1 hst rfl rfl ⟨v_43, rfl, hsh.pick [0]⟩

set_option maxHeartbeats 4000000 in
set_option maxRecDepth 100000 in
theorem pick_touching.calls (k : Nat) (w : World) (va0 : Value) (Za0 : Nat → Prop) (wra0 : World) (hsa0 : Same Za0 wra0 w) (a0 : (List (List File))) (hra0 : RD (Kd.slice 43 k_File) Za0 wra0 va0 a0) (a1 : Int) (va2 : Value) (Za2 : Nat → Prop) (wra2 : World) (hsa2 : Same Za2 wra2 w) (a2 : (List File)) (hra2 : RD k_File Za2 wra2 va2 a2) (r : (List File)) (h : pick_touching k a0 a1 a2 = some r) :
    Calls Try.prog 25 ([va0, .int .i64 a1, va2] : List Value).toArray w fun e w' => ∃ v0_ : Value, e = .returned (v0_) ∧ SH (fun _ => False) w w' [Row k_File 43 v0_ r] := by
  have H := h
  clear h
  unfold pick_touching at H
  refine calls_enter Try.func25 rfl rfl ?_
  intro a hst
  have hsh := SH.zero (fun _ => False) w
  refine wp_seq ?_
  refine wp_region_lit ?_
  refine r_t hst trivial rfl (x_assign hst rfl) ?_; intro a hst
  refine wpList_nil ?_
  refine then_normal ?_
  refine wp_seq ?_
  refine wp_region_lit ?_
  refine r_t hst trivial rfl (x_move hst rfl) ?_; intro a hst
  obtain ⟨r1, hr1, H⟩ := Option.bind_eq_some_iff.1 H
  refine r_callD hst trivial rfl fn_14 rfl (version_Span.calls k _ _ _ _ (Same.sh0 hsa2 hsh) _ hra2 r1 hr1) ?_
  rintro e w2 ⟨rfl, hc⟩
  replace hsh := hsh.call0 hc
  clear hc
  refine ⟨_, rfl, fun a hst => ?_⟩
  refine r_t hst trivial rfl (x_move hst rfl) ?_; intro a hst
  refine r_t hst trivial rfl (x_extract hst rfl rfl) ?_; intro a hst
  refine r_t hst trivial rfl (x_extract hst rfl rfl) ?_; intro a hst
  refine r_t hst trivial rfl (x_extract hst rfl rfl) ?_; intro a hst
  refine r_t hst trivial rfl (x_assign hst rfl) ?_; intro a hst
  refine r_t hst trivial rfl (x_assign hst rfl) ?_; intro a hst
  refine r_t hst trivial rfl (x_assign hst rfl) ?_; intro a hst
  refine wpList_nil ?_
  refine then_normal ?_
  refine wp_block ?_
  refine wp_loop_fuel (fun k_11 a w' => ∃ (s_5 : ByteArray), ∃ (s_6 : ByteArray), pick_touching.l0 a0 a1 k_11 s_5 s_6 = some r ∧ ST Try.f25.ntmps a [(0, va0), (1, .int .i64 a1), (6, (.slice none 0 0)), (7, .string s_5), (8, .string s_6)] ∧ SH (fun _ => False) w w' []) k ?_ ?_
  · exact ⟨r1.1, r1.2.1, H, hst.keep _ ⟨rfl, rfl, rfl, rfl, rfl, trivial⟩, hsh.pick []⟩
  · rintro k_11 a W_7 ⟨s_5, s_6, H, hst, hsh⟩
    cases k_11 with
    | zero => rw [pick_touching.l0] at H; cases H
    | succ k_11 =>
      rw [pick_touching.l0] at H
      refine wp_block ?_
      refine wp_seq ?_
      refine wp_region_lit ?_
      refine r_t hst trivial rfl (x_move hst rfl) ?_; intro a hst
      refine r_t hst trivial rfl (x_move hst rfl) ?_; intro a hst
      refine r_t hst trivial rfl (x_move hst rfl) ?_; intro a hst
      refine r_t hst trivial rfl (x_move hst rfl) ?_; intro a hst
      obtain ⟨r31, hr31, H⟩ := Option.bind_eq_some_iff.1 H
      refine r_callD hst trivial rfl fn_52 rfl (version_Over.calls k_11 _ _ _ _ (Same.sh0 hsa0 hsh) _ hra0 a1 s_5 s_6 r31 hr31) ?_
      rintro e w32 ⟨v33, rfl, hc⟩
      replace hsh := hsh.call0 hc
      clear hc
      refine ⟨_, rfl, fun a hst => ?_⟩
      refine r_t hst trivial rfl (x_assign hst rfl) ?_; intro a hst
      refine wpList_nil ?_
      refine then_normal ?_
      refine wp_seq ?_
      refine wp_region_lit ?_
      refine r_t hst trivial rfl (x_move hst rfl) ?_; intro a hst
      obtain ⟨r35, hr35, H⟩ := Option.bind_eq_some_iff.1 H
      refine r_callD hst trivial rfl fn_14 rfl (version_Span.calls k_11 _ _ _ _ (Same.refl _ _) _ (hsh.row 0 rfl) r35 hr35) ?_
      rintro e w36 ⟨rfl, hc⟩
      replace hsh := hsh.call0 hc
      clear hc
      refine ⟨_, rfl, fun a hst => ?_⟩
      refine r_t hst trivial rfl (x_move hst rfl) ?_; intro a hst
      refine r_t hst trivial rfl (x_extract hst rfl rfl) ?_; intro a hst
      refine r_t hst trivial rfl (x_extract hst rfl rfl) ?_; intro a hst
      refine r_t hst trivial rfl (x_extract hst rfl rfl) ?_; intro a hst
      refine r_t hst trivial rfl (x_assign hst rfl) ?_; intro a hst
      refine r_t hst trivial rfl (x_assign hst rfl) ?_; intro a hst
      refine r_t hst trivial rfl (x_assign hst rfl) ?_; intro a hst
      refine wpList_nil ?_
      refine then_normal ?_
      refine wp_seq ?_
      refine wp_seq ?_
      refine wp_region_lit ?_
      refine r_t hst trivial rfl (x_move hst rfl) ?_; intro a hst
      refine r_t hst trivial rfl (x_cmpI (b := decide (0 < a1)) hst rfl rfl rfl) ?_; intro a hst
      refine r_t hst trivial rfl (x_move hst rfl) ?_; intro a hst
      refine wl_join0 (N := Try.f25.ntmps) 6 [(0, va0), (1, .int .i64 a1), (6, (.slice none 0 0)), (7, .string s_5), (8, .string s_6), (10, v33), (11, .string r35.1), (12, .string r35.2.1), (36, .bool ((decide (0 < a1)) || (!r35.2.2)))] ?_ ?_
      · intro a hst
        refine r_t hst trivial rfl (x_move hst rfl) ?_; intro a hst
        refine wl_join0 (N := Try.f25.ntmps) 16 [(0, va0), (1, .int .i64 a1), (6, (.slice none 0 0)), (7, .string s_5), (8, .string s_6), (10, v33), (11, .string r35.1), (12, .string r35.2.1), (46, .bool (((decide (0 < a1)) || (!r35.2.2)) || ((sLt s_5 r35.1 || sEq s_5 r35.1) && (sLt r35.2.1 s_6 || sEq r35.2.1 s_6))))] ?_ ?_
        · intro a hst
          refine wpList_nil ?_
          refine then_normal ?_
          by_cases c43 : (((decide (0 < a1)) || (!r35.2.2)) || ((sLt s_5 r35.1 || sEq s_5 r35.1) && (sLt r35.2.1 s_6 || sEq r35.2.1 s_6))) = true
          · rw [if_pos c43] at H
            refine wp_condT hst rfl c43 ?_
            refine wp_seq ?_
            refine wp_region_lit ?_
            refine r_t hst trivial rfl (x_move hst rfl) ?_; intro a hst
            refine r_t hst trivial rfl (x_assign hst rfl) ?_; intro a hst
            refine wpList_nil ?_
            refine then_normal ?_
            refine wp_ret ?_
            refine then_ret ?_
            refine block_ret ?_
            refine then_ret ?_
            refine block_ret ?_
            obtain rfl := Option.some.inj H
            exact ret1 hst rfl rfl ⟨v33, rfl, hsh.pick [0]⟩
          · rw [if_neg c43] at H
            replace c43 := Bool.eq_false_iff.2 c43
            refine wp_condF hst rfl c43 ?_
            refine wp_skip ?_
            refine then_normal ?_
            refine wp_region_lit ?_
            refine r_t hst trivial rfl (x_move hst rfl) ?_; intro a hst
            refine r_t hst trivial rfl (x_move hst rfl) ?_; intro a hst
            refine r_t hst trivial rfl (x_minS hst rfl rfl) ?_; intro a hst
            refine r_t hst trivial rfl (x_move hst rfl) ?_; intro a hst
            refine r_t hst trivial rfl (x_move hst rfl) ?_; intro a hst
            refine r_t hst trivial rfl (x_maxS hst rfl rfl) ?_; intro a hst
            refine r_t hst trivial rfl (x_assign hst rfl) ?_; intro a hst
            refine r_t hst trivial rfl (x_assign hst rfl) ?_; intro a hst
            refine wpList_nil ?_
            refine block_normal ?_
            refine then_normal ?_
            exact ⟨k_11, Nat.lt_succ_self _, (minS s_5 r35.1), (maxS s_6 r35.2.1), H, hst.keep _ ⟨rfl, rfl, rfl, rfl, rfl, trivial⟩, hsh.pick []⟩
        · intro hj
          by_cases c42 : ((decide (0 < a1)) || (!r35.2.2)) = true
          · refine r_not hst 37 rfl rfl c42 rfl ?_; intro a hst
            refine r_not hst 37 rfl rfl c42 rfl ?_; intro a hst
            refine r_not hst 37 rfl rfl c42 rfl ?_; intro a hst
            refine r_not hst 37 rfl rfl c42 rfl ?_; intro a hst
            refine r_notU hst 41 rfl rfl rfl ?_; intro a hst
            refine r_notU hst 41 rfl rfl rfl ?_; intro a hst
            refine r_notU hst 41 rfl rfl rfl ?_; intro a hst
            refine r_not hst 37 rfl rfl c42 rfl ?_; intro a hst
            refine r_t hst trivial rfl (x_orT ((sLt s_5 r35.1 || sEq s_5 r35.1) && (sLt r35.2.1 s_6 || sEq r35.2.1 s_6)) hst rfl c42 rfl) ?_; intro a hst
            exact hj _ (hst.keep _ ⟨rfl, rfl, rfl, rfl, rfl, rfl, rfl, rfl, rfl, trivial⟩)
          · replace c42 := Bool.eq_false_iff.2 c42
            refine r_t hst (wt_of 37 rfl rfl c42) rfl (x_move hst rfl) ?_; intro a hst
            refine r_t hst (wt_of 37 rfl rfl c42) rfl (x_move hst rfl) ?_; intro a hst
            refine r_t hst (wt_of 37 rfl rfl c42) rfl (x_cmpS (b := (sLt s_5 r35.1 || sEq s_5 r35.1)) hst rfl rfl rfl) ?_; intro a hst
            refine r_t hst (wt_of 37 rfl rfl c42) rfl (x_move hst rfl) ?_; intro a hst
            refine wl_join0 (N := Try.f25.ntmps) 15 [(0, va0), (1, .int .i64 a1), (6, (.slice none 0 0)), (7, .string s_5), (8, .string s_6), (10, v33), (11, .string r35.1), (12, .string r35.2.1), (37, .bool ((decide (0 < a1)) || (!r35.2.2))), (45, .bool ((sLt s_5 r35.1 || sEq s_5 r35.1) && (sLt r35.2.1 s_6 || sEq r35.2.1 s_6)))] ?_ ?_
            · intro a hst
              refine r_t hst trivial rfl (x_orF hst rfl c42 rfl) ?_; intro a hst
              exact hj _ (hst.keep _ ⟨rfl, rfl, rfl, rfl, rfl, rfl, rfl, rfl, rfl, trivial⟩)
            · intro hj
              by_cases c44 : (sLt s_5 r35.1 || sEq s_5 r35.1) = true
              · refine r_t hst (wt_of 41 rfl rfl c44) rfl (x_move hst rfl) ?_; intro a hst
                refine r_t hst (wt_of 41 rfl rfl c44) rfl (x_move hst rfl) ?_; intro a hst
                refine r_t hst (wt_of 41 rfl rfl c44) rfl (x_cmpS (b := (sLt r35.2.1 s_6 || sEq r35.2.1 s_6)) hst rfl rfl rfl) ?_; intro a hst
                refine r_t hst (wt_of 37 rfl rfl c42) rfl (x_andT hst rfl c44 rfl) ?_; intro a hst
                exact hj _ (hst.keep _ ⟨rfl, rfl, rfl, rfl, rfl, rfl, rfl, rfl, rfl, rfl, trivial⟩)
              · replace c44 := Bool.eq_false_iff.2 c44
                refine r_not hst 41 rfl rfl c44 rfl ?_; intro a hst
                refine r_not hst 41 rfl rfl c44 rfl ?_; intro a hst
                refine r_not hst 41 rfl rfl c44 rfl ?_; intro a hst
                refine r_t hst (wt_of 37 rfl rfl c42) rfl (x_andF (sLt r35.2.1 s_6 || sEq r35.2.1 s_6) hst rfl c44 rfl) ?_; intro a hst
                exact hj _ (hst.keep _ ⟨rfl, rfl, rfl, rfl, rfl, rfl, rfl, rfl, rfl, rfl, trivial⟩)
      · intro hj
        by_cases c41 : (decide (0 < a1)) = true
        · refine r_not hst 33 rfl rfl c41 rfl ?_; intro a hst
          refine r_not hst 33 rfl rfl c41 rfl ?_; intro a hst
          refine r_t hst trivial rfl (x_orT (!r35.2.2) hst rfl c41 rfl) ?_; intro a hst
          exact hj _ (hst.keep _ ⟨rfl, rfl, rfl, rfl, rfl, rfl, rfl, rfl, rfl, trivial⟩)
        · replace c41 := Bool.eq_false_iff.2 c41
          refine r_t hst (wt_of 33 rfl rfl c41) rfl (x_move hst rfl) ?_; intro a hst
          refine r_t hst (wt_of 33 rfl rfl c41) rfl (x_notB hst rfl) ?_; intro a hst
          refine r_t hst trivial rfl (x_orF hst rfl c41 rfl) ?_; intro a hst
          exact hj _ (hst.keep _ ⟨rfl, rfl, rfl, rfl, rfl, rfl, rfl, rfl, rfl, trivial⟩)

set_option maxHeartbeats 4000000 in
set_option maxRecDepth 100000 in
theorem pick_under.calls (k : Nat) (w : World) (va0 : Value) (Za0 : Nat → Prop) (wra0 : World) (hsa0 : Same Za0 wra0 w) (a0 : (List (List File))) (hra0 : RD (Kd.slice 43 k_File) Za0 wra0 va0 a0) (a1 : Int) (va2 : Value) (Za2 : Nat → Prop) (wra2 : World) (hsa2 : Same Za2 wra2 w) (a2 : (List File)) (hra2 : RD k_File Za2 wra2 va2 a2) (r : (List File)) (h : pick_under k a0 a1 a2 = some r) :
    Calls Try.prog 26 ([va0, .int .i64 a1, va2] : List Value).toArray w fun e w' => ∃ v0_ : Value, e = .returned (v0_) ∧ SH (fun _ => False) w w' [Row k_File 43 v0_ r] := by
  have H := h
  clear h
  unfold pick_under at H
  refine calls_enter Try.func26 rfl rfl ?_
  intro a hst
  have hsh := SH.zero (fun _ => False) w
  refine wp_seq ?_
  refine wp_region_lit ?_
  refine r_t hst trivial rfl (x_assign hst rfl) ?_; intro a hst
  refine wpList_nil ?_
  refine then_normal ?_
  refine wp_seq ?_
  refine wp_region_lit ?_
  refine r_t hst trivial rfl (x_move hst rfl) ?_; intro a hst
  obtain ⟨r1, hr1, H⟩ := Option.bind_eq_some_iff.1 H
  refine r_callD hst trivial rfl fn_14 rfl (version_Span.calls k _ _ _ _ (Same.sh0 hsa2 hsh) _ hra2 r1 hr1) ?_
  rintro e w2 ⟨rfl, hc⟩
  replace hsh := hsh.call0 hc
  clear hc
  refine ⟨_, rfl, fun a hst => ?_⟩
  refine r_t hst trivial rfl (x_move hst rfl) ?_; intro a hst
  refine r_t hst trivial rfl (x_extract hst rfl rfl) ?_; intro a hst
  refine r_t hst trivial rfl (x_extract hst rfl rfl) ?_; intro a hst
  refine r_t hst trivial rfl (x_extract hst rfl rfl) ?_; intro a hst
  refine r_t hst trivial rfl (x_assign hst rfl) ?_; intro a hst
  refine r_t hst trivial rfl (x_assign hst rfl) ?_; intro a hst
  refine r_t hst trivial rfl (x_assign hst rfl) ?_; intro a hst
  refine wpList_nil ?_
  refine then_normal ?_
  refine wp_seq ?_
  refine wp_region_lit ?_
  refine r_t hst trivial rfl (x_move hst rfl) ?_; intro a hst
  refine r_t hst trivial rfl (x_move hst rfl) ?_; intro a hst
  refine r_t hst trivial rfl (x_arI (r := w64 (a1 + 1)) hst rfl rfl rfl) ?_; intro a hst
  refine r_t hst trivial rfl (x_move hst rfl) ?_; intro a hst
  refine r_t hst trivial rfl (x_move hst rfl) ?_; intro a hst
  obtain ⟨r3, hr3, H⟩ := Option.bind_eq_some_iff.1 H
  refine r_callD hst trivial rfl fn_52 rfl (version_Over.calls k _ _ _ _ (Same.sh0 hsa0 hsh) _ hra0 (w64 (a1 + 1)) r1.1 r1.2.1 r3 hr3) ?_
  rintro e w4 ⟨v5, rfl, hc⟩
  replace hsh := hsh.call0 hc
  clear hc
  refine ⟨_, rfl, fun a hst => ?_⟩
  refine r_t hst trivial rfl (x_assign hst rfl) ?_; intro a hst
  refine wpList_nil ?_
  refine then_normal ?_
  refine wp_ret ?_
  obtain rfl := Option.some.inj H
  exact ret1 hst rfl rfl ⟨v5, rfl, hsh.pick [0]⟩

set_option maxHeartbeats 4000000 in
set_option maxRecDepth 100000 in
theorem slices_Grow_File_nil.calls (w : World) (a1 : Int) (r : (List File)) (h : slices_Grow_File_nil a1 = some r) :
    Calls Try.prog 53 ([.slice none 0 0, .int .i64 a1] : List Value).toArray w fun e w' => ∃ v0_ : Value, e = .returned (v0_) ∧ SH (fun _ => False) w w' [Row k_File 43 v0_ r] := by
  have H := h
  clear h
  unfold slices_Grow_File_nil at H
  refine calls_enter Try.func53 rfl rfl ?_
  intro a hst
  have hsh := SH.zero (fun _ => False) w
  refine wp_seq ?_
  refine wp_region_lit ?_
  refine r_t hst trivial rfl (x_assign hst rfl) ?_; intro a hst
  refine wpList_nil ?_
  refine then_normal ?_
  refine wp_seq ?_
  refine wp_seq ?_
  refine wp_region_lit ?_
  refine r_t hst trivial rfl (x_move hst rfl) ?_; intro a hst
  refine r_t hst trivial rfl (x_cmpI (b := decide (a1 < 0)) hst rfl rfl rfl) ?_; intro a hst
  refine wpList_nil ?_
  refine then_normal ?_
  by_cases c2 : (decide (a1 < 0)) = true
  · rw [if_pos c2] at H
    refine wp_condT hst rfl c2 ?_
    cases H
  · rw [if_neg c2] at H
    replace c2 := Bool.eq_false_iff.2 c2
    refine wp_condF hst rfl c2 ?_
    refine wp_skip ?_
    refine then_normal ?_
    obtain ⟨J_5, hJ_5, H⟩ := Jn.elim H
    refine wp_cut (fun a w' => ∃ (v_2 : Value), ∃ (l_3 : (List File)), J_5 l_3 = some r ∧ ST Try.f53.ntmps a [(0, v_2), (4, (.slice none 0 0))] ∧ SH (fun _ => False) w w' [Row k_File 43 v_2 l_3]) ?_ ?_
    · rintro a W_4 ⟨v_2, l_3, H, hst, hsh⟩
      subst hJ_5
      dsimp only at H
      refine wp_seq ?_
      refine wp_region_lit ?_
      refine r_t hst trivial rfl (x_move hst rfl) ?_; intro a hst
      refine r_t hst trivial rfl (x_assign hst rfl) ?_; intro a hst
      refine wpList_nil ?_
      refine then_normal ?_
      refine wp_ret ?_
      obtain rfl := Option.some.inj H
      exact ret1 hst rfl rfl ⟨v_2, rfl, hsh.pick [0]⟩
    · refine wp_seq ?_
      refine wp_region_lit ?_
      refine r_t hst trivial rfl (x_move hst rfl) ?_; intro a hst
      refine r_t hst trivial rfl (x_move hst rfl) ?_; intro a hst
      refine r_t hst trivial rfl (x_capNil hst Try.underlying31 rfl) ?_; intro a hst
      refine r_t hst trivial rfl (x_move hst rfl) ?_; intro a hst
      refine r_t hst trivial rfl (x_lenSl hst Try.underlying31 rfl ⟨none, 0, rfl⟩) ?_; intro a hst
      refine r_t hst trivial rfl (x_arI (r := w64 (0 - 0)) hst rfl rfl rfl) ?_; intro a hst
      refine r_t hst trivial rfl (x_arI (r := w64 (a1 - (w64 (0 - 0)))) hst rfl rfl rfl) ?_; intro a hst
      refine r_t hst trivial rfl (x_assign hst rfl) ?_; intro a hst
      refine wpList_nil ?_
      refine then_normal ?_
      refine wp_seq ?_
      refine wp_region_lit ?_
      refine r_t hst trivial rfl (x_move hst rfl) ?_; intro a hst
      refine r_t hst trivial rfl (x_cmpI (b := decide (0 < (w64 (a1 - (w64 (0 - 0)))))) hst rfl rfl rfl) ?_; intro a hst
      refine wpList_nil ?_
      refine then_normal ?_
      by_cases c9 : (decide (0 < (w64 (a1 - (w64 (0 - 0)))))) = true
      · rw [if_pos c9] at H
        refine wp_condT hst rfl c9 ?_
        refine wp_region_lit ?_
        refine r_t hst trivial rfl (x_move hst rfl) ?_; intro a hst
        refine r_t hst trivial rfl (x_move hst rfl) ?_; intro a hst
        refine r_t hst trivial rfl (x_capNil hst Try.underlying31 rfl) ?_; intro a hst
        refine r_t hst trivial rfl (x_cutNil hst Try.underlying31 el_43 rfl rfl) ?_; intro a hst
        refine r_t hst trivial rfl (x_move hst rfl) ?_; intro a hst
        obtain ⟨l10, hl10, H⟩ := Option.bind_eq_some_iff.1 H
        refine r_appendZ (dk := k_File) (z := (⟨0, 0, (ByteArray.mk #[]), (ByteArray.mk #[]), 0, 0⟩ : File)) (zc := [.int .i64 0, .int .i64 0, .string (ByteArray.mk #[]), .string (ByteArray.mk #[]), .int .u64 0, .int .u64 0]) hst hsh trivial rfl Try.underlying31 Try.underlying3 el_43 zr_43 (by decide) (by decide) (by decide) rfl rfl mf_flat hl10 ?_
        intro v12 a w13 hsh hst
        refine r_t hst trivial rfl (x_move hst rfl) ?_; intro a hst
        refine r_t hst trivial rfl (x_lenSl hst Try.underlying31 rfl ⟨none, 0, rfl⟩) ?_; intro a hst
        obtain ⟨l14, hl14, H⟩ := Option.bind_eq_some_iff.1 H
        refine r_t hst trivial rfl (x_cutH hst Try.underlying31 el_43 rfl rfl (hsh.row 0 rfl) hl14) ?_; intro a hst
        replace hsh := hsh.cutRow 0 rfl hl14
        refine r_t hst trivial rfl (x_assign hst rfl) ?_; intro a hst
        refine wpList_nil ?_
        refine then_normal ?_
        exact ⟨(cutV v12 (Int.toNat 0) (Int.toNat 0) k_File.sz), l14, H, hst.keep _ ⟨rfl, rfl, trivial⟩, hsh.pick [0]⟩
      · rw [if_neg c9] at H
        replace c9 := Bool.eq_false_iff.2 c9
        refine wp_condF hst rfl c9 ?_
        refine wp_skip ?_
        refine then_normal ?_
        have hsh := hsh.addNil k_File 43
        exact ⟨(.slice none 0 0), ([]), H, hst.keep _ ⟨rfl, rfl, trivial⟩, hsh.pick [0]⟩

set_option maxHeartbeats 4000000 in
set_option maxRecDepth 100000 in
theorem slices_Concat_File.calls (k : Nat) (w : World) (va0 : Value) (Za0 : Nat → Prop) (wra0 : World) (hsa0 : Same Za0 wra0 w) (a0 : (List (List File))) (hra0 : RD (Kd.slice 43 k_File) Za0 wra0 va0 a0) (r : (List File)) (h : slices_Concat_File k a0 = some r) :
    Calls Try.prog 27 ([va0] : List Value).toArray w fun e w' => ∃ v0_ : Value, e = .returned (v0_) ∧ SH (fun _ => False) w w' [Row k_File 43 v0_ r] := by
  have H := h
  clear h
  unfold slices_Concat_File at H
  refine calls_enter Try.func27 rfl rfl ?_
  intro a hst
  have hsh := SH.zero (fun _ => False) w
  refine wp_seq ?_
  refine wp_region_lit ?_
  refine r_t hst trivial rfl (x_assign hst rfl) ?_; intro a hst
  refine wpList_nil ?_
  refine then_normal ?_
  refine wp_seq ?_
  refine wp_region_lit ?_
  refine r_t hst trivial rfl (x_assign hst rfl) ?_; intro a hst
  refine wpList_nil ?_
  refine then_normal ?_
  refine wp_seq ?_
  refine wp_seq ?_
  refine wp_region_lit ?_
  refine r_t hst trivial rfl (x_move hst rfl) ?_; intro a hst
  refine r_t hst trivial rfl (x_lenSl hst Try.underlying22 rfl hra0.slen) ?_; intro a hst
  refine r_t hst trivial rfl (x_move hst rfl) ?_; intro a hst
  refine wpList_nil ?_
  refine then_normal ?_
  refine wp_block ?_
  refine wp_loop_fuel (fun k_22 a w' => ∃ (i_16 : Int), ∃ (i_17 : Int), slices_Concat_File.l0 a0 k_22 i_16 i_17 = some r ∧ ST Try.f27.ntmps a [(0, va0), (2, (.slice none 0 0)), (3, .int .i64 i_16), (9, va0), (10, .int .i64 (a0.length : Int)), (11, .int .i64 i_17)] ∧ SH (fun _ => False) w w' []) k ?_ ?_
  · exact ⟨0, 0, H, hst.keep _ ⟨rfl, rfl, rfl, rfl, rfl, rfl, trivial⟩, hsh.pick []⟩
  · rintro k_22 a W_18 ⟨i_16, i_17, H, hst, hsh⟩
    cases k_22 with
    | zero => rw [slices_Concat_File.l0] at H; cases H
    | succ k_22 =>
      rw [slices_Concat_File.l0] at H
      refine wp_seq ?_
      refine wp_region_lit ?_
      refine r_t hst trivial rfl (x_cmpI (b := decide (i_17 < (a0.length : Int))) hst rfl rfl rfl) ?_; intro a hst
      refine wpList_nil ?_
      refine then_normal ?_
      refine wp_seq ?_
      by_cases c72 : (decide (i_17 < (a0.length : Int))) = true
      · rw [if_pos c72] at H
        refine wp_condT hst rfl c72 ?_
        refine wp_skip ?_
        refine then_normal ?_
        refine wp_seq ?_
        refine wp_block ?_
        refine wp_seq ?_
        refine wp_region_lit ?_
        obtain ⟨x79, hx79, H⟩ := Option.bind_eq_some_iff.1 H
        refine r_t hst trivial rfl (x_indexAddr hst Try.underlying22 el_31 rfl rfl hra0 hx79) ?_; intro a hst
        obtain ⟨_, hk80, hc81⟩ := RD.cells2 hra0 hx79
        obtain ⟨v82, rfl, hr83⟩ := hk80
        refine r_t hst trivial rfl (x_loadC hst sc_31 rfl (hc81 _ (Same.sh0 hsa0 hsh) 0 _ rfl)) ?_; intro a hst
        refine r_t hst trivial rfl (x_assign hst rfl) ?_; intro a hst
        refine wpList_nil ?_
        refine then_normal ?_
        refine wp_seq ?_
        refine wp_region_lit ?_
        refine r_t hst trivial rfl (x_move hst rfl) ?_; intro a hst
        refine r_t hst trivial rfl (x_move hst rfl) ?_; intro a hst
        refine r_t hst trivial rfl (x_lenSl hst Try.underlying31 rfl hr83.slen) ?_; intro a hst
        refine r_t hst trivial rfl (x_arI (r := w64 (i_16 + (x79.length : Int))) hst rfl rfl rfl) ?_; intro a hst
        refine r_t hst trivial rfl (x_assign hst rfl) ?_; intro a hst
        refine wpList_nil ?_
        refine then_normal ?_
        refine wp_seq ?_
        refine wp_region_lit ?_
        refine r_t hst trivial rfl (x_move hst rfl) ?_; intro a hst
        refine r_t hst trivial rfl (x_cmpI (b := decide ((w64 (i_16 + (x79.length : Int))) < 0)) hst rfl rfl rfl) ?_; intro a hst
        refine wpList_nil ?_
        refine then_normal ?_
        by_cases c84 : (decide ((w64 (i_16 + (x79.length : Int))) < 0)) = true
        · rw [if_pos c84] at H
          refine wp_condT hst rfl c84 ?_
          cases H
        · rw [if_neg c84] at H
          replace c84 := Bool.eq_false_iff.2 c84
          refine wp_condF hst rfl c84 ?_
          refine wp_skip ?_
          refine block_normal ?_
          refine then_normal ?_
          refine wp_region_lit ?_
          refine r_t hst trivial rfl (x_arI (r := w64 (i_17 + 1)) hst rfl rfl rfl) ?_; intro a hst
          refine r_t hst trivial rfl (x_move hst rfl) ?_; intro a hst
          refine wpList_nil ?_
          refine then_normal ?_
          exact ⟨k_22, Nat.lt_succ_self _, (w64 (i_16 + (x79.length : Int))), (w64 (i_17 + 1)), H, hst.keep _ ⟨rfl, rfl, rfl, rfl, rfl, rfl, trivial⟩, hsh.pick []⟩
      · rw [if_neg c72] at H
        replace c72 := Bool.eq_false_iff.2 c72
        refine wp_condF hst rfl c72 ?_
        refine wp_exit ?_
        refine then_exit ?_
        refine then_exit ?_
        refine block_hit ?_
        refine then_normal ?_
        refine wp_seq ?_
        refine wp_region_lit ?_
        refine r_t hst trivial rfl (x_move hst rfl) ?_; intro a hst
        obtain ⟨r85, hr85, H⟩ := Option.bind_eq_some_iff.1 H
        refine r_callD hst trivial rfl fn_53 rfl (slices_Grow_File_nil.calls _ i_16 r85 hr85) ?_
        rintro e w86 ⟨v87, rfl, hc⟩
        replace hsh := hsh.call0 hc
        clear hc
        refine ⟨_, rfl, fun a hst => ?_⟩
        refine r_t hst trivial rfl (x_assign hst rfl) ?_; intro a hst
        refine wpList_nil ?_
        refine then_normal ?_
        obtain ⟨J_40, hJ_40, H⟩ := Jn.elim H
        refine wp_cut (fun a w' => ∃ (v_37 : Value), ∃ (l_38 : (List File)), J_40 l_38 = some r ∧ ST Try.f27.ntmps a [(2, (.slice none 0 0)), (6, v_37)] ∧ SH (fun _ => False) w w' [Row k_File 43 v_37 l_38]) ?_ ?_
        · rintro a W_39 ⟨v_37, l_38, H, hst, hsh⟩
          subst hJ_40
          dsimp only at H
          refine wp_seq ?_
          refine wp_region_lit ?_
          refine r_t hst trivial rfl (x_move hst rfl) ?_; intro a hst
          refine r_t hst trivial rfl (x_assign hst rfl) ?_; intro a hst
          refine wpList_nil ?_
          refine then_normal ?_
          refine wp_ret ?_
          obtain rfl := Option.some.inj H
          exact ret1 hst rfl rfl ⟨v_37, rfl, hsh.pick [0]⟩
        · refine wp_seq ?_
          refine wp_region_lit ?_
          refine r_t hst trivial rfl (x_move hst rfl) ?_; intro a hst
          refine r_t hst trivial rfl (x_lenSl hst Try.underlying22 rfl hra0.slen) ?_; intro a hst
          refine r_t hst trivial rfl (x_move hst rfl) ?_; intro a hst
          refine wpList_nil ?_
          refine then_normal ?_
          refine wp_block ?_
          refine wp_loop_fuel (fun k_54 a w' => ∃ (v_46 : Value), ∃ (l_47 : (List File)), ∃ (i_48 : Int), slices_Concat_File.l1 a0 J_40 k_54 l_47 i_48 = some r ∧ ST Try.f27.ntmps a [(2, (.slice none 0 0)), (6, v_46), (25, va0), (26, .int .i64 (a0.length : Int)), (27, .int .i64 i_48)] ∧ SH (fun _ => False) w w' [Row k_File 43 v_46 l_47]) k_22 ?_ ?_
          · exact ⟨v87, r85, 0, H, hst.keep _ ⟨rfl, rfl, rfl, rfl, rfl, trivial⟩, hsh.pick [0]⟩
          · rintro k_54 a W_49 ⟨v_46, l_47, i_48, H, hst, hsh⟩
            cases k_54 with
            | zero => rw [slices_Concat_File.l1] at H; cases H
            | succ k_54 =>
              rw [slices_Concat_File.l1] at H
              refine wp_seq ?_
              refine wp_region_lit ?_
              refine r_t hst trivial rfl (x_cmpI (b := decide (i_48 < (a0.length : Int))) hst rfl rfl rfl) ?_; intro a hst
              refine wpList_nil ?_
              refine then_normal ?_
              refine wp_seq ?_
              by_cases c180 : (decide (i_48 < (a0.length : Int))) = true
              · rw [if_pos c180] at H
                refine wp_condT hst rfl c180 ?_
                refine wp_skip ?_
                refine then_normal ?_
                refine wp_seq ?_
                refine wp_block ?_
                refine wp_seq ?_
                refine wp_region_lit ?_
                obtain ⟨x189, hx189, H⟩ := Option.bind_eq_some_iff.1 H
                refine r_t hst trivial rfl (x_indexAddr hst Try.underlying22 el_31 rfl rfl hra0 hx189) ?_; intro a hst
                obtain ⟨_, hk190, hc191⟩ := RD.cells2 hra0 hx189
                obtain ⟨v192, rfl, hr193⟩ := hk190
                refine r_t hst trivial rfl (x_loadC hst sc_31 rfl (hc191 _ (Same.sh0 hsa0 hsh) 0 _ rfl)) ?_; intro a hst
                refine r_t hst trivial rfl (x_assign hst rfl) ?_; intro a hst
                refine wpList_nil ?_
                refine then_normal ?_
                refine wp_region_lit ?_
                refine r_t hst trivial rfl (x_move hst rfl) ?_; intro a hst
                refine r_t hst trivial rfl (x_move hst rfl) ?_; intro a hst
                replace hsh := hsh.pick [0]
                obtain ⟨l194, hl194, H⟩ := Option.bind_eq_some_iff.1 H
                refine r_appendN (M := []) hst hsh trivial rfl Try.underlying31 el_43 (by decide) (by decide) (by decide) rfl rfl (flat_flat _ _ _ _) hr193 (Same.sh0 hsa0 hsh) hl194 ?_
                intro v195 a w196 hsh hst
                refine r_t hst trivial rfl (x_assign hst rfl) ?_; intro a hst
                refine wpList_nil ?_
                refine block_normal ?_
                refine then_normal ?_
                refine wp_region_lit ?_
                refine r_t hst trivial rfl (x_arI (r := w64 (i_48 + 1)) hst rfl rfl rfl) ?_; intro a hst
                refine r_t hst trivial rfl (x_move hst rfl) ?_; intro a hst
                refine wpList_nil ?_
                refine then_normal ?_
                exact ⟨k_54, Nat.lt_succ_self _, v195, l194, (w64 (i_48 + 1)), H, hst.keep _ ⟨rfl, rfl, rfl, rfl, rfl, trivial⟩, hsh.pick [0]⟩
              · rw [if_neg c180] at H
                replace c180 := Bool.eq_false_iff.2 c180
                refine wp_condF hst rfl c180 ?_
                refine wp_exit ?_
                refine then_exit ?_
                refine then_exit ?_
                refine block_hit ?_
                refine then_normal ?_
                exact ⟨v_46, l_47, H, hst.keep _ ⟨rfl, rfl, trivial⟩, hsh.pick [0]⟩

set_option maxHeartbeats 4000000 in
set_option maxRecDepth 100000 in
theorem slices_Equal_File.calls (k : Nat) (w : World) (va0 : Value) (Za0 : Nat → Prop) (wra0 : World) (hsa0 : Same Za0 wra0 w) (a0 : (List File)) (hra0 : RD k_File Za0 wra0 va0 a0) (va1 : Value) (Za1 : Nat → Prop) (wra1 : World) (hsa1 : Same Za1 wra1 w) (a1 : (List File)) (hra1 : RD k_File Za1 wra1 va1 a1) (r : Bool) (h : slices_Equal_File k a0 a1 = some r) :
    Calls Try.prog 28 ([va0, va1] : List Value).toArray w fun e w' => e = .returned (.bool r) ∧ SH (fun _ => False) w w' [] := by
  have H := h
  clear h
  unfold slices_Equal_File at H
  refine calls_enter Try.func28 rfl rfl ?_
  intro a hst
  have hsh := SH.zero (fun _ => False) w
  refine wp_seq ?_
  refine wp_region_lit ?_
  refine r_t hst trivial rfl (x_assign hst rfl) ?_; intro a hst
  refine wpList_nil ?_
  refine then_normal ?_
  refine wp_seq ?_
  refine wp_seq ?_
  refine wp_region_lit ?_
  refine r_t hst trivial rfl (x_move hst rfl) ?_; intro a hst
  refine r_t hst trivial rfl (x_lenSl hst Try.underlying31 rfl hra0.slen) ?_; intro a hst
  refine r_t hst trivial rfl (x_move hst rfl) ?_; intro a hst
  refine r_t hst trivial rfl (x_lenSl hst Try.underlying31 rfl hra1.slen) ?_; intro a hst
  refine r_t hst trivial rfl (x_cmpI (b := ((a0.length : Int) != (a1.length : Int))) hst rfl rfl rfl) ?_; intro a hst
  refine wpList_nil ?_
  refine then_normal ?_
  by_cases c2 : ((a0.length : Int) != (a1.length : Int)) = true
  · rw [if_pos c2] at H
    refine wp_condT hst rfl c2 ?_
    refine wp_seq ?_
    refine wp_region_lit ?_
    refine r_t hst trivial rfl (x_assign hst rfl) ?_; intro a hst
    refine wpList_nil ?_
    refine then_normal ?_
    refine wp_ret ?_
    refine then_ret ?_
    obtain rfl := Option.some.inj H
    exact ret1 hst rfl rfl ⟨rfl, hsh.pick []⟩
  · rw [if_neg c2] at H
    replace c2 := Bool.eq_false_iff.2 c2
    refine wp_condF hst rfl c2 ?_
    refine wp_skip ?_
    refine then_normal ?_
    refine wp_seq ?_
    refine wp_seq ?_
    refine wp_region_lit ?_
    refine r_t hst trivial rfl (x_move hst rfl) ?_; intro a hst
    refine r_t hst trivial rfl (x_lenSl hst Try.underlying31 rfl hra0.slen) ?_; intro a hst
    refine r_t hst trivial rfl (x_move hst rfl) ?_; intro a hst
    refine wpList_nil ?_
    refine then_normal ?_
    refine wp_block ?_
    refine wp_loop_fuel (fun k_16 a w' => ∃ (i_12 : Int), slices_Equal_File.l0 a0 a1 k_16 i_12 = some r ∧ ST Try.f28.ntmps a [(0, va0), (1, va1), (4, .bool false), (12, .int .i64 (a0.length : Int)), (13, .int .i64 i_12)] ∧ SH (fun _ => False) w w' []) k ?_ ?_
    · exact ⟨0, H, hst.keep _ ⟨rfl, rfl, rfl, rfl, rfl, trivial⟩, hsh.pick []⟩
    · rintro k_16 a W_13 ⟨i_12, H, hst, hsh⟩
      cases k_16 with
      | zero => rw [slices_Equal_File.l0] at H; cases H
      | succ k_16 =>
        rw [slices_Equal_File.l0] at H
        refine wp_seq ?_
        refine wp_region_lit ?_
        refine r_t hst trivial rfl (x_cmpI (b := decide (i_12 < (a0.length : Int))) hst rfl rfl rfl) ?_; intro a hst
        refine wpList_nil ?_
        refine then_normal ?_
        refine wp_seq ?_
        by_cases c54 : (decide (i_12 < (a0.length : Int))) = true
        · rw [if_pos c54] at H
          refine wp_condT hst rfl c54 ?_
          refine wp_skip ?_
          refine then_normal ?_
          refine wp_seq ?_
          refine wp_block ?_
          refine wp_seq ?_
          refine wp_region_lit ?_
          refine r_t hst trivial rfl (x_move hst rfl) ?_; intro a hst
          refine r_t hst trivial rfl (x_assign hst rfl) ?_; intro a hst
          refine wpList_nil ?_
          refine then_normal ?_
          refine wp_seq ?_
          refine wp_region_q (fun w' => SH (fun _ => False) w w' []) hsh.drew fo (by kernel_rfl) ?_
          refine q_t hst trivial rfl (fun _ hsh => x_move hst rfl) ?_; intro a hst
          refine q_t hst trivial rfl (fun _ hsh => x_move hst rfl) ?_; intro a hst
          obtain ⟨x59, hx59, H⟩ := Option.bind_eq_some_iff.1 H
          refine q_t hst trivial rfl (fun _ hsh => x_indexAddr hst Try.underlying31 el_43 rfl rfl hra0 hx59) ?_; intro a hst
          refine q_t hst trivial rfl (fun _ hsh => x_loadEsF (j := 0) (cs := [.int .i64 x59.Number, .int .i64 x59.Size, .string x59.Least, .string x59.Limit, .int .u64 x59.Low, .int .u64 x59.High]) (ps := [.int .i64 x59.Number, .int .i64 x59.Size, .string x59.Least, .string x59.Limit, .int .u64 x59.Low, .int .u64 x59.High]) hst ag_43 rfl hra0 (Same.sh0 hsa0 hsh) hx59 rfl (fun _ h => h) rfl) ?_; intro a hst
          refine q_t hst trivial rfl (fun _ hsh => x_move hst rfl) ?_; intro a hst
          refine q_t hst trivial rfl (fun _ hsh => x_move hst rfl) ?_; intro a hst
          obtain ⟨x60, hx60, H⟩ := Option.bind_eq_some_iff.1 H
          refine q_t hst trivial rfl (fun _ hsh => x_indexAddr hst Try.underlying31 el_43 rfl rfl hra1 hx60) ?_; intro a hst
          refine q_t hst trivial rfl (fun _ hsh => x_loadEsF (j := 0) (cs := [.int .i64 x60.Number, .int .i64 x60.Size, .string x60.Least, .string x60.Limit, .int .u64 x60.Low, .int .u64 x60.High]) (ps := [.int .i64 x60.Number, .int .i64 x60.Size, .string x60.Least, .string x60.Limit, .int .u64 x60.Low, .int .u64 x60.High]) hst ag_43 rfl hra1 (Same.sh0 hsa1 hsh) hx60 rfl (fun _ h => h) rfl) ?_; intro a hst
          refine q_t hst trivial rfl (fun _ hsh => x_eqSn (b := File.eqb x59 x60) (x0 := x59) (y0 := x60) hst eqof_43 rfl rfl rfl) ?_; intro a hst
          refine q_nil ?_
          intro w61 hsh
          refine then_normal ?_
          by_cases c62 : (!File.eqb x59 x60) = true
          · rw [if_pos c62] at H
            refine wp_condT hst rfl c62 ?_
            refine wp_seq ?_
            refine wp_region_lit ?_
            refine r_t hst trivial rfl (x_assign hst rfl) ?_; intro a hst
            refine wpList_nil ?_
            refine then_normal ?_
            refine wp_ret ?_
            refine block_ret ?_
            refine then_ret ?_
            refine then_ret ?_
            refine block_ret ?_
            refine then_ret ?_
            obtain rfl := Option.some.inj H
            exact ret1 hst rfl rfl ⟨rfl, hsh.pick []⟩
          · rw [if_neg c62] at H
            replace c62 := Bool.eq_false_iff.2 c62
            refine wp_condF hst rfl c62 ?_
            refine wp_skip ?_
            refine block_normal ?_
            refine then_normal ?_
            refine wp_region_lit ?_
            refine r_t hst trivial rfl (x_arI (r := w64 (i_12 + 1)) hst rfl rfl rfl) ?_; intro a hst
            refine r_t hst trivial rfl (x_move hst rfl) ?_; intro a hst
            refine wpList_nil ?_
            refine then_normal ?_
            exact ⟨k_16, Nat.lt_succ_self _, (w64 (i_12 + 1)), H, hst.keep _ ⟨rfl, rfl, rfl, rfl, rfl, trivial⟩, hsh.pick []⟩
        · rw [if_neg c54] at H
          replace c54 := Bool.eq_false_iff.2 c54
          refine wp_condF hst rfl c54 ?_
          refine wp_exit ?_
          refine then_exit ?_
          refine then_exit ?_
          refine block_hit ?_
          refine then_normal ?_
          refine wp_seq ?_
          refine wp_region_lit ?_
          refine r_t hst trivial rfl (x_assign hst rfl) ?_; intro a hst
          refine wpList_nil ?_
          refine then_normal ?_
          refine wp_ret ?_
          obtain rfl := Option.some.inj H
          exact ret1 hst rfl rfl ⟨rfl, hsh.pick []⟩

set_option maxHeartbeats 4000000 in
set_option maxRecDepth 100000 in
theorem pick_size.calls (k : Nat) (w : World) (va0 : Value) (Za0 : Nat → Prop) (wra0 : World) (hsa0 : Same Za0 wra0 w) (a0 : (List File)) (hra0 : RD k_File Za0 wra0 va0 a0) (r : Int) (h : pick_size k a0 = some r) :
    Calls Try.prog 29 ([va0] : List Value).toArray w fun e w' => e = .returned (.int .i64 r) ∧ SH (fun _ => False) w w' [] := by
  have H := h
  clear h
  unfold pick_size at H
  refine calls_enter Try.func29 rfl rfl ?_
  intro a hst
  have hsh := SH.zero (fun _ => False) w
  refine wp_seq ?_
  refine wp_region_lit ?_
  refine r_t hst trivial rfl (x_assign hst rfl) ?_; intro a hst
  refine wpList_nil ?_
  refine then_normal ?_
  refine wp_seq ?_
  refine wp_region_lit ?_
  refine r_t hst trivial rfl (x_assign hst rfl) ?_; intro a hst
  refine wpList_nil ?_
  refine then_normal ?_
  refine wp_seq ?_
  refine wp_seq ?_
  refine wp_region_lit ?_
  refine r_t hst trivial rfl (x_move hst rfl) ?_; intro a hst
  refine r_t hst trivial rfl (x_lenSl hst Try.underlying31 rfl hra0.slen) ?_; intro a hst
  refine r_t hst trivial rfl (x_move hst rfl) ?_; intro a hst
  refine wpList_nil ?_
  refine then_normal ?_
  refine wp_block ?_
  refine wp_loop_fuel (fun k_22 a w' => ∃ (i_16 : Int), ∃ (i_17 : Int), pick_size.l0 a0 k_22 i_16 i_17 = some r ∧ ST Try.f29.ntmps a [(2, .int .i64 0), (3, .int .i64 i_16), (6, va0), (7, .int .i64 (a0.length : Int)), (8, .int .i64 i_17)] ∧ SH (fun _ => False) w w' []) k ?_ ?_
  · exact ⟨0, 0, H, hst.keep _ ⟨rfl, rfl, rfl, rfl, rfl, trivial⟩, hsh.pick []⟩
  · rintro k_22 a W_18 ⟨i_16, i_17, H, hst, hsh⟩
    cases k_22 with
    | zero => rw [pick_size.l0] at H; cases H
    | succ k_22 =>
      rw [pick_size.l0] at H
      refine wp_seq ?_
      refine wp_region_lit ?_
      refine r_t hst trivial rfl (x_cmpI (b := decide (i_17 < (a0.length : Int))) hst rfl rfl rfl) ?_; intro a hst
      refine wpList_nil ?_
      refine then_normal ?_
      refine wp_seq ?_
      by_cases c52 : (decide (i_17 < (a0.length : Int))) = true
      · rw [if_pos c52] at H
        refine wp_condT hst rfl c52 ?_
        refine wp_skip ?_
        refine then_normal ?_
        refine wp_seq ?_
        refine wp_block ?_
        refine wp_seq ?_
        refine wp_region_lit ?_
        obtain ⟨x57, hx57, H⟩ := Option.bind_eq_some_iff.1 H
        refine r_t hst trivial rfl (x_indexAddr hst Try.underlying31 el_43 rfl rfl hra0 hx57) ?_; intro a hst
        refine r_t hst trivial rfl (x_loadEsF (j := 0) (cs := [.int .i64 x57.Number, .int .i64 x57.Size, .string x57.Least, .string x57.Limit, .int .u64 x57.Low, .int .u64 x57.High]) (ps := [.int .i64 x57.Number, .int .i64 x57.Size, .string x57.Least, .string x57.Limit, .int .u64 x57.Low, .int .u64 x57.High]) hst ag_43 rfl hra0 (Same.sh0 hsa0 hsh) hx57 rfl (fun _ h => h) rfl) ?_; intro a hst
        refine r_alloc hst hsh trivial rfl zr_43 ?_
        intro g58 a w59 hgg58 hsh hst
        refine r_storeBs (i := 0) (cs' := [.int .i64 x57.Number, .int .i64 x57.Size, .string x57.Least, .string x57.Limit, .int .u64 x57.Low, .int .u64 x57.High]) (vs := [.int .i64 x57.Number, .int .i64 x57.Size, .string x57.Least, .string x57.Limit, .int .u64 x57.Low, .int .u64 x57.High]) hst hsh trivial ag_43 rfl rfl rfl rfl rfl rfl ?_; intro a w60 hsh hst
        refine wpList_nil ?_
        refine then_normal ?_
        refine wp_region_lit ?_
        refine r_t hst trivial rfl (x_move hst rfl) ?_; intro a hst
        refine r_t hst trivial rfl (x_fieldAddr (j' := 1) hst fa_43_1 rfl rfl) ?_; intro a hst
        refine r_t hst trivial rfl (x_loadB (i := 0) hst hsh sc_3 rfl rfl rfl) ?_; intro a hst
        refine r_t hst trivial rfl (x_arI (r := w64 (i_16 + x57.Size)) hst rfl rfl rfl) ?_; intro a hst
        refine r_t hst trivial rfl (x_assign hst rfl) ?_; intro a hst
        refine wpList_nil ?_
        refine block_normal ?_
        refine then_normal ?_
        refine wp_region_lit ?_
        refine r_t hst trivial rfl (x_arI (r := w64 (i_17 + 1)) hst rfl rfl rfl) ?_; intro a hst
        refine r_t hst trivial rfl (x_move hst rfl) ?_; intro a hst
        refine wpList_nil ?_
        refine then_normal ?_
        exact ⟨k_22, Nat.lt_succ_self _, (w64 (i_16 + x57.Size)), (w64 (i_17 + 1)), H, hst.keep _ ⟨rfl, rfl, rfl, rfl, rfl, trivial⟩, hsh.pick []⟩
      · rw [if_neg c52] at H
        replace c52 := Bool.eq_false_iff.2 c52
        refine wp_condF hst rfl c52 ?_
        refine wp_exit ?_
        refine then_exit ?_
        refine then_exit ?_
        refine block_hit ?_
        refine then_normal ?_
        refine wp_seq ?_
        refine wp_region_lit ?_
        refine r_t hst trivial rfl (x_move hst rfl) ?_; intro a hst
        refine r_t hst trivial rfl (x_assign hst rfl) ?_; intro a hst
        refine wpList_nil ?_
        refine then_normal ?_
        refine wp_ret ?_
        obtain rfl := Option.some.inj H
        exact ret1 hst rfl rfl ⟨rfl, hsh.pick []⟩

set_option maxHeartbeats 4000000 in
set_option maxRecDepth 100000 in
theorem pick_Next.calls (k : Nat) (w : World) (va0 : Value) (Za0 : Nat → Prop) (wra0 : World) (hsa0 : Same Za0 wra0 w) (a0 : (List (List File))) (hra0 : RD (Kd.slice 43 k_File) Za0 wra0 va0 a0) (a1 : Config) (va1_0 : Value) (Za1_0 : Nat → Prop) (wra1_0 : World) (hsa1_0 : Same Za1_0 wra1_0 w) (hra1_0 : RD (Kd.int .i64) Za1_0 wra1_0 va1_0 a1.Heights) (va2 : Value) (Za2 : Nat → Prop) (wra2 : World) (hsa2 : Same Za2 wra2 w) (a2 : (List ByteArray)) (hra2 : RD Kd.str Za2 wra2 va2 a2) (r : (pick_Plan × Bool)) (h : pick_Next k a0 a1 a2 = some r) :
    Calls Try.prog 8 ([va0, .agg #[.int .i64 a1.Block, .int .i64 a1.Mem, .int .i64 a1.Frozen, .int .i64 a1.Shape.Page, .int .i64 a1.Shape.Restart, .int .i64 a1.Shape.Bits, .int .i64 a1.Cut, .int .i64 a1.Files0, .int .i64 a1.Stop0, .int .i64 a1.Base, .int .i64 a1.Ratio, .int .i64 a1.Levels, .int .i64 a1.Chunk, .int .i64 a1.Roll, .int .i64 a1.Clients, va1_0], va2] : List Value).toArray w fun e w' => ∃ v0_ : Value, ∃ v1_ : Value, e = .returned (.tuple #[.agg #[.int .i64 r.1.Level, v0_, v1_, .bool r.1.Trivial], .bool r.2]) ∧ SH (fun _ => False) w w' [Row k_File 43 v0_ r.1.Upper, Row k_File 43 v1_ r.1.Lower] := by
  have H := h
  clear h
  unfold pick_Next at H
  refine calls_enter Try.func8 rfl rfl ?_
  intro a hst
  have hsh := SH.zero (fun _ => False) w
  refine wp_seq ?_
  refine wp_region_lit ?_
  refine r_box hst hsh trivial rfl rfl rfl ?_
  intro g1 a w2 hgg1 hsh hst
  refine r_alloc hst hsh trivial rfl zr_33 ?_
  intro g3 a w4 hgg3 hsh hst
  refine r_t hst trivial rfl (x_assign hst rfl) ?_; intro a hst
  refine wpList_nil ?_
  refine then_normal ?_
  refine wp_seq ?_
  refine wp_seq ?_
  refine wp_region_lit ?_
  refine r_t hst trivial rfl (x_move hst rfl) ?_; intro a hst
  refine r_t hst trivial rfl (x_loadBs (i := 1) (ps := [.int .i64 a1.Block, .int .i64 a1.Mem, .int .i64 a1.Frozen, .int .i64 a1.Shape.Page, .int .i64 a1.Shape.Restart, .int .i64 a1.Shape.Bits, .int .i64 a1.Cut, .int .i64 a1.Files0, .int .i64 a1.Stop0, .int .i64 a1.Base, .int .i64 a1.Ratio, .int .i64 a1.Levels, .int .i64 a1.Chunk, .int .i64 a1.Roll, .int .i64 a1.Clients, va1_0]) hst hsh ag_28 rfl rfl rfl) ?_; intro a hst
  obtain ⟨r9, hr9, H⟩ := Option.bind_eq_some_iff.1 H
  refine r_callD hst trivial rfl fn_22 rfl (pick_may.calls k _ _ _ _ (Same.sh0 hsa0 hsh) _ hra0 a1 _ _ _ (Same.sh0 hsa1_0 hsh) hra1_0 r9 hr9) ?_
  rintro e w10 ⟨rfl, hc⟩
  replace hsh := hsh.call0 hc
  clear hc
  refine ⟨_, rfl, fun a hst => ?_⟩
  refine r_t hst trivial rfl (x_notB hst rfl) ?_; intro a hst
  refine wpList_nil ?_
  refine then_normal ?_
  by_cases c11 : (!r9) = true
  · rw [if_pos c11] at H
    refine wp_condT hst rfl c11 ?_
    refine wp_seq ?_
    refine wp_region_lit ?_
    refine r_t hst trivial rfl (x_build (cs := [.int .i64 0, (.slice none 0 0), (.slice none 0 0), .bool false]) hst rfl (by kernel_rfl)) ?_; intro a hst
    refine r_storeBs (i := 0) (cs' := [.int .i64 0, (.slice none 0 0), (.slice none 0 0), .bool false]) (vs := [.int .i64 0, (.slice none 0 0), (.slice none 0 0), .bool false]) hst hsh trivial ag_33 rfl rfl rfl rfl (one_cons rfl (one_cons rfl (one_cons rfl (one_cons rfl rfl)))) rfl ?_; intro a w12 hsh hst
    refine r_t hst trivial rfl (x_assign hst rfl) ?_; intro a hst
    refine wpList_nil ?_
    refine then_normal ?_
    refine wp_ret ?_
    refine then_ret ?_
    obtain rfl := Option.some.inj H
    have hsh := hsh.addNil k_File 43
    have hsh := hsh.addNil k_File 43
    exact ret_ct hst rfl rfl (box_var (i := 2) hsh ag_33 rfl rfl) rfl ⟨(.slice none 0 0), (.slice none 0 0), rfl, hsh.pick [1, 0]⟩
  · rw [if_neg c11] at H
    replace c11 := Bool.eq_false_iff.2 c11
    refine wp_condF hst rfl c11 ?_
    refine wp_skip ?_
    refine then_normal ?_
    refine wp_seq ?_
    refine wp_region_lit ?_
    refine r_t hst trivial rfl (x_assign hst rfl) ?_; intro a hst
    refine wpList_nil ?_
    refine then_normal ?_
    refine wp_seq ?_
    refine wp_seq ?_
    refine wp_region_lit ?_
    refine r_t hst trivial rfl (x_move hst rfl) ?_; intro a hst
    refine r_t hst trivial rfl (x_lenSl hst Try.underlying23 rfl hra0.slen) ?_; intro a hst
    refine r_t hst trivial rfl (x_move hst rfl) ?_; intro a hst
    refine wpList_nil ?_
    refine then_normal ?_
    refine wp_block ?_
    have hsh := hsh.addNil (Kd.int .i64) 3
    refine wp_loop_fuel (fun k_34 a w' => ∃ (v_25 : Value), ∃ (l_26 : (List Int)), ∃ (i_27 : Int), pick_Next.l0 a0 a1 a2 k_34 l_26 i_27 = some r ∧ ST Try.f8.ntmps a [(0, va0), (2, va2), (4, .pointer (some ⟨g1, 0, none⟩)), (6, .pointer (some ⟨g3, 0, none⟩)), (7, .bool false), (8, v_25), (20, .int .i64 (a0.length : Int)), (21, .int .i64 i_27)] ∧ SH (fun _ => False) w w' [Box g1 [.int .i64 a1.Block, .int .i64 a1.Mem, .int .i64 a1.Frozen, .int .i64 a1.Shape.Page, .int .i64 a1.Shape.Restart, .int .i64 a1.Shape.Bits, .int .i64 a1.Cut, .int .i64 a1.Files0, .int .i64 a1.Stop0, .int .i64 a1.Base, .int .i64 a1.Ratio, .int .i64 a1.Levels, .int .i64 a1.Chunk, .int .i64 a1.Roll, .int .i64 a1.Clients, va1_0] 28, Box g3 [.int .i64 0, (.slice none 0 0), (.slice none 0 0), .bool false] 33, Row (Kd.int .i64) 3 v_25 l_26]) k ?_ ?_
    · exact ⟨(.slice none 0 0), ([]), 0, H, hst.keep _ ⟨rfl, rfl, rfl, rfl, rfl, rfl, rfl, rfl, trivial⟩, hsh.pick [2, 1, 0]⟩
    · rintro k_34 a W_28 ⟨v_25, l_26, i_27, H, hst, hsh⟩
      cases k_34 with
      | zero => rw [pick_Next.l0] at H; cases H
      | succ k_34 =>
        rw [pick_Next.l0] at H
        refine wp_seq ?_
        refine wp_region_lit ?_
        refine r_t hst trivial rfl (x_cmpI (b := decide (i_27 < (a0.length : Int))) hst rfl rfl rfl) ?_; intro a hst
        refine wpList_nil ?_
        refine then_normal ?_
        refine wp_seq ?_
        by_cases c101 : (decide (i_27 < (a0.length : Int))) = true
        · rw [if_pos c101] at H
          refine wp_condT hst rfl c101 ?_
          refine wp_skip ?_
          refine then_normal ?_
          refine wp_seq ?_
          refine wp_block ?_
          refine wp_seq ?_
          refine wp_region_lit ?_
          refine r_t hst trivial rfl (x_move hst rfl) ?_; intro a hst
          refine r_t hst trivial rfl (x_assign hst rfl) ?_; intro a hst
          refine wpList_nil ?_
          refine then_normal ?_
          refine wp_region_lit ?_
          refine r_t hst trivial rfl (x_move hst rfl) ?_; intro a hst
          refine r_t hst trivial rfl (x_move hst rfl) ?_; intro a hst
          refine r_t hst trivial rfl (x_loadBs (i := 0) (ps := [.int .i64 a1.Block, .int .i64 a1.Mem, .int .i64 a1.Frozen, .int .i64 a1.Shape.Page, .int .i64 a1.Shape.Restart, .int .i64 a1.Shape.Bits, .int .i64 a1.Cut, .int .i64 a1.Files0, .int .i64 a1.Stop0, .int .i64 a1.Base, .int .i64 a1.Ratio, .int .i64 a1.Levels, .int .i64 a1.Chunk, .int .i64 a1.Roll, .int .i64 a1.Clients, va1_0]) hst hsh ag_28 rfl rfl rfl) ?_; intro a hst
          refine r_t hst trivial rfl (x_move hst rfl) ?_; intro a hst
          obtain ⟨r109, hr109, H⟩ := Option.bind_eq_some_iff.1 H
          refine r_callD hst trivial rfl fn_13 rfl (pick_Score.calls k_34 _ _ _ _ (Same.sh0 hsa0 hsh) _ hra0 a1 _ _ _ (Same.sh0 hsa1_0 hsh) hra1_0 i_27 r109 hr109) ?_
          rintro e w110 ⟨rfl, hc⟩
          replace hsh := hsh.call0 hc
          clear hc
          refine ⟨_, rfl, fun a hst => ?_⟩
          refine r_buildSlice (vs := [.int .i64 r109]) (cs := [.int .i64 r109]) hst hsh trivial rfl Try.underlying26 el_3 rfl rfl (by simp [Value.cells]) rfl rfl ?_
          intro g111 a w112 hgg111 hsh hst
          replace hsh := hsh.pick [3, 0, 0, 0]
          obtain ⟨l113, hl113, H⟩ := Option.bind_eq_some_iff.1 H
          refine r_append1 (xx := r109) (C := []) (M := [Box g1 [.int .i64 a1.Block, .int .i64 a1.Mem, .int .i64 a1.Frozen, .int .i64 a1.Shape.Page, .int .i64 a1.Shape.Restart, .int .i64 a1.Shape.Bits, .int .i64 a1.Cut, .int .i64 a1.Files0, .int .i64 a1.Stop0, .int .i64 a1.Base, .int .i64 a1.Ratio, .int .i64 a1.Levels, .int .i64 a1.Chunk, .int .i64 a1.Roll, .int .i64 a1.Clients, va1_0] 28, Box g3 [.int .i64 0, (.slice none 0 0), (.slice none 0 0), .bool false] 33]) hst hsh trivial rfl Try.underlying26 el_3 (by decide) (by decide) (by decide) rfl rfl (fun _ _ _ => rfl) hl113 ?_
          intro v114 a w115 hsh hst
          refine r_t hst trivial rfl (x_assign hst rfl) ?_; intro a hst
          refine wpList_nil ?_
          refine block_normal ?_
          refine then_normal ?_
          refine wp_region_lit ?_
          refine r_t hst trivial rfl (x_arI (r := w64 (i_27 + 1)) hst rfl rfl rfl) ?_; intro a hst
          refine r_t hst trivial rfl (x_move hst rfl) ?_; intro a hst
          refine wpList_nil ?_
          refine then_normal ?_
          exact ⟨k_34, Nat.lt_succ_self _, v114, l113, (w64 (i_27 + 1)), H, hst.keep _ ⟨rfl, rfl, rfl, rfl, rfl, rfl, rfl, rfl, trivial⟩, hsh.pick [1, 1, 0]⟩
        · rw [if_neg c101] at H
          replace c101 := Bool.eq_false_iff.2 c101
          refine wp_condF hst rfl c101 ?_
          refine wp_exit ?_
          refine then_exit ?_
          refine then_exit ?_
          refine block_hit ?_
          refine then_normal ?_
          refine wp_seq ?_
          refine wp_region_lit ?_
          refine r_t hst trivial rfl (x_move hst rfl) ?_; intro a hst
          obtain ⟨r116, hr116, H⟩ := Option.bind_eq_some_iff.1 H
          refine r_callD hst trivial rfl fn_23 rfl (pick_best_int.calls k_34 _ _ _ _ (Same.refl _ _) _ (hsh.row 2 rfl) r116 hr116) ?_
          rintro e w117 ⟨rfl, hc⟩
          replace hsh := hsh.call0 hc
          clear hc
          refine ⟨_, rfl, fun a hst => ?_⟩
          refine r_t hst trivial rfl (x_assign hst rfl) ?_; intro a hst
          refine wpList_nil ?_
          refine then_normal ?_
          refine wp_seq ?_
          refine wp_seq ?_
          refine wp_region_lit ?_
          refine r_t hst trivial rfl (x_move hst rfl) ?_; intro a hst
          refine r_t hst trivial rfl (x_move hst rfl) ?_; intro a hst
          obtain ⟨x121, hx121, H⟩ := Option.bind_eq_some_iff.1 H
          refine r_t hst trivial rfl (x_indexAddr hst Try.underlying26 el_3 rfl rfl (hsh.row 2 rfl) hx121) ?_; intro a hst
          refine r_t hst trivial rfl (x_loadEF (j := 0) (cs := [.int .i64 x121]) hst sc_3 rfl (hsh.row 2 rfl) (Same.refl _ _) hx121 rfl (fun _ h => h) rfl) ?_; intro a hst
          refine r_t hst trivial rfl (x_cmpI (b := decide (x121 < 1000)) hst rfl rfl rfl) ?_; intro a hst
          refine wpList_nil ?_
          refine then_normal ?_
          by_cases c122 : (decide (x121 < 1000)) = true
          · rw [if_pos c122] at H
            refine wp_condT hst rfl c122 ?_
            refine wp_seq ?_
            refine wp_region_lit ?_
            refine r_t hst trivial rfl (x_build (cs := [.int .i64 0, (.slice none 0 0), (.slice none 0 0), .bool false]) hst rfl (by kernel_rfl)) ?_; intro a hst
            refine r_storeBs (i := 1) (cs' := [.int .i64 0, (.slice none 0 0), (.slice none 0 0), .bool false]) (vs := [.int .i64 0, (.slice none 0 0), (.slice none 0 0), .bool false]) hst hsh trivial ag_33 rfl rfl rfl rfl (one_cons rfl (one_cons rfl (one_cons rfl (one_cons rfl rfl)))) rfl ?_; intro a w123 hsh hst
            refine r_t hst trivial rfl (x_assign hst rfl) ?_; intro a hst
            refine wpList_nil ?_
            refine then_normal ?_
            refine wp_ret ?_
            refine then_ret ?_
            obtain rfl := Option.some.inj H
            have hsh := hsh.addNil k_File 43
            have hsh := hsh.addNil k_File 43
            exact ret_ct hst rfl rfl (box_var (i := 2) hsh ag_33 rfl rfl) rfl ⟨(.slice none 0 0), (.slice none 0 0), rfl, hsh.pick [1, 0]⟩
          · rw [if_neg c122] at H
            replace c122 := Bool.eq_false_iff.2 c122
            refine wp_condF hst rfl c122 ?_
            refine wp_skip ?_
            refine then_normal ?_
            refine wp_seq ?_
            refine wp_region_lit ?_
            refine r_t hst trivial rfl (x_move hst rfl) ?_; intro a hst
            refine r_t hst trivial rfl (x_move hst rfl) ?_; intro a hst
            obtain ⟨x126, hx126, H⟩ := Option.bind_eq_some_iff.1 H
            refine r_t hst trivial rfl (x_indexAddr hst Try.underlying23 el_31 rfl rfl hra0 hx126) ?_; intro a hst
            obtain ⟨_, hk127, hc128⟩ := RD.cells2 hra0 hx126
            obtain ⟨v129, rfl, hr130⟩ := hk127
            refine r_t hst trivial rfl (x_loadC hst sc_31 rfl (hc128 _ (Same.sh0 hsa0 hsh) 0 _ rfl)) ?_; intro a hst
            refine r_t hst trivial rfl (x_move hst rfl) ?_; intro a hst
            refine r_t hst trivial rfl (x_move hst rfl) ?_; intro a hst
            obtain ⟨r131, hr131, H⟩ := Option.bind_eq_some_iff.1 H
            refine r_callD hst trivial rfl fn_24 rfl (pick_first.calls k_34 _ _ _ _ (Same.sh0 hsa0 hsh) _ hr130 r116 _ _ _ (Same.sh0 hsa2 hsh) _ hra2 r131 hr131) ?_
            rintro e w132 ⟨rfl, hc⟩
            replace hsh := hsh.call0 hc
            clear hc
            refine ⟨_, rfl, fun a hst => ?_⟩
            refine r_buildSlice (vs := [.agg #[.int .i64 r131.Number, .int .i64 r131.Size, .string r131.Least, .string r131.Limit, .int .u64 r131.Low, .int .u64 r131.High]]) (cs := [.int .i64 r131.Number, .int .i64 r131.Size, .string r131.Least, .string r131.Limit, .int .u64 r131.Low, .int .u64 r131.High]) hst hsh trivial rfl Try.underlying31 el_43 rfl rfl (by simp [Value.cells]) rfl rfl ?_
            intro g133 a w134 hgg133 hsh hst
            replace hsh := hsh.pick [0, 0, 0, 0]
            replace hsh : SH (fun _ => False) w w134 [Row k_File 43 (.slice (some ⟨g133, 0, none⟩) 1 1) ([r131]), Box g1 [.int .i64 a1.Block, .int .i64 a1.Mem, .int .i64 a1.Frozen, .int .i64 a1.Shape.Page, .int .i64 a1.Shape.Restart, .int .i64 a1.Shape.Bits, .int .i64 a1.Cut, .int .i64 a1.Files0, .int .i64 a1.Stop0, .int .i64 a1.Base, .int .i64 a1.Ratio, .int .i64 a1.Levels, .int .i64 a1.Chunk, .int .i64 a1.Roll, .int .i64 a1.Clients, va1_0] 28, Box g3 [.int .i64 0, (.slice none 0 0), (.slice none 0 0), .bool false] 33, Row (Kd.int .i64) 3 v_25 l_26] := SH.boxRow ([r131] : List File) hsh rfl rfl rfl
            refine r_t hst trivial rfl (x_assign hst rfl) ?_; intro a hst
            refine wpList_nil ?_
            refine then_normal ?_
            obtain ⟨J_39, hJ_39, H⟩ := Jn.elim H
            refine wp_cut (fun a w' => ∃ (v_36 : Value), ∃ (l_37 : (List File)), J_39 l_37 = some r ∧ ST Try.f8.ntmps a [(0, va0), (4, .pointer (some ⟨g1, 0, none⟩)), (6, .pointer (some ⟨g3, 0, none⟩)), (7, .bool false), (10, .int .i64 r116), (11, v_36)] ∧ SH (fun _ => False) w w' [Box g1 [.int .i64 a1.Block, .int .i64 a1.Mem, .int .i64 a1.Frozen, .int .i64 a1.Shape.Page, .int .i64 a1.Shape.Restart, .int .i64 a1.Shape.Bits, .int .i64 a1.Cut, .int .i64 a1.Files0, .int .i64 a1.Stop0, .int .i64 a1.Base, .int .i64 a1.Ratio, .int .i64 a1.Levels, .int .i64 a1.Chunk, .int .i64 a1.Roll, .int .i64 a1.Clients, va1_0] 28, Box g3 [.int .i64 0, (.slice none 0 0), (.slice none 0 0), .bool false] 33, Row k_File 43 v_36 l_37]) ?_ ?_
            · rintro a W_38 ⟨v_36, l_37, H, hst, hsh⟩
              subst hJ_39
              dsimp only at H
              refine wp_seq ?_
              refine wp_region_lit ?_
              refine r_t hst trivial rfl (x_move hst rfl) ?_; intro a hst
              refine r_t hst trivial rfl (x_move hst rfl) ?_; intro a hst
              refine r_t hst trivial rfl (x_move hst rfl) ?_; intro a hst
              obtain ⟨r141, hr141, H⟩ := Option.bind_eq_some_iff.1 H
              refine r_callD hst trivial rfl fn_26 rfl (pick_under.calls k_34 _ _ _ _ (Same.sh0 hsa0 hsh) _ hra0 r116 _ _ _ (Same.refl _ _) _ (hsh.row 2 rfl) r141 hr141) ?_
              rintro e w142 ⟨v143, rfl, hc⟩
              replace hsh := hsh.call0 hc
              clear hc
              refine ⟨_, rfl, fun a hst => ?_⟩
              refine r_t hst trivial rfl (x_assign hst rfl) ?_; intro a hst
              refine wpList_nil ?_
              refine then_normal ?_
              refine wp_seq ?_
              refine wp_region_lit ?_
              refine r_t hst trivial rfl (x_move hst rfl) ?_; intro a hst
              refine r_t hst trivial rfl (x_move hst rfl) ?_; intro a hst
              refine r_t hst trivial rfl (x_move hst rfl) ?_; intro a hst
              refine r_t hst trivial rfl (x_move hst rfl) ?_; intro a hst
              refine r_buildSlice (vs := [v_36, v143]) (cs := [v_36, v143]) hst hsh trivial rfl Try.underlying22 el_31 rfl rfl (by simp [cells_sl, cells_slen (hsh.row 3 rfl).slen, cells_slen (hsh.row 0 rfl).slen]) rfl (by simp [cells_sl, cells_slen (hsh.row 3 rfl).slen, cells_slen (hsh.row 0 rfl).slen]) ?_
              intro g145 a w146 hgg145 hsh hst
              obtain ⟨r147, hr147, H⟩ := Option.bind_eq_some_iff.1 H
              refine r_callD hst trivial rfl fn_27 rfl (slices_Concat_File.calls k_34 _ _ _ _ (Same.refl _ _) _ (RD.lit (i := 0) (n := 2) hsh rfl (RDs.cons (hsh.row 4 rfl) (Same.refl _ _) (RDs.cons (hsh.row 1 rfl) (Same.refl _ _) RDs.nil)) rfl (by decide)) r147 hr147) ?_
              rintro e w148 ⟨v149, rfl, hc⟩
              replace hsh := hsh.call0 hc
              clear hc
              refine ⟨_, rfl, fun a hst => ?_⟩
              obtain ⟨r151, hr151, H⟩ := Option.bind_eq_some_iff.1 H
              refine r_callD hst trivial rfl fn_25 rfl (pick_touching.calls k_34 _ _ _ _ (Same.sh0 hsa0 hsh) _ hra0 r116 _ _ _ (Same.refl _ _) _ (hsh.row 0 rfl) r151 hr151) ?_
              rintro e w152 ⟨v153, rfl, hc⟩
              replace hsh := hsh.call0 hc
              clear hc
              refine ⟨_, rfl, fun a hst => ?_⟩
              refine r_t hst trivial rfl (x_assign hst rfl) ?_; intro a hst
              refine wpList_nil ?_
              refine then_normal ?_
              obtain ⟨J_52, hJ_52, H⟩ := Jn.elim H
              refine wp_cut (fun a w' => ∃ (v_49 : Value), ∃ (l_50 : (List File)), J_52 l_50 = some r ∧ ST Try.f8.ntmps a [(6, .pointer (some ⟨g3, 0, none⟩)), (7, .bool false), (10, .int .i64 r116), (11, v_49), (12, v143)] ∧ SH (fun _ => False) w w' [Box g3 [.int .i64 0, (.slice none 0 0), (.slice none 0 0), .bool false] 33, Row k_File 43 v_49 l_50, Row k_File 43 v143 r141]) ?_ ?_
              · rintro a W_51 ⟨v_49, l_50, H, hst, hsh⟩
                subst hJ_52
                dsimp only at H
                refine wp_seq ?_
                refine wp_region_lit ?_
                refine r_t hst trivial rfl (x_move hst rfl) ?_; intro a hst
                refine r_t hst trivial rfl (x_move hst rfl) ?_; intro a hst
                refine r_t hst trivial rfl (x_move hst rfl) ?_; intro a hst
                refine r_t hst trivial rfl (x_move hst rfl) ?_; intro a hst
                refine r_t hst trivial rfl (x_lenSl hst Try.underlying31 rfl (hsh.row 1 rfl).slen) ?_; intro a hst
                refine r_t hst trivial rfl (x_cmpI (b := ((l_50.length : Int) == 1)) hst rfl rfl rfl) ?_; intro a hst
                refine r_t hst trivial rfl (x_move hst rfl) ?_; intro a hst
                refine wl_join0 (N := Try.f8.ntmps) 11 [(6, .pointer (some ⟨g3, 0, none⟩)), (7, .bool false), (90, .int .i64 r116), (91, v_49), (92, v143), (100, .bool (((l_50.length : Int) == 1) && ((r141.length : Int) == 0)))] ?_ ?_
                · intro a hst
                  refine r_t hst trivial rfl (x_build (cs := [.int .i64 r116, v_49, v143, .bool (((l_50.length : Int) == 1) && ((r141.length : Int) == 0))]) hst rfl (by obtain ⟨_, _, e0⟩ := (hsh.row 1 rfl).slen; obtain ⟨_, _, e1⟩ := (hsh.row 2 rfl).slen; rw [e0, e1]; kernel_rfl)) ?_; intro a hst
                  refine r_storeBs (i := 0) (cs' := [.int .i64 r116, v_49, v143, .bool (((l_50.length : Int) == 1) && ((r141.length : Int) == 0))]) (vs := [.int .i64 r116, v_49, v143, .bool (((l_50.length : Int) == 1) && ((r141.length : Int) == 0))]) hst hsh trivial ag_33 rfl rfl rfl rfl (one_cons rfl (one_cons (one_slice (hsh.row 1 rfl).slen) (one_cons (one_slice (hsh.row 2 rfl).slen) (one_cons rfl rfl)))) rfl ?_; intro a w180 hsh hst
                  refine r_t hst trivial rfl (x_assign hst rfl) ?_; intro a hst
                  refine wpList_nil ?_
                  refine then_normal ?_
                  refine wp_ret ?_
                  obtain rfl := Option.some.inj H
                  exact ret_ct hst rfl rfl (box_var (i := 0) hsh ag_33 rfl rfl) rfl ⟨v_49, v143, rfl, hsh.pick [1, 1]⟩
                · intro hj
                  by_cases c179 : ((l_50.length : Int) == 1) = true
                  · refine r_t hst (wt_of 96 rfl rfl c179) rfl (x_move hst rfl) ?_; intro a hst
                    refine r_t hst (wt_of 96 rfl rfl c179) rfl (x_lenSl hst Try.underlying31 rfl (hsh.row 2 rfl).slen) ?_; intro a hst
                    refine r_t hst (wt_of 96 rfl rfl c179) rfl (x_cmpI (b := ((r141.length : Int) == 0)) hst rfl rfl rfl) ?_; intro a hst
                    refine r_t hst trivial rfl (x_andT hst rfl c179 rfl) ?_; intro a hst
                    exact hj _ (hst.keep _ ⟨rfl, rfl, rfl, rfl, rfl, rfl, trivial⟩)
                  · replace c179 := Bool.eq_false_iff.2 c179
                    refine r_not hst 96 rfl rfl c179 rfl ?_; intro a hst
                    refine r_not hst 96 rfl rfl c179 rfl ?_; intro a hst
                    refine r_not hst 96 rfl rfl c179 rfl ?_; intro a hst
                    refine r_t hst trivial rfl (x_andF ((r141.length : Int) == 0) hst rfl c179 rfl) ?_; intro a hst
                    exact hj _ (hst.keep _ ⟨rfl, rfl, rfl, rfl, rfl, rfl, trivial⟩)
              · refine wp_seq ?_
                have hw180_0 := hsh.row 0 rfl
                have hw180_1 := hsh.row 1 rfl
                have hw180_3 := hsh.row 3 rfl
                have hw180_6 := hsh.row 6 rfl
                refine wp_region_t (.fin [(3, 0), (3, 1), (3, 2), (3, 3), (3, 4), (3, 5), (3, 6), (3, 7), (3, 8), (3, 10), (1, 9), (0, 11), (3, 12), (3, 13), (3, 14), (0, 15), (3, 16), (0, 17), (3, 18), (3, 19), (0, 20), (3, 21), (3, 22), (3, 23), (3, 24)]) (fun w' => SH (fun _ => False) w w' [Row k_File 43 v153 r151, Row k_File 43 v149 r147, Box g145 [v_36, v143] 31, Row k_File 43 v143 r141, Box g1 [.int .i64 a1.Block, .int .i64 a1.Mem, .int .i64 a1.Frozen, .int .i64 a1.Shape.Page, .int .i64 a1.Shape.Restart, .int .i64 a1.Shape.Bits, .int .i64 a1.Cut, .int .i64 a1.Files0, .int .i64 a1.Stop0, .int .i64 a1.Base, .int .i64 a1.Ratio, .int .i64 a1.Levels, .int .i64 a1.Chunk, .int .i64 a1.Roll, .int .i64 a1.Clients, va1_0] 28, Box g3 [.int .i64 0, (.slice none 0 0), (.slice none 0 0), .bool false] 33, Row k_File 43 v_36 l_37]) (fun w' => SH (fun _ => False) w w' [Row k_File 43 v153 r151, Row k_File 43 v149 r147, Box g145 [v_36, v143] 31, Row k_File 43 v143 r141, Box g1 [.int .i64 a1.Block, .int .i64 a1.Mem, .int .i64 a1.Frozen, .int .i64 a1.Shape.Page, .int .i64 a1.Shape.Restart, .int .i64 a1.Shape.Bits, .int .i64 a1.Cut, .int .i64 a1.Files0, .int .i64 a1.Stop0, .int .i64 a1.Base, .int .i64 a1.Ratio, .int .i64 a1.Levels, .int .i64 a1.Chunk, .int .i64 a1.Roll, .int .i64 a1.Clients, va1_0] 28, Box g3 [.int .i64 0, (.slice none 0 0), (.slice none 0 0), .bool false] 33, Row k_File 43 v_36 l_37]) (shut_sh _ _ _) (shut_sh _ _ _) (sub_sh [0, 0, 0, 0, 0, 0, 0] rfl) hsh.drew fo (by kernel_rfl) ?_
                refine t_fin ?_
                refine m_p hst trivial rfl (fun _ => x_move hst rfl) ?_; intro a hst
                refine m_p hst trivial rfl (fun _ => x_lenSl hst Try.underlying31 rfl hw180_0.slen) ?_; intro a hst
                refine m_p hst trivial rfl (fun _ => x_move hst rfl) ?_; intro a hst
                refine m_p hst trivial rfl (fun _ => x_lenSl hst Try.underlying31 rfl hw180_6.slen) ?_; intro a hst
                refine m_p hst trivial rfl (fun _ => x_cmpI (b := decide ((l_37.length : Int) < (r151.length : Int))) hst rfl rfl rfl) ?_; intro a hst
                refine m_p hst trivial rfl (fun _ => x_move hst rfl) ?_; intro a hst
                obtain ⟨J_54, hJ_54, H⟩ := Jn.elim H
                refine m_joinB 7 (fun a B X => ∃ (b_53 : Bool), ∃ (v_56 : Value), ∃ (l_57 : (List File)), J_54 b_53 l_57 = some r ∧ ST Try.f8.ntmps a [(4, .pointer (some ⟨g1, 0, none⟩)), (6, .pointer (some ⟨g3, 0, none⟩)), (7, .bool false), (10, .int .i64 r116), (11, v_36), (12, v143), (13, v153), (76, .bool b_53)] ∧ B = (fun w' => SH (fun _ => False) w w' [Row k_File 43 v_56 l_57, Row k_File 43 v153 r151, Row k_File 43 v149 r147, Box g145 [v_36, v143] 31, Row k_File 43 v143 r141, Box g1 [.int .i64 a1.Block, .int .i64 a1.Mem, .int .i64 a1.Frozen, .int .i64 a1.Shape.Page, .int .i64 a1.Shape.Restart, .int .i64 a1.Shape.Bits, .int .i64 a1.Cut, .int .i64 a1.Files0, .int .i64 a1.Stop0, .int .i64 a1.Base, .int .i64 a1.Ratio, .int .i64 a1.Levels, .int .i64 a1.Chunk, .int .i64 a1.Roll, .int .i64 a1.Clients, va1_0] 28, Box g3 [.int .i64 0, (.slice none 0 0), (.slice none 0 0), .bool false] 33, Row k_File 43 v_36 l_37]) ∧ X = (fun w' => SH (fun _ => False) w w' [Row k_File 43 v_56 l_57, Row k_File 43 v153 r151, Row k_File 43 v149 r147, Box g145 [v_36, v143] 31, Row k_File 43 v143 r141, Box g1 [.int .i64 a1.Block, .int .i64 a1.Mem, .int .i64 a1.Frozen, .int .i64 a1.Shape.Page, .int .i64 a1.Shape.Restart, .int .i64 a1.Shape.Bits, .int .i64 a1.Cut, .int .i64 a1.Files0, .int .i64 a1.Stop0, .int .i64 a1.Base, .int .i64 a1.Ratio, .int .i64 a1.Levels, .int .i64 a1.Chunk, .int .i64 a1.Roll, .int .i64 a1.Clients, va1_0] 28, Box g3 [.int .i64 0, (.slice none 0 0), (.slice none 0 0), .bool false] 33, Row k_File 43 v_36 l_37])) ?_ ?_
                · rintro a B X ⟨b_53, v_56, l_57, H, hst, rfl, rfl⟩
                  subst hJ_54
                  dsimp only at H
                  refine m_p hst trivial rfl (fun _ => x_move hst rfl) ?_; intro a hst
                  obtain ⟨J_59, hJ_59, H⟩ := Jn.elim H
                  refine m_joinA 11 (fun a => ∃ (b_58 : Bool), J_59 b_58 = some r ∧ ST Try.f8.ntmps a [(6, .pointer (some ⟨g3, 0, none⟩)), (7, .bool false), (10, .int .i64 r116), (11, v_36), (12, v143), (13, v153), (88, .bool b_58)]) ?_ ?_
                  · rintro a ⟨b_58, H, hst⟩
                    subst hJ_59
                    dsimp only at H
                    refine m_nil ?_
                    intro w193 hsh
                    refine qn_normal ?_
                    refine then_normal ?_
                    by_cases c194 : b_58 = true
                    · rw [if_pos c194] at H
                      refine wp_condT hst rfl c194 ?_
                      refine wp_region_lit ?_
                      refine r_t hst trivial rfl (x_move hst rfl) ?_; intro a hst
                      refine r_t hst trivial rfl (x_assign hst rfl) ?_; intro a hst
                      refine wpList_nil ?_
                      refine then_normal ?_
                      exact ⟨v153, r151, H, hst.keep _ ⟨rfl, rfl, rfl, rfl, rfl, trivial⟩, hsh.pick [6, 1, 3]⟩
                    · rw [if_neg c194] at H
                      replace c194 := Bool.eq_false_iff.2 c194
                      refine wp_condF hst rfl c194 ?_
                      refine wp_skip ?_
                      refine then_normal ?_
                      exact ⟨v_36, l_37, H, hst.keep _ ⟨rfl, rfl, rfl, rfl, rfl, trivial⟩, hsh.pick [6, 6, 4]⟩
                  · intro hj
                    by_cases c188 : b_53 = true
                    · rw [if_pos c188] at H
                      refine m_p hst (wt_of 77 rfl rfl c188) rfl (fun _ => x_move hst rfl) ?_; intro a hst
                      obtain ⟨r195, hr195, H⟩ := Option.bind_eq_some_iff.1 H
                      refine m_call hst (wt_of 77 rfl rfl c188) rfl fn_29 rfl (fun w9 hsh => pick_size.calls k_34 _ _ _ _ (Same.refl _ _) _ (hsh.row 1 rfl) r195 hr195) ?_; intro a hst
                      refine m_p hst (wt_of 77 rfl rfl c188) rfl (fun _ => x_move hst rfl) ?_; intro a hst
                      obtain ⟨r197, hr197, H⟩ := Option.bind_eq_some_iff.1 H
                      refine m_call hst (wt_of 77 rfl rfl c188) rfl fn_29 rfl (fun w9 hsh => pick_size.calls k_34 _ _ _ _ (Same.refl _ _) _ (hsh.row 4 rfl) r197 hr197) ?_; intro a hst
                      refine m_p hst (wt_of 77 rfl rfl c188) rfl (fun _ => x_arI (r := w64 (r195 + r197)) hst rfl rfl rfl) ?_; intro a hst
                      refine m_p hst (wt_of 77 rfl rfl c188) rfl (fun _ => x_fieldAddr (j' := 6) hst fa_28_4 rfl rfl) ?_; intro a hst
                      refine m_t hst (wt_of 77 rfl rfl c188) rfl (fun _ hsh => x_loadB (i := 5) hst hsh sc_3 rfl rfl rfl) ?_; intro a hst
                      refine m_p hst (wt_of 77 rfl rfl c188) rfl (fun _ => x_minI hst rfl rfl) ?_; intro a hst
                      refine m_p hst (wt_of 77 rfl rfl c188) rfl (fun _ => x_arI (r := w64 (25 * (minI a1.Cut 268435456))) hst rfl rfl rfl) ?_; intro a hst
                      refine m_p hst (wt_of 77 rfl rfl c188) rfl (fun _ => x_cmpI (b := decide ((w64 (r195 + r197)) ≤ (w64 (25 * (minI a1.Cut 268435456))))) hst rfl rfl rfl) ?_; intro a hst
                      refine m_p hst trivial rfl (fun _ => x_pickT hst rfl c188 rfl) ?_; intro a hst
                      exact hj _ ⟨(decide ((w64 (r195 + r197)) ≤ (w64 (25 * (minI a1.Cut 268435456))))), H, hst.keep _ ⟨rfl, rfl, rfl, rfl, rfl, rfl, rfl, trivial⟩⟩
                    · rw [if_neg c188] at H
                      replace c188 := Bool.eq_false_iff.2 c188
                      refine m_pnot hst 77 rfl rfl c188 rfl ?_; intro a hst
                      refine m_not hst 77 rfl rfl c188 rfl ?_; intro a hst
                      refine m_pnot hst 77 rfl rfl c188 rfl ?_; intro a hst
                      refine m_not hst 77 rfl rfl c188 rfl ?_; intro a hst
                      refine m_pnot hst 77 rfl rfl c188 rfl ?_; intro a hst
                      refine m_pnot hst 77 rfl rfl c188 rfl ?_; intro a hst
                      refine m_not hst 77 rfl rfl c188 rfl ?_; intro a hst
                      refine m_pnot hst 77 rfl rfl c188 rfl ?_; intro a hst
                      refine m_pnot hst 77 rfl rfl c188 rfl ?_; intro a hst
                      refine m_pnot hst 77 rfl rfl c188 rfl ?_; intro a hst
                      refine m_p hst trivial rfl (fun _ => x_pickF hst rfl c188 rfl) ?_; intro a hst
                      exact hj _ ⟨false, H, hst.keep _ ⟨rfl, rfl, rfl, rfl, rfl, rfl, rfl, trivial⟩⟩
                · intro hj
                  by_cases c181 : (decide ((l_37.length : Int) < (r151.length : Int))) = true
                  · rw [if_pos c181] at H
                    refine m_p hst (wt_of 69 rfl rfl c181) rfl (fun _ => x_move hst rfl) ?_; intro a hst
                    refine m_p hst (wt_of 69 rfl rfl c181) rfl (fun _ => x_move hst rfl) ?_; intro a hst
                    refine m_p hst (wt_of 69 rfl rfl c181) rfl (fun _ => x_move hst rfl) ?_; intro a hst
                    refine m_p hst (wt_of 69 rfl rfl c181) rfl (fun _ => x_move hst rfl) ?_; intro a hst
                    refine m_loud (.inl rfl) ?_
                    intro w199 hsh
                    obtain ⟨r200, hr200, H⟩ := Option.bind_eq_some_iff.1 H
                    refine r_callD hst (wt_of 69 rfl rfl c181) rfl fn_26 rfl (pick_under.calls k_34 _ _ _ _ (Same.sh0 hsa0 hsh) _ hra0 r116 _ _ _ (Same.refl _ _) _ (hsh.row 0 rfl) r200 hr200) ?_
                    rintro e w201 ⟨v202, rfl, hc⟩
                    replace hsh := hsh.call0 hc
                    clear hc
                    refine ⟨_, rfl, fun a hst => ?_⟩
                    refine m_on (MB := [Row k_File 43 v202 r200, Row k_File 43 v153 r151, Row k_File 43 v149 r147, Box g145 [v_36, v143] 31, Row k_File 43 v143 r141, Box g1 [.int .i64 a1.Block, .int .i64 a1.Mem, .int .i64 a1.Frozen, .int .i64 a1.Shape.Page, .int .i64 a1.Shape.Restart, .int .i64 a1.Shape.Bits, .int .i64 a1.Cut, .int .i64 a1.Files0, .int .i64 a1.Stop0, .int .i64 a1.Base, .int .i64 a1.Ratio, .int .i64 a1.Levels, .int .i64 a1.Chunk, .int .i64 a1.Roll, .int .i64 a1.Clients, va1_0] 28, Box g3 [.int .i64 0, (.slice none 0 0), (.slice none 0 0), .bool false] 33, Row k_File 43 v_36 l_37]) [0, 0, 0, 0, 0, 0, 0, 0] [1, 1, 1, 1, 1, 1, 1] rfl rfl hsh rfl ?_
                    obtain ⟨r203, hr203, H⟩ := Option.bind_eq_some_iff.1 H
                    refine m_call hst (wt_of 69 rfl rfl c181) rfl fn_28 rfl (fun w9 hsh => slices_Equal_File.calls k_34 _ _ _ _ (Same.refl _ _) _ (hsh.row 0 rfl) _ _ _ (Same.refl _ _) _ (hsh.row 4 rfl) r203 hr203) ?_; intro a hst
                    refine m_p hst trivial rfl (fun _ => x_pickT hst rfl c181 rfl) ?_; intro a hst
                    exact hj _ _ _ ⟨r203, v202, r200, H, hst.keep _ ⟨rfl, rfl, rfl, rfl, rfl, rfl, rfl, rfl, trivial⟩, (sh_cls [0, 0, 0, 0, 0, 0, 0, 0] [0, 0, 0, 0, 0, 0, 0, 0] rfl rfl), (sh_cls [0, 0, 0, 0, 0, 0, 0, 0] [0, 0, 0, 0, 0, 0, 0, 0] rfl rfl)⟩
                  · rw [if_neg c181] at H
                    replace c181 := Bool.eq_false_iff.2 c181
                    refine m_pnot hst 69 rfl rfl c181 rfl ?_; intro a hst
                    refine m_pnot hst 69 rfl rfl c181 rfl ?_; intro a hst
                    refine m_pnot hst 69 rfl rfl c181 rfl ?_; intro a hst
                    refine m_pnot hst 69 rfl rfl c181 rfl ?_; intro a hst
                    refine m_notL (.inl rfl) (shut_sh _ _ _) (shut_sh _ _ _) (sub_sh [0, 0, 0, 0, 0, 0, 0] rfl) hst 69 rfl rfl c181 rfl ?_; intro a hst
                    refine m_not hst 69 rfl rfl c181 rfl ?_; intro a hst
                    refine m_p hst trivial rfl (fun _ => x_pickF hst rfl c181 rfl) ?_; intro a hst
                    exact hj _ _ _ ⟨false, (.slice none 0 0), ([]), H, hst.keep _ ⟨rfl, rfl, rfl, rfl, rfl, rfl, rfl, rfl, trivial⟩, (sh_cls_nil _ _), (sh_cls_nil _ _)⟩
            · refine wp_seq ?_
              refine wp_region_lit ?_
              refine r_t hst trivial rfl (x_move hst rfl) ?_; intro a hst
              refine r_t hst trivial rfl (x_cmpI (b := (r116 == 0)) hst rfl rfl rfl) ?_; intro a hst
              refine wpList_nil ?_
              refine then_normal ?_
              by_cases c205 : (r116 == 0) = true
              · rw [if_pos c205] at H
                refine wp_condT hst rfl c205 ?_
                refine wp_region_lit ?_
                refine r_t hst trivial rfl (x_move hst rfl) ?_; intro a hst
                refine r_t hst trivial rfl (x_move hst rfl) ?_; intro a hst
                obtain ⟨r206, hr206, H⟩ := Option.bind_eq_some_iff.1 H
                refine r_callD hst trivial rfl fn_25 rfl (pick_touching.calls k_34 _ _ _ _ (Same.sh0 hsa0 hsh) _ hra0 0 _ _ _ (Same.refl _ _) _ (hsh.row 0 rfl) r206 hr206) ?_
                rintro e w207 ⟨v208, rfl, hc⟩
                replace hsh := hsh.call0 hc
                clear hc
                refine ⟨_, rfl, fun a hst => ?_⟩
                refine r_t hst trivial rfl (x_assign hst rfl) ?_; intro a hst
                refine wpList_nil ?_
                refine then_normal ?_
                exact ⟨v208, r206, H, hst.keep _ ⟨rfl, rfl, rfl, rfl, rfl, rfl, trivial⟩, hsh.pick [2, 2, 0]⟩
              · rw [if_neg c205] at H
                replace c205 := Bool.eq_false_iff.2 c205
                refine wp_condF hst rfl c205 ?_
                refine wp_skip ?_
                refine then_normal ?_
                exact ⟨(.slice (some ⟨g133, 0, none⟩) 1 1), ([r131]), H, hst.keep _ ⟨rfl, rfl, rfl, rfl, rfl, rfl, trivial⟩, hsh.pick [1, 1, 0]⟩
end Go.Proofs.Ytckjpkecipgeiaa.Mo
