/- Printed by gen.py: contracts. -/
import Derived.Test.YtfofolmagnaimaaDrpKd
set_option linter.unusedVariables false
set_option linter.unusedSimpArgs false
set_option maxRecDepth 100000
namespace Go.Proofs.Ytfofolmagnaimaa.Mo
open Go Go.Proofs.Ytfofolmagnaimaa.Sy
open Go.Proofs
set_option maxHeartbeats 4000000 in
set_option maxRecDepth 100000 in
theorem l21_rule.calls (w : World) (a0 : R21_Rule) (va0_0 : Value) (Za0_0 : Nat → Prop) (wra0_0 : World) (hsa0_0 : Same Za0_0 wra0_0 w) (hra0_0 : RD (Kd.int .u64) Za0_0 wra0_0 va0_0 a0.Snaps) (va0_1 : Value) (Za0_1 : Nat → Prop) (wra0_1 : World) (hsa0_1 : Same Za0_1 wra0_1 w) (hra0_1 : RD k_File Za0_1 wra0_1 va0_1 a0.Below) (r : drop_Rule) (h : l21_rule a0 = some r) :
    Calls Try.prog 8 ([.agg #[va0_0, va0_1]] : List Value).toArray w fun e w' => ∃ v0_ : Value, ∃ v1_ : Value, e = .returned (.agg #[v0_, v1_]) ∧ SH (fun _ => False) w w' [Row (Kd.int .u64) 26 v0_ r.Snaps, Row k_File 59 v1_ r.Below] := by
  have H := h
  clear h
  unfold l21_rule at H
  refine calls_enter Try.func8 rfl rfl ?_
  intro a hst
  have hsh := SH.zero (fun _ => False) w
  refine wp_seq ?_
  refine wp_region_lit ?_
  refine r_box hst hsh trivial rfl rfl rfl ?_
  intro g1 a w2 hgg1 hsh hst
  refine r_alloc hst hsh trivial rfl zr_27 ?_
  intro g3 a w4 hgg3 hsh hst
  refine wpList_nil ?_
  refine then_normal ?_
  obtain ⟨J_8, hJ_8, H⟩ := Jn.elim H
  refine wp_cut (fun a w' => ∃ (v_2 : Value), ∃ (l_3 : (List Int)), ∃ (v_5 : Value), ∃ (l_6 : (List File)), J_8 l_3 l_6 = some r ∧ ST Try.f8.ntmps a [(2, .pointer (some ⟨g3, 0, none⟩))] ∧ SH (fun _ => False) w w' [Box g3 [v_2, v_5] 27, Row (Kd.int .u64) 26 v_2 l_3, Row k_File 59 v_5 l_6]) ?_ ?_
  · rintro a W_7 ⟨v_2, l_3, v_5, l_6, H, hst, hsh⟩
    subst hJ_8
    dsimp only at H
    refine wp_ret ?_
    obtain rfl := Option.some.inj H
    exact retC hst rfl rfl (box_var (i := 0) hsh ag_27 rfl rfl) ⟨v_2, v_5, rfl, hsh.pick [1, 1]⟩
  · refine wp_region_t (.alt [(0, 1), (0, 2), (0, 5), (0, 6)] 0 4 (.alt [] 3 4 (.fin [(1, 4), (1, 7), (0, 8), (2, 9)]) (.fin [(1, 3), (1, 7), (0, 8), (2, 9)])) (.fin [(1, 0), (1, 3), (1, 7), (0, 8), (2, 9)])) (fun w' => SH (fun _ => False) w w' [Box g1 [va0_0, va0_1] 25]) (fun w' => SH (fun _ => False) w w' [Box g3 [(.slice none 0 0), (.slice none 0 0)] 27, Box g1 [va0_0, va0_1] 25]) (shut_sh _ _ _) (shut_sh _ _ _) (sub_sh [1] rfl) hsh.drew fo (by kernel_rfl) ?_
    refine t_alt ?_
    refine m_t hst trivial rfl (fun _ hsh => x_fieldAddr (j' := 0) hst fa_25_0 rfl rfl) ?_; intro a hst
    refine m_t hst trivial rfl (fun _ hsh => x_loadB (i := 0) hst hsh sc_22 rfl rfl rfl) ?_; intro a hst
    refine m_t hst trivial rfl (fun _ hsh => x_fieldAddr (j' := 1) hst fa_25_1 rfl rfl) ?_; intro a hst
    refine m_t hst trivial rfl (fun _ hsh => x_loadB (i := 0) hst hsh sc_23 rfl rfl rfl) ?_; intro a hst
    refine m_alt ?_ ?_
    · refine ld_loud ?_
      intro w58 hsh
      refine r_buildSlice (vs := []) (cs := []) hst hsh trivial rfl Try.underlying22 el_26 rfl rfl (by simp [Value.cells]) rfl rfl ?_
      intro g59 a w60 hgg59 hsh hst
      replace hsh := hsh.pick [0, 0, 0]
      replace hsh : SH (fun _ => False) w w60 [Row (Kd.int .u64) 26 (.slice (some ⟨g59, 0, none⟩) 0 0) ([]), Box g3 [(.slice none 0 0), (.slice none 0 0)] 27, Box g1 [va0_0, va0_1] 25] := SH.boxRow ([] : List Int) hsh rfl rfl rfl
      refine m_on (MB := [Box g1 [va0_0, va0_1] 25]) [2] [0] rfl rfl hsh rfl ?_
      refine t_alt ?_
      refine m_alt ?_ ?_
      · refine ld_loud ?_
        intro w62 hsh
        replace hsh := hsh.pick [0, 0, 0]
        obtain ⟨l63, hl63, H⟩ := Option.bind_eq_some_iff.1 H
        refine r_appendN (M := [Box g3 [(.slice none 0 0), (.slice none 0 0)] 27, Box g1 [va0_0, va0_1] 25]) hst hsh trivial rfl Try.underlying22 el_26 (by decide) (by decide) (by decide) rfl rfl (flat_flat _ _ _ _) hra0_0 (Same.sh0 hsa0_0 hsh) hl63 ?_
        intro v64 a w65 hsh hst
        refine m_on (MB := [Row (Kd.int .u64) 26 v64 l63, Box g1 [va0_0, va0_1] 25]) [0, 1] [1] rfl rfl hsh rfl ?_
        refine t_fin ?_
        refine m_loud ?_
        intro w66 hsh
        refine r_buildSlice (vs := []) (cs := []) hst hsh trivial rfl Try.underlying23 el_59 rfl rfl (by simp [Value.cells]) rfl rfl ?_
        intro g67 a w68 hgg67 hsh hst
        replace hsh := hsh.pick [0, 0, 0, 0]
        replace hsh : SH (fun _ => False) w w68 [Row k_File 59 (.slice (some ⟨g67, 0, none⟩) 0 0) ([]), Row (Kd.int .u64) 26 v64 l63, Box g3 [(.slice none 0 0), (.slice none 0 0)] 27, Box g1 [va0_0, va0_1] 25] := SH.boxRow ([] : List File) hsh rfl rfl rfl
        refine m_on (MB := [Row (Kd.int .u64) 26 v64 l63, Box g1 [va0_0, va0_1] 25]) [1, 2] [0, 0] rfl rfl hsh rfl ?_
        refine m_loud ?_
        intro w70 hsh
        replace hsh := hsh.pick [0, 0, 0, 0]
        obtain ⟨l71, hl71, H⟩ := Option.bind_eq_some_iff.1 H
        refine r_appendN (M := [Row (Kd.int .u64) 26 v64 l63, Box g3 [(.slice none 0 0), (.slice none 0 0)] 27, Box g1 [va0_0, va0_1] 25]) hst hsh trivial rfl Try.underlying23 el_59 (by decide) (by decide) (by decide) rfl rfl (flat_flat _ _ _ _) hra0_1 (Same.sh0 hsa0_1 hsh) hl71 ?_
        intro v72 a w73 hsh hst
        refine m_on (MB := [Row k_File 59 v72 l71, Row (Kd.int .u64) 26 v64 l63, Box g1 [va0_0, va0_1] 25]) [0, 0, 1] [1, 1] rfl rfl hsh rfl ?_
        refine m_t hst trivial rfl (fun _ hsh => x_build (cs := [v64, v72]) hst rfl (by obtain ⟨_, _, e0⟩ := (hsh.row 1 rfl).slen; obtain ⟨_, _, e1⟩ := (hsh.row 0 rfl).slen; rw [e0, e1]; kernel_rfl)) ?_; intro a hst
        refine m_loud ?_
        intro w74 hsh
        refine r_storeBs (i := 2) (cs' := [v64, v72]) (vs := [v64, v72]) hst hsh trivial ag_27 rfl rfl rfl rfl (one_cons (one_slice (hsh.row 1 rfl).slen) (one_cons (one_slice (hsh.row 0 rfl).slen) rfl)) rfl ?_; intro a w75 hsh hst
        refine m_turn hsh ?_
        refine m_nil ?_
        intro w76 hsh
        refine qn_normal ?_
        refine then_normal ?_
        exact ⟨v64, l63, v72, l71, H, hst.keep _ ⟨rfl, trivial⟩, hsh.pick [0, 1, 0]⟩
      · refine ld_loud ?_
        intro w77 hsh
        refine r_buildSlice (vs := []) (cs := []) hst hsh trivial rfl Try.underlying23 el_59 rfl rfl (by simp [Value.cells]) rfl rfl ?_
        intro g78 a w79 hgg78 hsh hst
        replace hsh := hsh.pick [0, 0, 0, 0]
        replace hsh : SH (fun _ => False) w w79 [Row k_File 59 (.slice (some ⟨g78, 0, none⟩) 0 0) ([]), Row (Kd.int .u64) 26 (.slice (some ⟨g59, 0, none⟩) 0 0) ([]), Box g3 [(.slice none 0 0), (.slice none 0 0)] 27, Box g1 [va0_0, va0_1] 25] := SH.boxRow ([] : List File) hsh rfl rfl rfl
        refine m_on (MB := [Box g1 [va0_0, va0_1] 25]) [3] [0] rfl rfl hsh rfl ?_
        refine t_fin ?_
        refine m_loud ?_
        intro w81 hsh
        replace hsh := hsh.pick [1, 0, 0, 0]
        obtain ⟨l82, hl82, H⟩ := Option.bind_eq_some_iff.1 H
        refine r_appendN (M := [Row k_File 59 (.slice (some ⟨g78, 0, none⟩) 0 0) ([]), Box g3 [(.slice none 0 0), (.slice none 0 0)] 27, Box g1 [va0_0, va0_1] 25]) hst hsh trivial rfl Try.underlying22 el_26 (by decide) (by decide) (by decide) rfl rfl (flat_flat _ _ _ _) hra0_0 (Same.sh0 hsa0_0 hsh) hl82 ?_
        intro v83 a w84 hsh hst
        refine m_on (MB := [Row (Kd.int .u64) 26 v83 l82, Box g1 [va0_0, va0_1] 25]) [0, 2] [1] rfl rfl hsh rfl ?_
        refine m_loud ?_
        intro w85 hsh
        replace hsh := hsh.pick [1, 0, 0, 0]
        obtain ⟨l86, hl86, H⟩ := Option.bind_eq_some_iff.1 H
        refine r_appendN (M := [Row (Kd.int .u64) 26 v83 l82, Box g3 [(.slice none 0 0), (.slice none 0 0)] 27, Box g1 [va0_0, va0_1] 25]) hst hsh trivial rfl Try.underlying23 el_59 (by decide) (by decide) (by decide) rfl rfl (flat_flat _ _ _ _) hra0_1 (Same.sh0 hsa0_1 hsh) hl86 ?_
        intro v87 a w88 hsh hst
        refine m_on (MB := [Row k_File 59 v87 l86, Row (Kd.int .u64) 26 v83 l82, Box g1 [va0_0, va0_1] 25]) [0, 0, 1] [1, 1] rfl rfl hsh rfl ?_
        refine m_t hst trivial rfl (fun _ hsh => x_build (cs := [v83, v87]) hst rfl (by obtain ⟨_, _, e0⟩ := (hsh.row 1 rfl).slen; obtain ⟨_, _, e1⟩ := (hsh.row 0 rfl).slen; rw [e0, e1]; kernel_rfl)) ?_; intro a hst
        refine m_loud ?_
        intro w89 hsh
        refine r_storeBs (i := 2) (cs' := [v83, v87]) (vs := [v83, v87]) hst hsh trivial ag_27 rfl rfl rfl rfl (one_cons (one_slice (hsh.row 1 rfl).slen) (one_cons (one_slice (hsh.row 0 rfl).slen) rfl)) rfl ?_; intro a w90 hsh hst
        refine m_turn hsh ?_
        refine m_nil ?_
        intro w91 hsh
        refine qn_normal ?_
        refine then_normal ?_
        exact ⟨v83, l82, v87, l86, H, hst.keep _ ⟨rfl, trivial⟩, hsh.pick [0, 1, 0]⟩
    · refine ld_loud ?_
      intro w92 hsh
      refine r_buildSlice (vs := []) (cs := []) hst hsh trivial rfl Try.underlying23 el_59 rfl rfl (by simp [Value.cells]) rfl rfl ?_
      intro g93 a w94 hgg93 hsh hst
      replace hsh := hsh.pick [0, 0, 0]
      replace hsh : SH (fun _ => False) w w94 [Row k_File 59 (.slice (some ⟨g93, 0, none⟩) 0 0) ([]), Box g3 [(.slice none 0 0), (.slice none 0 0)] 27, Box g1 [va0_0, va0_1] 25] := SH.boxRow ([] : List File) hsh rfl rfl rfl
      refine m_on (MB := [Box g1 [va0_0, va0_1] 25]) [2] [0] rfl rfl hsh rfl ?_
      refine t_fin ?_
      refine m_loud ?_
      intro w96 hsh
      refine r_buildSlice (vs := []) (cs := []) hst hsh trivial rfl Try.underlying22 el_26 rfl rfl (by simp [Value.cells]) rfl rfl ?_
      intro g97 a w98 hgg97 hsh hst
      replace hsh := hsh.pick [0, 0, 0, 0]
      replace hsh : SH (fun _ => False) w w98 [Row (Kd.int .u64) 26 (.slice (some ⟨g97, 0, none⟩) 0 0) ([]), Row k_File 59 (.slice (some ⟨g93, 0, none⟩) 0 0) ([]), Box g3 [(.slice none 0 0), (.slice none 0 0)] 27, Box g1 [va0_0, va0_1] 25] := SH.boxRow ([] : List Int) hsh rfl rfl rfl
      refine m_on (MB := [Box g1 [va0_0, va0_1] 25]) [3] [0] rfl rfl hsh rfl ?_
      refine m_loud ?_
      intro w100 hsh
      replace hsh := hsh.pick [0, 0, 0, 0]
      obtain ⟨l101, hl101, H⟩ := Option.bind_eq_some_iff.1 H
      refine r_appendN (M := [Row k_File 59 (.slice (some ⟨g93, 0, none⟩) 0 0) ([]), Box g3 [(.slice none 0 0), (.slice none 0 0)] 27, Box g1 [va0_0, va0_1] 25]) hst hsh trivial rfl Try.underlying22 el_26 (by decide) (by decide) (by decide) rfl rfl (flat_flat _ _ _ _) hra0_0 (Same.sh0 hsa0_0 hsh) hl101 ?_
      intro v102 a w103 hsh hst
      refine m_on (MB := [Row (Kd.int .u64) 26 v102 l101, Box g1 [va0_0, va0_1] 25]) [0, 2] [1] rfl rfl hsh rfl ?_
      refine m_loud ?_
      intro w104 hsh
      replace hsh := hsh.pick [1, 0, 0, 0]
      obtain ⟨l105, hl105, H⟩ := Option.bind_eq_some_iff.1 H
      refine r_appendN (M := [Row (Kd.int .u64) 26 v102 l101, Box g3 [(.slice none 0 0), (.slice none 0 0)] 27, Box g1 [va0_0, va0_1] 25]) hst hsh trivial rfl Try.underlying23 el_59 (by decide) (by decide) (by decide) rfl rfl (flat_flat _ _ _ _) hra0_1 (Same.sh0 hsa0_1 hsh) hl105 ?_
      intro v106 a w107 hsh hst
      refine m_on (MB := [Row k_File 59 v106 l105, Row (Kd.int .u64) 26 v102 l101, Box g1 [va0_0, va0_1] 25]) [0, 0, 1] [1, 1] rfl rfl hsh rfl ?_
      refine m_t hst trivial rfl (fun _ hsh => x_build (cs := [v102, v106]) hst rfl (by obtain ⟨_, _, e0⟩ := (hsh.row 1 rfl).slen; obtain ⟨_, _, e1⟩ := (hsh.row 0 rfl).slen; rw [e0, e1]; kernel_rfl)) ?_; intro a hst
      refine m_loud ?_
      intro w108 hsh
      refine r_storeBs (i := 2) (cs' := [v102, v106]) (vs := [v102, v106]) hst hsh trivial ag_27 rfl rfl rfl rfl (one_cons (one_slice (hsh.row 1 rfl).slen) (one_cons (one_slice (hsh.row 0 rfl).slen) rfl)) rfl ?_; intro a w109 hsh hst
      refine m_turn hsh ?_
      refine m_nil ?_
      intro w110 hsh
      refine qn_normal ?_
      refine then_normal ?_
      exact ⟨v102, l101, v106, l105, H, hst.keep _ ⟨rfl, trivial⟩, hsh.pick [0, 1, 0]⟩

set_option maxHeartbeats 4000000 in
set_option maxRecDepth 100000 in
theorem slices_Index_uint64.calls (k : Nat) (w : World) (va0 : Value) (Za0 : Nat → Prop) (wra0 : World) (hsa0 : Same Za0 wra0 w) (a0 : (List Int)) (hra0 : RD (Kd.int .u64) Za0 wra0 va0 a0) (a1 : Int) (r : Int) (h : slices_Index_uint64 k a0 a1 = some r) :
    Calls Try.prog 41 ([va0, .int .u64 a1] : List Value).toArray w fun e w' => e = .returned (.int .i64 r) ∧ SH (fun _ => False) w w' [] := by
  have H := h
  clear h
  unfold slices_Index_uint64 at H
  refine calls_enter Try.func41 rfl rfl ?_
  intro a hst
  have hsh := SH.zero (fun _ => False) w
  refine wp_seq ?_
  refine wp_region_lit ?_
  refine r_t hst trivial rfl (x_assign hst rfl) ?_; intro a hst
  refine wpList_nil ?_
  refine then_normal ?_
  refine wp_seq ?_
  refine wp_seq ?_
  refine wp_region_lit ?_
  refine r_t hst trivial rfl (x_move hst rfl) ?_; intro a hst
  refine r_t hst trivial rfl (x_lenSl hst Try.underlying22 rfl hra0.slen) ?_; intro a hst
  refine r_t hst trivial rfl (x_move hst rfl) ?_; intro a hst
  refine wpList_nil ?_
  refine then_normal ?_
  refine wp_block ?_
  refine wp_loop_fuel (fun k_16 a w' => ∃ (i_12 : Int), slices_Index_uint64.l0 a0 a1 k_16 i_12 = some r ∧ ST Try.f41.ntmps a [(0, va0), (1, .int .u64 a1), (4, .int .i64 0), (7, .int .i64 (a0.length : Int)), (8, .int .i64 i_12)] ∧ SH (fun _ => False) w w' []) k ?_ ?_
  · exact ⟨0, H, hst.keep _ ⟨rfl, rfl, rfl, rfl, rfl, trivial⟩, hsh.pick []⟩
  · rintro k_16 a W_13 ⟨i_12, H, hst, hsh⟩
    cases k_16 with
    | zero => rw [slices_Index_uint64.l0] at H; cases H
    | succ k_16 =>
      rw [slices_Index_uint64.l0] at H
      refine wp_seq ?_
      refine wp_region_lit ?_
      refine r_t hst trivial rfl (x_cmpI (b := decide (i_12 < (a0.length : Int))) hst rfl rfl rfl) ?_; intro a hst
      refine wpList_nil ?_
      refine then_normal ?_
      refine wp_seq ?_
      by_cases c32 : (decide (i_12 < (a0.length : Int))) = true
      · rw [if_pos c32] at H
        refine wp_condT hst rfl c32 ?_
        refine wp_skip ?_
        refine then_normal ?_
        refine wp_seq ?_
        refine wp_block ?_
        refine wp_seq ?_
        refine wp_region_lit ?_
        refine r_t hst trivial rfl (x_move hst rfl) ?_; intro a hst
        refine r_t hst trivial rfl (x_assign hst rfl) ?_; intro a hst
        refine wpList_nil ?_
        refine then_normal ?_
        refine wp_seq ?_
        refine wp_region_lit ?_
        refine r_t hst trivial rfl (x_move hst rfl) ?_; intro a hst
        refine r_t hst trivial rfl (x_move hst rfl) ?_; intro a hst
        refine r_t hst trivial rfl (x_move hst rfl) ?_; intro a hst
        obtain ⟨x35, hx35, H⟩ := Option.bind_eq_some_iff.1 H
        refine r_t hst trivial rfl (x_indexAddr hst Try.underlying22 el_26 rfl rfl hra0 hx35) ?_; intro a hst
        refine r_t hst trivial rfl (x_loadEF (j := 0) (cs := [.int .u64 x35]) hst sc_26 rfl hra0 (Same.sh0 hsa0 hsh) hx35 rfl (fun _ h => h) rfl) ?_; intro a hst
        refine r_t hst trivial rfl (x_cmpI (b := (a1 == x35)) hst rfl rfl rfl) ?_; intro a hst
        refine wpList_nil ?_
        refine then_normal ?_
        by_cases c36 : (a1 == x35) = true
        · rw [if_pos c36] at H
          refine wp_condT hst rfl c36 ?_
          refine wp_seq ?_
          refine wp_region_lit ?_
          refine r_t hst trivial rfl (x_move hst rfl) ?_; intro a hst
          refine r_t hst trivial rfl (x_assign hst rfl) ?_; intro a hst
          refine wpList_nil ?_
          refine then_normal ?_
          refine wp_ret ?_
          refine block_ret ?_
          refine then_ret ?_
          refine then_ret ?_
          refine block_ret ?_
          refine then_ret ?_
          obtain rfl := Option.some.inj H
          exact ret1 hst rfl rfl ⟨rfl, hsh.pick []⟩
        · rw [if_neg c36] at H
          replace c36 := Bool.eq_false_iff.2 c36
          refine wp_condF hst rfl c36 ?_
          refine wp_skip ?_
          refine block_normal ?_
          refine then_normal ?_
          refine wp_region_lit ?_
          refine r_t hst trivial rfl (x_arI (r := w64 (i_12 + 1)) hst rfl rfl rfl) ?_; intro a hst
          refine r_t hst trivial rfl (x_move hst rfl) ?_; intro a hst
          refine wpList_nil ?_
          refine then_normal ?_
          exact ⟨k_16, Nat.lt_succ_self _, (w64 (i_12 + 1)), H, hst.keep _ ⟨rfl, rfl, rfl, rfl, rfl, trivial⟩, hsh.pick []⟩
      · rw [if_neg c32] at H
        replace c32 := Bool.eq_false_iff.2 c32
        refine wp_condF hst rfl c32 ?_
        refine wp_exit ?_
        refine then_exit ?_
        refine then_exit ?_
        refine block_hit ?_
        refine then_normal ?_
        refine wp_seq ?_
        refine wp_region_lit ?_
        refine r_t hst trivial rfl (x_assign hst rfl) ?_; intro a hst
        refine wpList_nil ?_
        refine then_normal ?_
        refine wp_ret ?_
        obtain rfl := Option.some.inj H
        exact ret1 hst rfl rfl ⟨rfl, hsh.pick []⟩

set_option maxHeartbeats 4000000 in
set_option maxRecDepth 100000 in
theorem slices_Contains_uint64.calls (k : Nat) (w : World) (va0 : Value) (Za0 : Nat → Prop) (wra0 : World) (hsa0 : Same Za0 wra0 w) (a0 : (List Int)) (hra0 : RD (Kd.int .u64) Za0 wra0 va0 a0) (a1 : Int) (r : Bool) (h : slices_Contains_uint64 k a0 a1 = some r) :
    Calls Try.prog 23 ([va0, .int .u64 a1] : List Value).toArray w fun e w' => e = .returned (.bool r) ∧ SH (fun _ => False) w w' [] := by
  have H := h
  clear h
  unfold slices_Contains_uint64 at H
  refine calls_enter Try.func23 rfl rfl ?_
  intro a hst
  have hsh := SH.zero (fun _ => False) w
  refine wp_seq ?_
  refine wp_region_lit ?_
  refine r_t hst trivial rfl (x_assign hst rfl) ?_; intro a hst
  refine wpList_nil ?_
  refine then_normal ?_
  refine wp_seq ?_
  refine wp_region_lit ?_
  refine r_t hst trivial rfl (x_move hst rfl) ?_; intro a hst
  refine r_t hst trivial rfl (x_move hst rfl) ?_; intro a hst
  obtain ⟨r1, hr1, H⟩ := Option.bind_eq_some_iff.1 H
  refine r_callD hst trivial rfl fn_41 rfl (slices_Index_uint64.calls k _ _ _ _ (Same.sh0 hsa0 hsh) _ hra0 a1 r1 hr1) ?_
  rintro e w2 ⟨rfl, hc⟩
  replace hsh := hsh.call0 hc
  clear hc
  refine ⟨_, rfl, fun a hst => ?_⟩
  refine r_t hst trivial rfl (x_cmpI (b := decide (0 ≤ r1)) hst rfl rfl rfl) ?_; intro a hst
  refine r_t hst trivial rfl (x_assign hst rfl) ?_; intro a hst
  refine wpList_nil ?_
  refine then_normal ?_
  refine wp_ret ?_
  obtain rfl := Option.some.inj H
  exact ret1 hst rfl rfl ⟨rfl, hsh.pick []⟩

set_option maxHeartbeats 4000000 in
set_option maxRecDepth 100000 in
theorem drop_Stripe.calls (k : Nat) (w : World) (va0 : Value) (Za0 : Nat → Prop) (wra0 : World) (hsa0 : Same Za0 wra0 w) (a0 : (List Int)) (hra0 : RD (Kd.int .u64) Za0 wra0 va0 a0) (a1 : Int) (r : Int) (h : drop_Stripe k a0 a1 = some r) :
    Calls Try.prog 9 ([va0, .int .u64 a1] : List Value).toArray w fun e w' => e = .returned (.int .i64 r) ∧ SH (fun _ => False) w w' [] := by
  have H := h
  clear h
  unfold drop_Stripe at H
  refine calls_enter Try.func9 rfl rfl ?_
  intro a hst
  have hsh := SH.zero (fun _ => False) w
  refine wp_seq ?_
  refine wp_region_lit ?_
  refine r_t hst trivial rfl (x_assign hst rfl) ?_; intro a hst
  refine wpList_nil ?_
  refine then_normal ?_
  refine wp_seq ?_
  refine wp_region_lit ?_
  refine r_t hst trivial rfl (x_assign hst rfl) ?_; intro a hst
  refine wpList_nil ?_
  refine then_normal ?_
  refine wp_seq ?_
  refine wp_seq ?_
  refine wp_region_lit ?_
  refine r_t hst trivial rfl (x_move hst rfl) ?_; intro a hst
  refine r_t hst trivial rfl (x_lenSl hst Try.underlying22 rfl hra0.slen) ?_; intro a hst
  refine r_t hst trivial rfl (x_move hst rfl) ?_; intro a hst
  refine wpList_nil ?_
  refine then_normal ?_
  refine wp_block ?_
  refine wp_loop_fuel (fun k_67 a w' => ∃ (i_52 : Int), ∃ (i_53 : Int), drop_Stripe.l0 a0 a1 k_67 i_52 i_53 = some r ∧ ST Try.f9.ntmps a [(0, va0), (1, .int .u64 a1), (4, .int .i64 0), (5, .int .i64 i_52), (8, va0), (9, .int .i64 (a0.length : Int)), (10, .int .i64 i_53)] ∧ SH (fun _ => False) w w' []) k ?_ ?_
  · exact ⟨0, 0, H, hst.keep _ ⟨rfl, rfl, rfl, rfl, rfl, rfl, rfl, trivial⟩, hsh.pick []⟩
  · rintro k_67 a W_54 ⟨i_52, i_53, H, hst, hsh⟩
    cases k_67 with
    | zero => rw [drop_Stripe.l0] at H; cases H
    | succ k_67 =>
      rw [drop_Stripe.l0] at H
      refine wp_seq ?_
      refine wp_region_lit ?_
      refine r_t hst trivial rfl (x_cmpI (b := decide (i_53 < (a0.length : Int))) hst rfl rfl rfl) ?_; intro a hst
      refine wpList_nil ?_
      refine then_normal ?_
      refine wp_seq ?_
      by_cases c102 : (decide (i_53 < (a0.length : Int))) = true
      · rw [if_pos c102] at H
        refine wp_condT hst rfl c102 ?_
        refine wp_skip ?_
        refine then_normal ?_
        obtain ⟨J_73, hJ_73, H⟩ := Jn.elim H
        refine wp_cut (fun a w' => ∃ (i_71 : Int), J_73 i_71 = some r ∧ ST Try.f9.ntmps a [(0, va0), (1, .int .u64 a1), (4, .int .i64 0), (5, .int .i64 i_71), (8, va0), (9, .int .i64 (a0.length : Int)), (10, .int .i64 i_53)] ∧ SH (fun _ => False) w w' []) ?_ ?_
        · rintro a W_72 ⟨i_71, H, hst, hsh⟩
          subst hJ_73
          dsimp only at H
          refine wp_region_lit ?_
          refine r_t hst trivial rfl (x_arI (r := w64 (i_53 + 1)) hst rfl rfl rfl) ?_; intro a hst
          refine r_t hst trivial rfl (x_move hst rfl) ?_; intro a hst
          refine wpList_nil ?_
          refine then_normal ?_
          exact ⟨k_67, Nat.lt_succ_self _, i_71, (w64 (i_53 + 1)), H, hst.keep _ ⟨rfl, rfl, rfl, rfl, rfl, rfl, rfl, trivial⟩, hsh.pick []⟩
        · refine wp_block ?_
          refine wp_seq ?_
          refine wp_region_lit ?_
          refine r_t hst trivial rfl (x_move hst rfl) ?_; intro a hst
          obtain ⟨x112, hx112, H⟩ := Option.bind_eq_some_iff.1 H
          refine r_t hst trivial rfl (x_indexAddr hst Try.underlying22 el_26 rfl rfl hra0 hx112) ?_; intro a hst
          refine r_t hst trivial rfl (x_loadEF (j := 0) (cs := [.int .u64 x112]) hst sc_26 rfl hra0 (Same.sh0 hsa0 hsh) hx112 rfl (fun _ h => h) rfl) ?_; intro a hst
          refine r_t hst trivial rfl (x_assign hst rfl) ?_; intro a hst
          refine r_t hst trivial rfl (x_assign hst rfl) ?_; intro a hst
          refine wpList_nil ?_
          refine then_normal ?_
          refine wp_seq ?_
          refine wp_region_lit ?_
          refine r_t hst trivial rfl (x_move hst rfl) ?_; intro a hst
          refine r_t hst trivial rfl (x_move hst rfl) ?_; intro a hst
          refine r_t hst trivial rfl (x_cmpI (b := decide (x112 < a1)) hst rfl rfl rfl) ?_; intro a hst
          refine r_t hst trivial rfl (x_move hst rfl) ?_; intro a hst
          obtain ⟨J_75, hJ_75, H⟩ := Jn.elim H
          refine wl_join 11 (fun a w' => ∃ (b_74 : Bool), J_75 b_74 = some r ∧ ST Try.f9.ntmps a [(0, va0), (1, .int .u64 a1), (4, .int .i64 0), (5, .int .i64 i_52), (8, va0), (9, .int .i64 (a0.length : Int)), (10, .int .i64 i_53), (25, .bool b_74)] ∧ SH (fun _ => False) w w' []) ?_ ?_
          · rintro a W_76 ⟨b_74, H, hst, hsh⟩
            subst hJ_75
            dsimp only at H
            refine wpList_nil ?_
            refine then_normal ?_
            by_cases c117 : b_74 = true
            · rw [if_pos c117] at H
              refine wp_condT hst rfl c117 ?_
              refine wp_region_lit ?_
              refine r_t hst trivial rfl (x_move hst rfl) ?_; intro a hst
              refine r_t hst trivial rfl (x_arI (r := w64 (i_52 + 1)) hst rfl rfl rfl) ?_; intro a hst
              refine r_t hst trivial rfl (x_assign hst rfl) ?_; intro a hst
              refine wpList_nil ?_
              refine block_normal ?_
              refine then_normal ?_
              exact ⟨(w64 (i_52 + 1)), H, hst.keep _ ⟨rfl, rfl, rfl, rfl, rfl, rfl, rfl, trivial⟩, hsh.pick []⟩
            · rw [if_neg c117] at H
              replace c117 := Bool.eq_false_iff.2 c117
              refine wp_condF hst rfl c117 ?_
              refine wp_skip ?_
              refine block_normal ?_
              refine then_normal ?_
              exact ⟨i_52, H, hst.keep _ ⟨rfl, rfl, rfl, rfl, rfl, rfl, rfl, trivial⟩, hsh.pick []⟩
          · intro hj
            by_cases c113 : (decide (x112 < a1)) = true
            · rw [if_pos c113] at H
              refine r_t hst (wt_of 18 rfl rfl c113) rfl (x_move hst rfl) ?_; intro a hst
              refine r_t hst (wt_of 18 rfl rfl c113) rfl (x_move hst rfl) ?_; intro a hst
              obtain ⟨l118, hl118, H⟩ := Option.bind_eq_some_iff.1 H
              refine r_t hst (wt_of 18 rfl rfl c113) rfl (x_cutH hst Try.underlying22 el_26 rfl rfl hra0 hl118) ?_; intro a hst
              refine r_t hst (wt_of 18 rfl rfl c113) rfl (x_move hst rfl) ?_; intro a hst
              obtain ⟨r119, hr119, H⟩ := Option.bind_eq_some_iff.1 H
              refine r_callD hst (wt_of 18 rfl rfl c113) rfl fn_23 rfl (slices_Contains_uint64.calls k_67 _ _ _ _ (Same.sh0 hsa0 hsh) _ (hra0.cut (by decide) hl118) x112 r119 hr119) ?_
              rintro e w120 ⟨rfl, hc⟩
              replace hsh := hsh.call0 hc
              clear hc
              refine ⟨_, rfl, fun a hst => ?_⟩
              refine r_t hst (wt_of 18 rfl rfl c113) rfl (x_notB hst rfl) ?_; intro a hst
              refine r_t hst trivial rfl (x_pickT hst rfl c113 rfl) ?_; intro a hst
              exact hj _ _ ⟨(!r119), H, hst.keep _ ⟨rfl, rfl, rfl, rfl, rfl, rfl, rfl, rfl, trivial⟩, hsh.pick []⟩
            · rw [if_neg c113] at H
              replace c113 := Bool.eq_false_iff.2 c113
              refine r_not hst 18 rfl rfl c113 rfl ?_; intro a hst
              refine r_not hst 18 rfl rfl c113 rfl ?_; intro a hst
              refine r_not hst 18 rfl rfl c113 rfl ?_; intro a hst
              refine r_not hst 18 rfl rfl c113 rfl ?_; intro a hst
              refine r_not hst 18 rfl rfl c113 rfl ?_; intro a hst
              refine r_not hst 18 rfl rfl c113 rfl ?_; intro a hst
              refine r_t hst trivial rfl (x_pickF hst rfl c113 rfl) ?_; intro a hst
              exact hj _ _ ⟨false, H, hst.keep _ ⟨rfl, rfl, rfl, rfl, rfl, rfl, rfl, rfl, trivial⟩, hsh.pick []⟩
      · rw [if_neg c102] at H
        replace c102 := Bool.eq_false_iff.2 c102
        refine wp_condF hst rfl c102 ?_
        refine wp_exit ?_
        refine then_exit ?_
        refine then_exit ?_
        refine block_hit ?_
        refine then_normal ?_
        refine wp_seq ?_
        refine wp_region_lit ?_
        refine r_t hst trivial rfl (x_move hst rfl) ?_; intro a hst
        refine r_t hst trivial rfl (x_assign hst rfl) ?_; intro a hst
        refine wpList_nil ?_
        refine then_normal ?_
        refine wp_ret ?_
        obtain rfl := Option.some.inj H
        exact ret1 hst rfl rfl ⟨rfl, hsh.pick []⟩

set_option maxHeartbeats 4000000 in
set_option maxRecDepth 100000 in
theorem r21_Stripe.calls (k : Nat) (w : World) (va0 : Value) (Za0 : Nat → Prop) (wra0 : World) (hsa0 : Same Za0 wra0 w) (a0 : (List Int)) (hra0 : RD (Kd.int .u64) Za0 wra0 va0 a0) (a1 : Int) (r : Int) (h : r21_Stripe k a0 a1 = some r) :
    Calls Try.prog 10 ([va0, .int .u64 a1] : List Value).toArray w fun e w' => e = .returned (.int .i64 r) ∧ SH (fun _ => False) w w' [] := by
  have H := h
  clear h
  unfold r21_Stripe at H
  refine calls_enter Try.func10 rfl rfl ?_
  intro a hst
  have hsh := SH.zero (fun _ => False) w
  refine wp_seq ?_
  refine wp_region_lit ?_
  refine r_t hst trivial rfl (x_assign hst rfl) ?_; intro a hst
  refine wpList_nil ?_
  refine then_normal ?_
  refine wp_seq ?_
  refine wp_region_lit ?_
  refine r_t hst trivial rfl (x_assign hst rfl) ?_; intro a hst
  refine wpList_nil ?_
  refine then_normal ?_
  refine wp_seq ?_
  refine wp_seq ?_
  refine wp_region_lit ?_
  refine r_t hst trivial rfl (x_assign hst rfl) ?_; intro a hst
  refine wpList_nil ?_
  refine then_normal ?_
  refine wp_block ?_
  refine wp_loop_fuel (fun k_647 a w' => ∃ (i_516 : Int), ∃ (i_517 : Int), r21_Stripe.l0 a0 a1 k_647 i_516 i_517 = some r ∧ ST Try.f10.ntmps a [(0, va0), (1, .int .u64 a1), (4, .int .i64 0), (5, .int .i64 i_516), (6, .int .i64 i_517)] ∧ SH (fun _ => False) w w' []) k ?_ ?_
  · exact ⟨0, 0, H, hst.keep _ ⟨rfl, rfl, rfl, rfl, rfl, trivial⟩, hsh.pick []⟩
  · rintro k_647 a W_518 ⟨i_516, i_517, H, hst, hsh⟩
    cases k_647 with
    | zero => rw [r21_Stripe.l0] at H; cases H
    | succ k_647 =>
      rw [r21_Stripe.l0] at H
      refine wp_seq ?_
      refine wp_seq ?_
      refine wp_region_lit ?_
      refine r_t hst trivial rfl (x_move hst rfl) ?_; intro a hst
      refine r_t hst trivial rfl (x_move hst rfl) ?_; intro a hst
      refine r_t hst trivial rfl (x_lenSl hst Try.underlying22 rfl hra0.slen) ?_; intro a hst
      refine r_t hst trivial rfl (x_cmpI (b := decide (i_517 < (a0.length : Int))) hst rfl rfl rfl) ?_; intro a hst
      refine wpList_nil ?_
      refine then_normal ?_
      by_cases c882 : (decide (i_517 < (a0.length : Int))) = true
      · rw [if_pos c882] at H
        refine wp_condT hst rfl c882 ?_
        refine wp_skip ?_
        refine then_normal ?_
        obtain ⟨J_711, hJ_711, H⟩ := Jn.elim H
        refine wp_cut (fun a w' => ∃ (i_709 : Int), J_711 i_709 = some r ∧ ST Try.f10.ntmps a [(0, va0), (1, .int .u64 a1), (4, .int .i64 0), (5, .int .i64 i_709), (6, .int .i64 i_517)] ∧ SH (fun _ => False) w w' []) ?_ ?_
        · rintro a W_710 ⟨i_709, H, hst, hsh⟩
          subst hJ_711
          dsimp only at H
          refine wp_region_lit ?_
          refine r_t hst trivial rfl (x_move hst rfl) ?_; intro a hst
          refine r_t hst trivial rfl (x_arI (r := w64 (i_517 + 1)) hst rfl rfl rfl) ?_; intro a hst
          refine r_t hst trivial rfl (x_assign hst rfl) ?_; intro a hst
          refine wpList_nil ?_
          refine then_normal ?_
          exact ⟨k_647, Nat.lt_succ_self _, i_709, (w64 (i_517 + 1)), H, hst.keep _ ⟨rfl, rfl, rfl, rfl, rfl, trivial⟩, hsh.pick []⟩
        · refine wp_block ?_
          refine wp_seq ?_
          refine wp_region_lit ?_
          refine r_t hst trivial rfl (x_assign hst rfl) ?_; intro a hst
          refine wpList_nil ?_
          refine then_normal ?_
          obtain ⟨J_743, hJ_743, H⟩ := Jn.elim H
          refine wp_cut (fun a w' => ∃ (b_741 : Bool), J_743 b_741 = some r ∧ ST Try.f10.ntmps a [(0, va0), (1, .int .u64 a1), (4, .int .i64 0), (5, .int .i64 i_516), (6, .int .i64 i_517), (7, .bool b_741)] ∧ SH (fun _ => False) w w' []) ?_ ?_
          · rintro a W_742 ⟨b_741, H, hst, hsh⟩
            subst hJ_743
            dsimp only at H
            refine wp_seq ?_
            refine wp_region_lit ?_
            refine r_t hst trivial rfl (x_move hst rfl) ?_; intro a hst
            refine r_t hst trivial rfl (x_move hst rfl) ?_; intro a hst
            obtain ⟨x1012, hx1012, H⟩ := Option.bind_eq_some_iff.1 H
            refine r_t hst trivial rfl (x_indexAddr hst Try.underlying22 el_26 rfl rfl hra0 hx1012) ?_; intro a hst
            refine r_t hst trivial rfl (x_loadEF (j := 0) (cs := [.int .u64 x1012]) hst sc_26 rfl hra0 (Same.sh0 hsa0 hsh) hx1012 rfl (fun _ h => h) rfl) ?_; intro a hst
            refine r_t hst trivial rfl (x_move hst rfl) ?_; intro a hst
            refine r_t hst trivial rfl (x_cmpI (b := decide (x1012 < a1)) hst rfl rfl rfl) ?_; intro a hst
            refine r_t hst trivial rfl (x_move hst rfl) ?_; intro a hst
            refine wl_join0 (N := Try.f10.ntmps) 10 [(0, va0), (1, .int .u64 a1), (4, .int .i64 0), (5, .int .i64 i_516), (6, .int .i64 i_517), (41, .bool ((decide (x1012 < a1)) && (!b_741)))] ?_ ?_
            · intro a hst
              refine wpList_nil ?_
              refine then_normal ?_
              by_cases c1014 : ((decide (x1012 < a1)) && (!b_741)) = true
              · rw [if_pos c1014] at H
                refine wp_condT hst rfl c1014 ?_
                refine wp_region_lit ?_
                refine r_t hst trivial rfl (x_move hst rfl) ?_; intro a hst
                refine r_t hst trivial rfl (x_arI (r := w64 (i_516 + 1)) hst rfl rfl rfl) ?_; intro a hst
                refine r_t hst trivial rfl (x_assign hst rfl) ?_; intro a hst
                refine wpList_nil ?_
                refine block_normal ?_
                refine then_normal ?_
                exact ⟨(w64 (i_516 + 1)), H, hst.keep _ ⟨rfl, rfl, rfl, rfl, rfl, trivial⟩, hsh.pick []⟩
              · rw [if_neg c1014] at H
                replace c1014 := Bool.eq_false_iff.2 c1014
                refine wp_condF hst rfl c1014 ?_
                refine wp_skip ?_
                refine block_normal ?_
                refine then_normal ?_
                exact ⟨i_516, H, hst.keep _ ⟨rfl, rfl, rfl, rfl, rfl, trivial⟩, hsh.pick []⟩
            · intro hj
              by_cases c1013 : (decide (x1012 < a1)) = true
              · refine r_t hst (wt_of 38 rfl rfl c1013) rfl (x_move hst rfl) ?_; intro a hst
                refine r_t hst (wt_of 38 rfl rfl c1013) rfl (x_notB hst rfl) ?_; intro a hst
                refine r_t hst trivial rfl (x_andT hst rfl c1013 rfl) ?_; intro a hst
                exact hj _ (hst.keep _ ⟨rfl, rfl, rfl, rfl, rfl, rfl, trivial⟩)
              · replace c1013 := Bool.eq_false_iff.2 c1013
                refine r_not hst 38 rfl rfl c1013 rfl ?_; intro a hst
                refine r_not hst 38 rfl rfl c1013 rfl ?_; intro a hst
                refine r_t hst trivial rfl (x_andF (!b_741) hst rfl c1013 rfl) ?_; intro a hst
                exact hj _ (hst.keep _ ⟨rfl, rfl, rfl, rfl, rfl, rfl, trivial⟩)
          · refine wp_seq ?_
            refine wp_region_lit ?_
            refine r_t hst trivial rfl (x_assign hst rfl) ?_; intro a hst
            refine wpList_nil ?_
            refine then_normal ?_
            refine wp_block ?_
            refine wp_loop_fuel (fun k_766 a w' => ∃ (b_754 : Bool), ∃ (i_755 : Int), r21_Stripe.l1 a0 i_517 J_743 k_766 b_754 i_755 = some r ∧ ST Try.f10.ntmps a [(0, va0), (1, .int .u64 a1), (4, .int .i64 0), (5, .int .i64 i_516), (6, .int .i64 i_517), (7, .bool b_754), (8, .int .i64 i_755)] ∧ SH (fun _ => False) w w' []) k_647 ?_ ?_
            · exact ⟨false, 0, H, hst.keep _ ⟨rfl, rfl, rfl, rfl, rfl, rfl, rfl, trivial⟩, hsh.pick []⟩
            · rintro k_766 a W_756 ⟨b_754, i_755, H, hst, hsh⟩
              cases k_766 with
              | zero => rw [r21_Stripe.l1] at H; cases H
              | succ k_766 =>
                rw [r21_Stripe.l1] at H
                refine wp_seq ?_
                refine wp_seq ?_
                refine wp_region_lit ?_
                refine r_t hst trivial rfl (x_move hst rfl) ?_; intro a hst
                refine r_t hst trivial rfl (x_move hst rfl) ?_; intro a hst
                refine r_t hst trivial rfl (x_cmpI (b := decide (i_755 < i_517)) hst rfl rfl rfl) ?_; intro a hst
                refine wpList_nil ?_
                refine then_normal ?_
                by_cases c1044 : (decide (i_755 < i_517)) = true
                · rw [if_pos c1044] at H
                  refine wp_condT hst rfl c1044 ?_
                  refine wp_skip ?_
                  refine then_normal ?_
                  refine wp_seq ?_
                  refine wp_block ?_
                  refine wp_region_q (fun w' => SH (fun _ => False) w w' []) hsh.drew fo (by kernel_rfl) ?_
                  refine q_t hst trivial rfl (fun _ hsh => x_move hst rfl) ?_; intro a hst
                  refine q_t hst trivial rfl (fun _ hsh => x_move hst rfl) ?_; intro a hst
                  obtain ⟨J_771, hJ_771, H⟩ := Jn.elim H
                  refine q_join 12 (fun a => ∃ (b_770 : Bool), J_771 b_770 = some r ∧ ST Try.f10.ntmps a [(0, va0), (1, .int .u64 a1), (4, .int .i64 0), (5, .int .i64 i_516), (6, .int .i64 i_517), (7, .bool b_754), (8, .int .i64 i_755), (31, .bool b_770)]) ?_ ?_
                  · rintro a ⟨b_770, H, hst⟩
                    subst hJ_771
                    dsimp only at H
                    refine q_t hst trivial rfl (fun _ hsh => x_assign hst rfl) ?_; intro a hst
                    refine q_nil ?_
                    intro w1054 hsh
                    refine block_normal ?_
                    refine then_normal ?_
                    refine wp_region_lit ?_
                    refine r_t hst trivial rfl (x_move hst rfl) ?_; intro a hst
                    refine r_t hst trivial rfl (x_arI (r := w64 (i_755 + 1)) hst rfl rfl rfl) ?_; intro a hst
                    refine r_t hst trivial rfl (x_assign hst rfl) ?_; intro a hst
                    refine wpList_nil ?_
                    refine then_normal ?_
                    exact ⟨k_766, Nat.lt_succ_self _, b_770, (w64 (i_755 + 1)), H, hst.keep _ ⟨rfl, rfl, rfl, rfl, rfl, rfl, rfl, trivial⟩, hsh.pick []⟩
                  · intro hj
                    by_cases c1051 : b_754 = true
                    · rw [if_pos c1051] at H
                      refine q_not hst 21 rfl rfl c1051 rfl ?_; intro a hst
                      refine q_not hst 21 rfl rfl c1051 rfl ?_; intro a hst
                      refine q_not hst 21 rfl rfl c1051 rfl ?_; intro a hst
                      refine q_not hst 21 rfl rfl c1051 rfl ?_; intro a hst
                      refine q_not hst 21 rfl rfl c1051 rfl ?_; intro a hst
                      refine q_not hst 21 rfl rfl c1051 rfl ?_; intro a hst
                      refine q_not hst 21 rfl rfl c1051 rfl ?_; intro a hst
                      refine q_not hst 21 rfl rfl c1051 rfl ?_; intro a hst
                      refine q_not hst 21 rfl rfl c1051 rfl ?_; intro a hst
                      refine q_t hst trivial rfl (fun _ hsh => x_pickT hst rfl c1051 rfl) ?_; intro a hst
                      exact hj _ ⟨true, H, hst.keep _ ⟨rfl, rfl, rfl, rfl, rfl, rfl, rfl, rfl, trivial⟩⟩
                    · rw [if_neg c1051] at H
                      replace c1051 := Bool.eq_false_iff.2 c1051
                      refine q_t hst (wt_of 21 rfl rfl c1051) rfl (fun _ hsh => x_move hst rfl) ?_; intro a hst
                      refine q_t hst (wt_of 21 rfl rfl c1051) rfl (fun _ hsh => x_move hst rfl) ?_; intro a hst
                      obtain ⟨x1055, hx1055, H⟩ := Option.bind_eq_some_iff.1 H
                      refine q_t hst (wt_of 21 rfl rfl c1051) rfl (fun _ hsh => x_indexAddr hst Try.underlying22 el_26 rfl rfl hra0 hx1055) ?_; intro a hst
                      refine q_t hst (wt_of 21 rfl rfl c1051) rfl (fun _ hsh => x_loadEF (j := 0) (cs := [.int .u64 x1055]) hst sc_26 rfl hra0 (Same.sh0 hsa0 hsh) hx1055 rfl (fun _ h => h) rfl) ?_; intro a hst
                      refine q_t hst (wt_of 21 rfl rfl c1051) rfl (fun _ hsh => x_move hst rfl) ?_; intro a hst
                      refine q_t hst (wt_of 21 rfl rfl c1051) rfl (fun _ hsh => x_move hst rfl) ?_; intro a hst
                      obtain ⟨x1056, hx1056, H⟩ := Option.bind_eq_some_iff.1 H
                      refine q_t hst (wt_of 21 rfl rfl c1051) rfl (fun _ hsh => x_indexAddr hst Try.underlying22 el_26 rfl rfl hra0 hx1056) ?_; intro a hst
                      refine q_t hst (wt_of 21 rfl rfl c1051) rfl (fun _ hsh => x_loadEF (j := 0) (cs := [.int .u64 x1056]) hst sc_26 rfl hra0 (Same.sh0 hsa0 hsh) hx1056 rfl (fun _ h => h) rfl) ?_; intro a hst
                      refine q_t hst (wt_of 21 rfl rfl c1051) rfl (fun _ hsh => x_cmpI (b := (x1055 == x1056)) hst rfl rfl rfl) ?_; intro a hst
                      refine q_t hst trivial rfl (fun _ hsh => x_pickF hst rfl c1051 rfl) ?_; intro a hst
                      exact hj _ ⟨(x1055 == x1056), H, hst.keep _ ⟨rfl, rfl, rfl, rfl, rfl, rfl, rfl, rfl, trivial⟩⟩
                · rw [if_neg c1044] at H
                  replace c1044 := Bool.eq_false_iff.2 c1044
                  refine wp_condF hst rfl c1044 ?_
                  refine wp_exit ?_
                  refine then_exit ?_
                  refine then_exit ?_
                  refine block_hit ?_
                  refine then_normal ?_
                  exact ⟨b_754, H, hst.keep _ ⟨rfl, rfl, rfl, rfl, rfl, rfl, trivial⟩, hsh.pick []⟩
      · rw [if_neg c882] at H
        replace c882 := Bool.eq_false_iff.2 c882
        refine wp_condF hst rfl c882 ?_
        refine wp_exit ?_
        refine then_exit ?_
        refine then_exit ?_
        refine block_hit ?_
        refine then_normal ?_
        refine wp_seq ?_
        refine wp_region_lit ?_
        refine r_t hst trivial rfl (x_move hst rfl) ?_; intro a hst
        refine r_t hst trivial rfl (x_assign hst rfl) ?_; intro a hst
        refine wpList_nil ?_
        refine then_normal ?_
        refine wp_ret ?_
        obtain rfl := Option.some.inj H
        exact ret1 hst rfl rfl ⟨rfl, hsh.pick []⟩

set_option maxHeartbeats 4000000 in
set_option maxRecDepth 100000 in
theorem drop_Bears_1.calls (w : World) (a0 : File) (c0 : ByteArray) (ggc0 : Nat) (Zc0 : Nat → Prop) (wrc0 : World) (hsc0 : Same Zc0 wrc0 w) (hzc0 : Zc0 ggc0) (hbc0 : wrc0.heap[ggc0]? = some (.cells ([.string c0] : List Value).toArray 9 (0, 0))) (r : Bool) (h : drop_Bears_1 a0 c0 = some r) :
    Calls Try.prog 25 ([.agg #[.int .i64 a0.Number, .int .i64 a0.Size, .string a0.Least, .string a0.Limit, .int .u64 a0.Low, .int .u64 a0.High], .pointer (some ⟨ggc0, 0, none⟩)] : List Value).toArray w fun e w' => e = .returned (.bool r) ∧ SH (fun _ => False) w w' [] := by
  have H := h
  clear h
  unfold drop_Bears_1 at H
  refine calls_enter Try.func25 rfl rfl ?_
  intro a hst
  have hsh := SH.zero (fun _ => False) w
  refine wp_seq ?_
  refine wp_region_lit ?_
  refine r_box hst hsh trivial rfl rfl rfl ?_
  intro g1 a w2 hgg1 hsh hst
  refine r_t hst trivial rfl (x_assign hst rfl) ?_; intro a hst
  refine wpList_nil ?_
  refine then_normal ?_
  refine wp_seq ?_
  refine wp_region_lit ?_
  refine r_t hst trivial rfl (x_fieldAddr (j' := 2) hst fa_59_2 rfl rfl) ?_; intro a hst
  refine r_t hst trivial rfl (x_loadB (i := 0) hst hsh sc_9 rfl rfl rfl) ?_; intro a hst
  refine r_t hst trivial rfl (x_loadCap (cs := [.string c0]) hst hbc0 (Same.sh0 hsc0 hsh) hzc0 sc_9 rfl rfl) ?_; intro a hst
  refine r_t hst trivial rfl (x_cmpS (b := (sLt a0.Least c0 || sEq a0.Least c0)) hst rfl rfl rfl) ?_; intro a hst
  refine r_t hst trivial rfl (x_move hst rfl) ?_; intro a hst
  refine wl_join0 (N := Try.f25.ntmps) 10 [(3, .bool false), (13, .bool ((sLt a0.Least c0 || sEq a0.Least c0) && (sLt c0 a0.Limit)))] ?_ ?_
  · intro a hst
    refine r_t hst trivial rfl (x_assign hst rfl) ?_; intro a hst
    refine wpList_nil ?_
    refine then_normal ?_
    refine wp_ret ?_
    obtain rfl := Option.some.inj H
    exact ret1 hst rfl rfl ⟨rfl, hsh.pick []⟩
  · intro hj
    by_cases c3 : (sLt a0.Least c0 || sEq a0.Least c0) = true
    · refine r_t hst (wt_of 8 rfl rfl c3) rfl (x_loadCap (cs := [.string c0]) hst hbc0 (Same.sh0 hsc0 hsh) hzc0 sc_9 rfl rfl) ?_; intro a hst
      refine r_t hst (wt_of 8 rfl rfl c3) rfl (x_fieldAddr (j' := 3) hst fa_59_3 rfl rfl) ?_; intro a hst
      refine r_t hst (wt_of 8 rfl rfl c3) rfl (x_loadB (i := 0) hst hsh sc_9 rfl rfl rfl) ?_; intro a hst
      refine r_t hst (wt_of 8 rfl rfl c3) rfl (x_cmpS (b := sLt c0 a0.Limit) hst rfl rfl rfl) ?_; intro a hst
      refine r_t hst trivial rfl (x_andT hst rfl c3 rfl) ?_; intro a hst
      exact hj _ (hst.keep _ ⟨rfl, rfl, trivial⟩)
    · replace c3 := Bool.eq_false_iff.2 c3
      refine r_not hst 8 rfl rfl c3 rfl ?_; intro a hst
      refine r_not hst 8 rfl rfl c3 rfl ?_; intro a hst
      refine r_not hst 8 rfl rfl c3 rfl ?_; intro a hst
      refine r_not hst 8 rfl rfl c3 rfl ?_; intro a hst
      refine r_t hst trivial rfl (x_andF (sLt c0 a0.Limit) hst rfl c3 rfl) ?_; intro a hst
      exact hj _ (hst.keep _ ⟨rfl, rfl, trivial⟩)

set_option maxHeartbeats 4000000 in
set_option maxRecDepth 100000 in
theorem slices_IndexFunc_File.calls (k : Nat) (w : World) (va0 : Value) (Za0 : Nat → Prop) (wra0 : World) (hsa0 : Same Za0 wra0 w) (a0 : (List File)) (hra0 : RD k_File Za0 wra0 va0 a0) (va1 : Value) (Za1 : Nat → Prop) (wra1 : World) (hsa1 : Same Za1 wra1 w) (a1 : (File → Option Bool)) (hra1 : ∀ (w : World) (x0 : File) (r : Bool), Same Za1 wra1 w → a1 x0 = some r → CallsV Try.prog va1 [.agg #[.int .i64 x0.Number, .int .i64 x0.Size, .string x0.Least, .string x0.Limit, .int .u64 x0.Low, .int .u64 x0.High]] w (fun e w'' => e = .returned (.bool r) ∧ SH (fun _ => False) w w'' [])) (r : Int) (h : slices_IndexFunc_File k a0 a1 = some r) :
    Calls Try.prog 42 ([va0, va1] : List Value).toArray w fun e w' => e = .returned (.int .i64 r) ∧ SH (fun _ => False) w w' [] := by
  have H := h
  clear h
  unfold slices_IndexFunc_File at H
  refine calls_enter Try.func42 rfl rfl ?_
  intro a hst
  have hsh := SH.zero (fun _ => False) w
  refine wp_seq ?_
  refine wp_region_lit ?_
  refine r_t hst trivial rfl (x_assign hst rfl) ?_; intro a hst
  refine wpList_nil ?_
  refine then_normal ?_
  refine wp_seq ?_
  refine wp_seq ?_
  refine wp_region_lit ?_
  refine r_t hst trivial rfl (x_move hst rfl) ?_; intro a hst
  refine r_t hst trivial rfl (x_lenSl hst Try.underlying23 rfl hra0.slen) ?_; intro a hst
  refine r_t hst trivial rfl (x_move hst rfl) ?_; intro a hst
  refine wpList_nil ?_
  refine then_normal ?_
  refine wp_block ?_
  refine wp_loop_fuel (fun k_16 a w' => ∃ (i_12 : Int), slices_IndexFunc_File.l0 a0 a1 k_16 i_12 = some r ∧ ST Try.f42.ntmps a [(0, va0), (1, va1), (4, .int .i64 0), (7, .int .i64 (a0.length : Int)), (8, .int .i64 i_12)] ∧ SH (fun _ => False) w w' []) k ?_ ?_
  · exact ⟨0, H, hst.keep _ ⟨rfl, rfl, rfl, rfl, rfl, trivial⟩, hsh.pick []⟩
  · rintro k_16 a W_13 ⟨i_12, H, hst, hsh⟩
    cases k_16 with
    | zero => rw [slices_IndexFunc_File.l0] at H; cases H
    | succ k_16 =>
      rw [slices_IndexFunc_File.l0] at H
      refine wp_seq ?_
      refine wp_region_lit ?_
      refine r_t hst trivial rfl (x_cmpI (b := decide (i_12 < (a0.length : Int))) hst rfl rfl rfl) ?_; intro a hst
      refine wpList_nil ?_
      refine then_normal ?_
      refine wp_seq ?_
      by_cases c52 : (decide (i_12 < (a0.length : Int))) = true
      · rw [if_pos c52] at H
        refine wp_condT hst rfl c52 ?_
        refine wp_skip ?_
        refine then_normal ?_
        refine wp_seq ?_
        refine wp_block ?_
        refine wp_seq ?_
        refine wp_region_lit ?_
        refine r_t hst trivial rfl (x_move hst rfl) ?_; intro a hst
        refine r_t hst trivial rfl (x_assign hst rfl) ?_; intro a hst
        refine wpList_nil ?_
        refine then_normal ?_
        refine wp_seq ?_
        refine wp_region_lit ?_
        refine r_t hst trivial rfl (x_move hst rfl) ?_; intro a hst
        refine r_t hst trivial rfl (x_move hst rfl) ?_; intro a hst
        refine r_t hst trivial rfl (x_move hst rfl) ?_; intro a hst
        obtain ⟨x57, hx57, H⟩ := Option.bind_eq_some_iff.1 H
        refine r_t hst trivial rfl (x_indexAddr hst Try.underlying23 el_59 rfl rfl hra0 hx57) ?_; intro a hst
        refine r_t hst trivial rfl (x_loadEsF (j := 0) (cs := [.int .i64 x57.Number, .int .i64 x57.Size, .string x57.Least, .string x57.Limit, .int .u64 x57.Low, .int .u64 x57.High]) (ps := [.int .i64 x57.Number, .int .i64 x57.Size, .string x57.Least, .string x57.Limit, .int .u64 x57.Low, .int .u64 x57.High]) hst ag_59 rfl hra0 (Same.sh0 hsa0 hsh) hx57 rfl (fun _ h => h) rfl) ?_; intro a hst
        obtain ⟨r58, hr58, H⟩ := Option.bind_eq_some_iff.1 H
        refine r_callV hst trivial rfl rfl rfl (hra1 _ x57 r58 (Same.sh0 hsa1 hsh) hr58) ?_
        rintro e w59 ⟨rfl, hc⟩
        replace hsh := hsh.call0 hc
        clear hc
        refine ⟨_, rfl, fun a hst => ?_⟩
        refine wpList_nil ?_
        refine then_normal ?_
        by_cases c60 : r58 = true
        · rw [if_pos c60] at H
          refine wp_condT hst rfl c60 ?_
          refine wp_seq ?_
          refine wp_region_lit ?_
          refine r_t hst trivial rfl (x_move hst rfl) ?_; intro a hst
          refine r_t hst trivial rfl (x_assign hst rfl) ?_; intro a hst
          refine wpList_nil ?_
          refine then_normal ?_
          refine wp_ret ?_
          refine block_ret ?_
          refine then_ret ?_
          refine then_ret ?_
          refine block_ret ?_
          refine then_ret ?_
          obtain rfl := Option.some.inj H
          exact ret1 hst rfl rfl ⟨rfl, hsh.pick []⟩
        · rw [if_neg c60] at H
          replace c60 := Bool.eq_false_iff.2 c60
          refine wp_condF hst rfl c60 ?_
          refine wp_skip ?_
          refine block_normal ?_
          refine then_normal ?_
          refine wp_region_lit ?_
          refine r_t hst trivial rfl (x_arI (r := w64 (i_12 + 1)) hst rfl rfl rfl) ?_; intro a hst
          refine r_t hst trivial rfl (x_move hst rfl) ?_; intro a hst
          refine wpList_nil ?_
          refine then_normal ?_
          exact ⟨k_16, Nat.lt_succ_self _, (w64 (i_12 + 1)), H, hst.keep _ ⟨rfl, rfl, rfl, rfl, rfl, trivial⟩, hsh.pick []⟩
      · rw [if_neg c52] at H
        replace c52 := Bool.eq_false_iff.2 c52
        refine wp_condF hst rfl c52 ?_
        refine wp_exit ?_
        refine then_exit ?_
        refine then_exit ?_
        refine block_hit ?_
        refine then_normal ?_
        refine wp_seq ?_
        refine wp_region_lit ?_
        refine r_t hst trivial rfl (x_assign hst rfl) ?_; intro a hst
        refine wpList_nil ?_
        refine then_normal ?_
        refine wp_ret ?_
        obtain rfl := Option.some.inj H
        exact ret1 hst rfl rfl ⟨rfl, hsh.pick []⟩

set_option maxHeartbeats 4000000 in
set_option maxRecDepth 100000 in
theorem slices_ContainsFunc_File.calls (k : Nat) (w : World) (va0 : Value) (Za0 : Nat → Prop) (wra0 : World) (hsa0 : Same Za0 wra0 w) (a0 : (List File)) (hra0 : RD k_File Za0 wra0 va0 a0) (va1 : Value) (Za1 : Nat → Prop) (wra1 : World) (hsa1 : Same Za1 wra1 w) (a1 : (File → Option Bool)) (hra1 : ∀ (w : World) (x0 : File) (r : Bool), Same Za1 wra1 w → a1 x0 = some r → CallsV Try.prog va1 [.agg #[.int .i64 x0.Number, .int .i64 x0.Size, .string x0.Least, .string x0.Limit, .int .u64 x0.Low, .int .u64 x0.High]] w (fun e w'' => e = .returned (.bool r) ∧ SH (fun _ => False) w w'' [])) (r : Bool) (h : slices_ContainsFunc_File k a0 a1 = some r) :
    Calls Try.prog 24 ([va0, va1] : List Value).toArray w fun e w' => e = .returned (.bool r) ∧ SH (fun _ => False) w w' [] := by
  have H := h
  clear h
  unfold slices_ContainsFunc_File at H
  refine calls_enter Try.func24 rfl rfl ?_
  intro a hst
  have hsh := SH.zero (fun _ => False) w
  refine wp_seq ?_
  refine wp_region_lit ?_
  refine r_t hst trivial rfl (x_assign hst rfl) ?_; intro a hst
  refine wpList_nil ?_
  refine then_normal ?_
  refine wp_seq ?_
  refine wp_region_lit ?_
  refine r_t hst trivial rfl (x_move hst rfl) ?_; intro a hst
  refine r_t hst trivial rfl (x_move hst rfl) ?_; intro a hst
  obtain ⟨r1, hr1, H⟩ := Option.bind_eq_some_iff.1 H
  refine r_callD hst trivial rfl fn_42 rfl (slices_IndexFunc_File.calls k _ _ _ _ (Same.sh0 hsa0 hsh) _ hra0 va1 Za1 wra1 (Same.sh0 hsa1 hsh) a1 hra1 r1 hr1) ?_
  rintro e w2 ⟨rfl, hc⟩
  replace hsh := hsh.call0 hc
  clear hc
  refine ⟨_, rfl, fun a hst => ?_⟩
  refine r_t hst trivial rfl (x_cmpI (b := decide (0 ≤ r1)) hst rfl rfl rfl) ?_; intro a hst
  refine r_t hst trivial rfl (x_assign hst rfl) ?_; intro a hst
  refine wpList_nil ?_
  refine then_normal ?_
  refine wp_ret ?_
  obtain rfl := Option.some.inj H
  exact ret1 hst rfl rfl ⟨rfl, hsh.pick []⟩

set_option maxHeartbeats 4000000 in
set_option maxRecDepth 100000 in
theorem drop_Bears.calls (k : Nat) (w : World) (va0 : Value) (Za0 : Nat → Prop) (wra0 : World) (hsa0 : Same Za0 wra0 w) (a0 : (List File)) (hra0 : RD k_File Za0 wra0 va0 a0) (a1 : ByteArray) (r : Bool) (h : drop_Bears k a0 a1 = some r) :
    Calls Try.prog 11 ([va0, .string a1] : List Value).toArray w fun e w' => e = .returned (.bool r) ∧ SH (fun _ => False) w w' [] := by
  have H := h
  clear h
  unfold drop_Bears at H
  refine calls_enter Try.func11 rfl rfl ?_
  intro a hst
  have hsh := SH.zero (fun _ => False) w
  refine wp_seq ?_
  refine wp_region_lit ?_
  refine r_box hst hsh trivial rfl rfl rfl ?_
  intro g1 a w2 hgg1 hsh hst
  refine r_t hst trivial rfl (x_assign hst rfl) ?_; intro a hst
  refine wpList_nil ?_
  refine then_normal ?_
  refine wp_seq ?_
  refine wp_region_lit ?_
  refine r_t hst trivial rfl (x_move hst rfl) ?_; intro a hst
  refine r_t hst trivial rfl (x_makeFunc hst rfl) ?_; intro a hst
  obtain ⟨r3, hr3, H⟩ := Option.bind_eq_some_iff.1 H
  refine r_callD hst trivial rfl fn_24 rfl (slices_ContainsFunc_File.calls k _ _ _ _ (Same.sh0 hsa0 hsh) _ hra0 (.func (.func 25) #[] #[.pointer (some ⟨g1, 0, none⟩)]) (fun k => k = g1) w2 (Same.refl _ _) (fun x0 => drop_Bears_1 x0 a1) (fun w1 x0 r hs h => ⟨_, _, rfl, fn_25, drop_Bears_1.calls w1 x0 a1 g1 _ _ hs rfl (hsh.box 0 rfl) r h⟩) r3 hr3) ?_
  rintro e w4 ⟨rfl, hc⟩
  replace hsh := hsh.call0 hc
  clear hc
  refine ⟨_, rfl, fun a hst => ?_⟩
  refine r_t hst trivial rfl (x_assign hst rfl) ?_; intro a hst
  refine wpList_nil ?_
  refine then_normal ?_
  refine wp_ret ?_
  obtain rfl := Option.some.inj H
  exact ret1 hst rfl rfl ⟨rfl, hsh.pick []⟩

set_option maxHeartbeats 4000000 in
set_option maxRecDepth 100000 in
theorem r21_Bears.calls (k : Nat) (w : World) (va0 : Value) (Za0 : Nat → Prop) (wra0 : World) (hsa0 : Same Za0 wra0 w) (a0 : (List File)) (hra0 : RD k_File Za0 wra0 va0 a0) (a1 : ByteArray) (r : Bool) (h : r21_Bears k a0 a1 = some r) :
    Calls Try.prog 12 ([va0, .string a1] : List Value).toArray w fun e w' => e = .returned (.bool r) ∧ SH (fun _ => False) w w' [] := by
  have H := h
  clear h
  unfold r21_Bears at H
  refine calls_enter Try.func12 rfl rfl ?_
  intro a hst
  have hsh := SH.zero (fun _ => False) w
  refine wp_seq ?_
  refine wp_region_lit ?_
  refine r_t hst trivial rfl (x_assign hst rfl) ?_; intro a hst
  refine wpList_nil ?_
  refine then_normal ?_
  refine wp_seq ?_
  refine wp_seq ?_
  refine wp_region_lit ?_
  refine r_t hst trivial rfl (x_assign hst rfl) ?_; intro a hst
  refine wpList_nil ?_
  refine then_normal ?_
  refine wp_block ?_
  refine wp_loop_fuel (fun k_46 a w' => ∃ (i_36 : Int), r21_Bears.l0 a0 a1 k_46 i_36 = some r ∧ ST Try.f12.ntmps a [(0, va0), (1, .string a1), (4, .bool false), (5, .int .i64 i_36)] ∧ SH (fun _ => False) w w' []) k ?_ ?_
  · exact ⟨0, H, hst.keep _ ⟨rfl, rfl, rfl, rfl, trivial⟩, hsh.pick []⟩
  · rintro k_46 a W_37 ⟨i_36, H, hst, hsh⟩
    cases k_46 with
    | zero => rw [r21_Bears.l0] at H; cases H
    | succ k_46 =>
      rw [r21_Bears.l0] at H
      refine wp_seq ?_
      refine wp_seq ?_
      refine wp_region_lit ?_
      refine r_t hst trivial rfl (x_move hst rfl) ?_; intro a hst
      refine r_t hst trivial rfl (x_move hst rfl) ?_; intro a hst
      refine r_t hst trivial rfl (x_lenSl hst Try.underlying23 rfl hra0.slen) ?_; intro a hst
      refine r_t hst trivial rfl (x_cmpI (b := decide (i_36 < (a0.length : Int))) hst rfl rfl rfl) ?_; intro a hst
      refine wpList_nil ?_
      refine then_normal ?_
      by_cases c62 : (decide (i_36 < (a0.length : Int))) = true
      · rw [if_pos c62] at H
        refine wp_condT hst rfl c62 ?_
        refine wp_skip ?_
        refine then_normal ?_
        refine wp_seq ?_
        refine wp_block ?_
        refine wp_seq ?_
        refine wp_region_lit ?_
        refine r_t hst trivial rfl (x_move hst rfl) ?_; intro a hst
        refine r_t hst trivial rfl (x_move hst rfl) ?_; intro a hst
        obtain ⟨x68, hx68, H⟩ := Option.bind_eq_some_iff.1 H
        refine r_t hst trivial rfl (x_indexAddr hst Try.underlying23 el_59 rfl rfl hra0 hx68) ?_; intro a hst
        refine r_t hst trivial rfl (x_fieldAddrE (n' := Int.toNat i_36 * k_File.sz + 2) hst fa_59_2 rfl rfl) ?_; intro a hst
        refine r_t hst trivial rfl (x_loadEF (j := 2) (cs := [.int .i64 x68.Number, .int .i64 x68.Size, .string x68.Least, .string x68.Limit, .int .u64 x68.Low, .int .u64 x68.High]) hst sc_9 rfl hra0 (Same.sh0 hsa0 hsh) hx68 rfl (fun _ h => h) rfl) ?_; intro a hst
        refine r_t hst trivial rfl (x_move hst rfl) ?_; intro a hst
        refine r_t hst trivial rfl (x_cmpS (b := (sLt x68.Least a1 || sEq x68.Least a1)) hst rfl rfl rfl) ?_; intro a hst
        refine r_t hst trivial rfl (x_move hst rfl) ?_; intro a hst
        obtain ⟨J_51, hJ_51, H⟩ := Jn.elim H
        refine wl_join 16 (fun a w' => ∃ (b_50 : Bool), J_51 b_50 = some r ∧ ST Try.f12.ntmps a [(0, va0), (1, .string a1), (4, .bool false), (5, .int .i64 i_36), (27, .bool b_50)] ∧ SH (fun _ => False) w w' []) ?_ ?_
        · rintro a W_52 ⟨b_50, H, hst, hsh⟩
          subst hJ_51
          dsimp only at H
          refine wpList_nil ?_
          refine then_normal ?_
          by_cases c71 : b_50 = true
          · rw [if_pos c71] at H
            refine wp_condT hst rfl c71 ?_
            refine wp_seq ?_
            refine wp_region_lit ?_
            refine r_t hst trivial rfl (x_assign hst rfl) ?_; intro a hst
            refine wpList_nil ?_
            refine then_normal ?_
            refine wp_ret ?_
            refine block_ret ?_
            refine then_ret ?_
            refine then_ret ?_
            refine block_ret ?_
            refine then_ret ?_
            obtain rfl := Option.some.inj H
            exact ret1 hst rfl rfl ⟨rfl, hsh.pick []⟩
          · rw [if_neg c71] at H
            replace c71 := Bool.eq_false_iff.2 c71
            refine wp_condF hst rfl c71 ?_
            refine wp_skip ?_
            refine block_normal ?_
            refine then_normal ?_
            refine wp_region_lit ?_
            refine r_t hst trivial rfl (x_move hst rfl) ?_; intro a hst
            refine r_t hst trivial rfl (x_arI (r := w64 (i_36 + 1)) hst rfl rfl rfl) ?_; intro a hst
            refine r_t hst trivial rfl (x_assign hst rfl) ?_; intro a hst
            refine wpList_nil ?_
            refine then_normal ?_
            exact ⟨k_46, Nat.lt_succ_self _, (w64 (i_36 + 1)), H, hst.keep _ ⟨rfl, rfl, rfl, rfl, trivial⟩, hsh.pick []⟩
        · intro hj
          by_cases c69 : (sLt x68.Least a1 || sEq x68.Least a1) = true
          · rw [if_pos c69] at H
            refine r_t hst (wt_of 19 rfl rfl c69) rfl (x_move hst rfl) ?_; intro a hst
            refine r_t hst (wt_of 19 rfl rfl c69) rfl (x_move hst rfl) ?_; intro a hst
            refine r_t hst (wt_of 19 rfl rfl c69) rfl (x_move hst rfl) ?_; intro a hst
            obtain ⟨x72, hx72, H⟩ := Option.bind_eq_some_iff.1 H
            refine r_t hst (wt_of 19 rfl rfl c69) rfl (x_indexAddr hst Try.underlying23 el_59 rfl rfl hra0 hx72) ?_; intro a hst
            refine r_t hst (wt_of 19 rfl rfl c69) rfl (x_fieldAddrE (n' := Int.toNat i_36 * k_File.sz + 3) hst fa_59_3 rfl rfl) ?_; intro a hst
            refine r_t hst (wt_of 19 rfl rfl c69) rfl (x_loadEF (j := 3) (cs := [.int .i64 x72.Number, .int .i64 x72.Size, .string x72.Least, .string x72.Limit, .int .u64 x72.Low, .int .u64 x72.High]) hst sc_9 rfl hra0 (Same.sh0 hsa0 hsh) hx72 rfl (fun _ h => h) rfl) ?_; intro a hst
            refine r_t hst (wt_of 19 rfl rfl c69) rfl (x_cmpS (b := sLt a1 x72.Limit) hst rfl rfl rfl) ?_; intro a hst
            refine r_t hst trivial rfl (x_pickT hst rfl c69 rfl) ?_; intro a hst
            exact hj _ _ ⟨(sLt a1 x72.Limit), H, hst.keep _ ⟨rfl, rfl, rfl, rfl, rfl, trivial⟩, hsh.pick []⟩
          · rw [if_neg c69] at H
            replace c69 := Bool.eq_false_iff.2 c69
            refine r_not hst 19 rfl rfl c69 rfl ?_; intro a hst
            refine r_not hst 19 rfl rfl c69 rfl ?_; intro a hst
            refine r_not hst 19 rfl rfl c69 rfl ?_; intro a hst
            refine r_not hst 19 rfl rfl c69 rfl ?_; intro a hst
            refine r_not hst 19 rfl rfl c69 rfl ?_; intro a hst
            refine r_not hst 19 rfl rfl c69 rfl ?_; intro a hst
            refine r_not hst 19 rfl rfl c69 rfl ?_; intro a hst
            refine r_t hst trivial rfl (x_pickF hst rfl c69 rfl) ?_; intro a hst
            exact hj _ _ ⟨false, H, hst.keep _ ⟨rfl, rfl, rfl, rfl, rfl, trivial⟩, hsh.pick []⟩
      · rw [if_neg c62] at H
        replace c62 := Bool.eq_false_iff.2 c62
        refine wp_condF hst rfl c62 ?_
        refine wp_exit ?_
        refine then_exit ?_
        refine then_exit ?_
        refine block_hit ?_
        refine then_normal ?_
        refine wp_seq ?_
        refine wp_region_lit ?_
        refine r_t hst trivial rfl (x_assign hst rfl) ?_; intro a hst
        refine wpList_nil ?_
        refine then_normal ?_
        refine wp_ret ?_
        obtain rfl := Option.some.inj H
        exact ret1 hst rfl rfl ⟨rfl, hsh.pick []⟩

set_option maxHeartbeats 4000000 in
set_option maxRecDepth 100000 in
theorem l21_kept.calls (k : Nat) (w : World) (a0 : drop_Rule) (va0_0 : Value) (Za0_0 : Nat → Prop) (wra0_0 : World) (hsa0_0 : Same Za0_0 wra0_0 w) (hra0_0 : RD (Kd.int .u64) Za0_0 wra0_0 va0_0 a0.Snaps) (va0_1 : Value) (Za0_1 : Nat → Prop) (wra0_1 : World) (hsa0_1 : Same Za0_1 wra0_1 w) (hra0_1 : RD k_File Za0_1 wra0_1 va0_1 a0.Below) (a1 : R21_Rule) (va1_0 : Value) (Za1_0 : Nat → Prop) (wra1_0 : World) (hsa1_0 : Same Za1_0 wra1_0 w) (hra1_0 : RD (Kd.int .u64) Za1_0 wra1_0 va1_0 a1.Snaps) (va1_1 : Value) (Za1_1 : Nat → Prop) (wra1_1 : World) (hsa1_1 : Same Za1_1 wra1_1 w) (hra1_1 : RD k_File Za1_1 wra1_1 va1_1 a1.Below) (r : Bool) (h : l21_kept k a0 a1 = some r) :
    Calls Try.prog 13 ([.agg #[va0_0, va0_1], .agg #[va1_0, va1_1]] : List Value).toArray w fun e w' => e = .returned (.bool r) ∧ SH (fun _ => False) w w' [] := by
  have H := h
  clear h
  unfold l21_kept at H
  refine calls_enter Try.func13 rfl rfl ?_
  intro a hst
  have hsh := SH.zero (fun _ => False) w
  refine wp_seq ?_
  refine wp_region_lit ?_
  refine r_box hst hsh trivial rfl rfl rfl ?_
  intro g1 a w2 hgg1 hsh hst
  refine r_box hst hsh trivial rfl rfl rfl ?_
  intro g3 a w4 hgg3 hsh hst
  refine r_t hst trivial rfl (x_assign hst rfl) ?_; intro a hst
  refine wpList_nil ?_
  refine then_normal ?_
  refine wp_seq ?_
  refine wp_region_lit ?_
  refine r_t hst trivial rfl (x_fieldAddr (j' := 0) hst fa_27_0 rfl rfl) ?_; intro a hst
  refine r_t hst trivial rfl (x_loadB (i := 1) hst hsh sc_22 rfl rfl rfl) ?_; intro a hst
  refine r_t hst trivial rfl (x_lenSl hst Try.underlying22 rfl hra0_0.slen) ?_; intro a hst
  refine r_t hst trivial rfl (x_fieldAddr (j' := 0) hst fa_25_0 rfl rfl) ?_; intro a hst
  refine r_t hst trivial rfl (x_loadB (i := 0) hst hsh sc_22 rfl rfl rfl) ?_; intro a hst
  refine r_t hst trivial rfl (x_lenSl hst Try.underlying22 rfl hra1_0.slen) ?_; intro a hst
  refine r_t hst trivial rfl (x_cmpI (b := ((a0.Snaps.length : Int) == (a1.Snaps.length : Int))) hst rfl rfl rfl) ?_; intro a hst
  refine r_t hst trivial rfl (x_move hst rfl) ?_; intro a hst
  refine wl_join0 (N := Try.f13.ntmps) 16 [(2, .pointer (some ⟨g1, 0, none⟩)), (3, .pointer (some ⟨g3, 0, none⟩)), (4, .bool false), (23, .bool (((a0.Snaps.length : Int) == (a1.Snaps.length : Int)) && ((a0.Below.length : Int) == (a1.Below.length : Int))))] ?_ ?_
  · intro a hst
    refine r_t hst trivial rfl (x_assign hst rfl) ?_; intro a hst
    refine wpList_nil ?_
    refine then_normal ?_
    refine wp_seq ?_
    refine wp_seq ?_
    refine wp_region_lit ?_
    refine r_t hst trivial rfl (x_assign hst rfl) ?_; intro a hst
    refine wpList_nil ?_
    refine then_normal ?_
    refine wp_block ?_
    refine wp_loop_fuel (fun k_22 a w' => ∃ (b_16 : Bool), ∃ (i_17 : Int), l21_kept.l0 a0 a1 k_22 b_16 i_17 = some r ∧ ST Try.f13.ntmps a [(2, .pointer (some ⟨g1, 0, none⟩)), (3, .pointer (some ⟨g3, 0, none⟩)), (4, .bool false), (5, .bool b_16), (6, .int .i64 i_17)] ∧ SH (fun _ => False) w w' [Box g1 [va0_0, va0_1] 27, Box g3 [va1_0, va1_1] 25]) k ?_ ?_
    · exact ⟨(((a0.Snaps.length : Int) == (a1.Snaps.length : Int)) && ((a0.Below.length : Int) == (a1.Below.length : Int))), 0, H, hst.keep _ ⟨rfl, rfl, rfl, rfl, rfl, trivial⟩, hsh.pick [1, 0]⟩
    · rintro k_22 a W_18 ⟨b_16, i_17, H, hst, hsh⟩
      cases k_22 with
      | zero => rw [l21_kept.l0] at H; cases H
      | succ k_22 =>
        rw [l21_kept.l0] at H
        refine wp_seq ?_
        refine wp_seq ?_
        refine wp_region_lit ?_
        refine r_t hst trivial rfl (x_move hst rfl) ?_; intro a hst
        refine r_t hst trivial rfl (x_move hst rfl) ?_; intro a hst
        refine wl_join0 (N := Try.f13.ntmps) 8 [(2, .pointer (some ⟨g1, 0, none⟩)), (3, .pointer (some ⟨g3, 0, none⟩)), (4, .bool false), (5, .bool b_16), (6, .int .i64 i_17), (31, .bool (b_16 && (decide (i_17 < (a1.Snaps.length : Int)))))] ?_ ?_
        · intro a hst
          refine wpList_nil ?_
          refine then_normal ?_
          by_cases c59 : (b_16 && (decide (i_17 < (a1.Snaps.length : Int)))) = true
          · rw [if_pos c59] at H
            refine wp_condT hst rfl c59 ?_
            refine wp_skip ?_
            refine then_normal ?_
            refine wp_seq ?_
            refine wp_block ?_
            refine wp_region_q (fun w' => SH (fun _ => False) w w' [Box g1 [va0_0, va0_1] 27, Box g3 [va1_0, va1_1] 25]) hsh.drew fo (by kernel_rfl) ?_
            refine q_t hst trivial rfl (fun _ hsh => x_fieldAddr (j' := 0) hst fa_27_0 rfl rfl) ?_; intro a hst
            refine q_t hst trivial rfl (fun _ hsh => x_loadB (i := 0) hst hsh sc_22 rfl rfl rfl) ?_; intro a hst
            refine q_t hst trivial rfl (fun _ hsh => x_move hst rfl) ?_; intro a hst
            obtain ⟨x63, hx63, H⟩ := Option.bind_eq_some_iff.1 H
            refine q_t hst trivial rfl (fun _ hsh => x_indexAddr hst Try.underlying22 el_26 rfl rfl hra0_0 hx63) ?_; intro a hst
            refine q_t hst trivial rfl (fun _ hsh => x_loadEF (j := 0) (cs := [.int .u64 x63]) hst sc_26 rfl hra0_0 (Same.sh0 hsa0_0 hsh) hx63 rfl (fun _ h => h) rfl) ?_; intro a hst
            refine q_t hst trivial rfl (fun _ hsh => x_fieldAddr (j' := 0) hst fa_25_0 rfl rfl) ?_; intro a hst
            refine q_t hst trivial rfl (fun _ hsh => x_loadB (i := 1) hst hsh sc_22 rfl rfl rfl) ?_; intro a hst
            refine q_t hst trivial rfl (fun _ hsh => x_move hst rfl) ?_; intro a hst
            obtain ⟨x64, hx64, H⟩ := Option.bind_eq_some_iff.1 H
            refine q_t hst trivial rfl (fun _ hsh => x_indexAddr hst Try.underlying22 el_26 rfl rfl hra1_0 hx64) ?_; intro a hst
            refine q_t hst trivial rfl (fun _ hsh => x_loadEF (j := 0) (cs := [.int .u64 x64]) hst sc_26 rfl hra1_0 (Same.sh0 hsa1_0 hsh) hx64 rfl (fun _ h => h) rfl) ?_; intro a hst
            refine q_t hst trivial rfl (fun _ hsh => x_cmpI (b := (x63 == x64)) hst rfl rfl rfl) ?_; intro a hst
            refine q_t hst trivial rfl (fun _ hsh => x_assign hst rfl) ?_; intro a hst
            refine q_nil ?_
            intro w65 hsh
            refine block_normal ?_
            refine then_normal ?_
            refine wp_region_lit ?_
            refine r_t hst trivial rfl (x_move hst rfl) ?_; intro a hst
            refine r_t hst trivial rfl (x_arI (r := w64 (i_17 + 1)) hst rfl rfl rfl) ?_; intro a hst
            refine r_t hst trivial rfl (x_assign hst rfl) ?_; intro a hst
            refine wpList_nil ?_
            refine then_normal ?_
            exact ⟨k_22, Nat.lt_succ_self _, (x63 == x64), (w64 (i_17 + 1)), H, hst.keep _ ⟨rfl, rfl, rfl, rfl, rfl, trivial⟩, hsh.pick [0, 0]⟩
          · rw [if_neg c59] at H
            replace c59 := Bool.eq_false_iff.2 c59
            refine wp_condF hst rfl c59 ?_
            refine wp_exit ?_
            refine then_exit ?_
            refine then_exit ?_
            refine block_hit ?_
            refine then_normal ?_
            obtain ⟨J_36, hJ_36, H⟩ := Jn.elim H
            refine wp_cut (fun a w' => ∃ (b_34 : Bool), J_36 b_34 = some r ∧ ST Try.f13.ntmps a [(4, .bool false), (5, .bool b_34)] ∧ SH (fun _ => False) w w' []) ?_ ?_
            · rintro a W_35 ⟨b_34, H, hst, hsh⟩
              subst hJ_36
              dsimp only at H
              refine wp_seq ?_
              refine wp_region_lit ?_
              refine r_t hst trivial rfl (x_move hst rfl) ?_; intro a hst
              refine r_t hst trivial rfl (x_assign hst rfl) ?_; intro a hst
              refine wpList_nil ?_
              refine then_normal ?_
              refine wp_ret ?_
              obtain rfl := Option.some.inj H
              exact ret1 hst rfl rfl ⟨rfl, hsh.pick []⟩
            · refine wp_seq ?_
              refine wp_region_lit ?_
              refine r_t hst trivial rfl (x_assign hst rfl) ?_; intro a hst
              refine wpList_nil ?_
              refine then_normal ?_
              refine wp_block ?_
              refine wp_loop_fuel (fun k_47 a w' => ∃ (b_41 : Bool), ∃ (i_42 : Int), l21_kept.l1 a0 a1 J_36 k_47 b_41 i_42 = some r ∧ ST Try.f13.ntmps a [(2, .pointer (some ⟨g1, 0, none⟩)), (3, .pointer (some ⟨g3, 0, none⟩)), (4, .bool false), (5, .bool b_41), (7, .int .i64 i_42)] ∧ SH (fun _ => False) w w' [Box g1 [va0_0, va0_1] 27, Box g3 [va1_0, va1_1] 25]) k_22 ?_ ?_
              · exact ⟨b_16, 0, H, hst.keep _ ⟨rfl, rfl, rfl, rfl, rfl, trivial⟩, hsh.pick [0, 0]⟩
              · rintro k_47 a W_43 ⟨b_41, i_42, H, hst, hsh⟩
                cases k_47 with
                | zero => rw [l21_kept.l1] at H; cases H
                | succ k_47 =>
                  rw [l21_kept.l1] at H
                  refine wp_seq ?_
                  refine wp_seq ?_
                  refine wp_region_lit ?_
                  refine r_t hst trivial rfl (x_move hst rfl) ?_; intro a hst
                  refine r_t hst trivial rfl (x_move hst rfl) ?_; intro a hst
                  refine wl_join0 (N := Try.f13.ntmps) 8 [(2, .pointer (some ⟨g1, 0, none⟩)), (3, .pointer (some ⟨g3, 0, none⟩)), (4, .bool false), (5, .bool b_41), (7, .int .i64 i_42), (52, .bool (b_41 && (decide (i_42 < (a1.Below.length : Int)))))] ?_ ?_
                  · intro a hst
                    refine wpList_nil ?_
                    refine then_normal ?_
                    by_cases c119 : (b_41 && (decide (i_42 < (a1.Below.length : Int)))) = true
                    · rw [if_pos c119] at H
                      refine wp_condT hst rfl c119 ?_
                      refine wp_skip ?_
                      refine then_normal ?_
                      refine wp_seq ?_
                      refine wp_block ?_
                      refine wp_region_q (fun w' => SH (fun _ => False) w w' [Box g1 [va0_0, va0_1] 27, Box g3 [va1_0, va1_1] 25]) hsh.drew fo (by kernel_rfl) ?_
                      refine q_t hst trivial rfl (fun _ hsh => x_fieldAddr (j' := 1) hst fa_27_1 rfl rfl) ?_; intro a hst
                      refine q_t hst trivial rfl (fun _ hsh => x_loadB (i := 0) hst hsh sc_23 rfl rfl rfl) ?_; intro a hst
                      refine q_t hst trivial rfl (fun _ hsh => x_move hst rfl) ?_; intro a hst
                      obtain ⟨x123, hx123, H⟩ := Option.bind_eq_some_iff.1 H
                      refine q_t hst trivial rfl (fun _ hsh => x_indexAddr hst Try.underlying23 el_59 rfl rfl hra0_1 hx123) ?_; intro a hst
                      refine q_t hst trivial rfl (fun _ hsh => x_loadEsF (j := 0) (cs := [.int .i64 x123.Number, .int .i64 x123.Size, .string x123.Least, .string x123.Limit, .int .u64 x123.Low, .int .u64 x123.High]) (ps := [.int .i64 x123.Number, .int .i64 x123.Size, .string x123.Least, .string x123.Limit, .int .u64 x123.Low, .int .u64 x123.High]) hst ag_59 rfl hra0_1 (Same.sh0 hsa0_1 hsh) hx123 rfl (fun _ h => h) rfl) ?_; intro a hst
                      refine q_t hst trivial rfl (fun _ hsh => x_fieldAddr (j' := 1) hst fa_25_1 rfl rfl) ?_; intro a hst
                      refine q_t hst trivial rfl (fun _ hsh => x_loadB (i := 1) hst hsh sc_23 rfl rfl rfl) ?_; intro a hst
                      refine q_t hst trivial rfl (fun _ hsh => x_move hst rfl) ?_; intro a hst
                      obtain ⟨x124, hx124, H⟩ := Option.bind_eq_some_iff.1 H
                      refine q_t hst trivial rfl (fun _ hsh => x_indexAddr hst Try.underlying23 el_59 rfl rfl hra1_1 hx124) ?_; intro a hst
                      refine q_t hst trivial rfl (fun _ hsh => x_loadEsF (j := 0) (cs := [.int .i64 x124.Number, .int .i64 x124.Size, .string x124.Least, .string x124.Limit, .int .u64 x124.Low, .int .u64 x124.High]) (ps := [.int .i64 x124.Number, .int .i64 x124.Size, .string x124.Least, .string x124.Limit, .int .u64 x124.Low, .int .u64 x124.High]) hst ag_59 rfl hra1_1 (Same.sh0 hsa1_1 hsh) hx124 rfl (fun _ h => h) rfl) ?_; intro a hst
                      refine q_t hst trivial rfl (fun _ hsh => x_eqS (b := File.eqb x123 x124) (x0 := x123) (y0 := x124) hst eqof_59 rfl rfl rfl) ?_; intro a hst
                      refine q_t hst trivial rfl (fun _ hsh => x_assign hst rfl) ?_; intro a hst
                      refine q_nil ?_
                      intro w125 hsh
                      refine block_normal ?_
                      refine then_normal ?_
                      refine wp_region_lit ?_
                      refine r_t hst trivial rfl (x_move hst rfl) ?_; intro a hst
                      refine r_t hst trivial rfl (x_arI (r := w64 (i_42 + 1)) hst rfl rfl rfl) ?_; intro a hst
                      refine r_t hst trivial rfl (x_assign hst rfl) ?_; intro a hst
                      refine wpList_nil ?_
                      refine then_normal ?_
                      exact ⟨k_47, Nat.lt_succ_self _, (File.eqb x123 x124), (w64 (i_42 + 1)), H, hst.keep _ ⟨rfl, rfl, rfl, rfl, rfl, trivial⟩, hsh.pick [0, 0]⟩
                    · rw [if_neg c119] at H
                      replace c119 := Bool.eq_false_iff.2 c119
                      refine wp_condF hst rfl c119 ?_
                      refine wp_exit ?_
                      refine then_exit ?_
                      refine then_exit ?_
                      refine block_hit ?_
                      refine then_normal ?_
                      exact ⟨b_41, H, hst.keep _ ⟨rfl, rfl, trivial⟩, hsh.pick []⟩
                  · intro hj
                    by_cases c118 : b_41 = true
                    · refine r_t hst (wt_of 46 rfl rfl c118) rfl (x_move hst rfl) ?_; intro a hst
                      refine r_t hst (wt_of 46 rfl rfl c118) rfl (x_fieldAddr (j' := 1) hst fa_25_1 rfl rfl) ?_; intro a hst
                      refine r_t hst (wt_of 46 rfl rfl c118) rfl (x_loadB (i := 1) hst hsh sc_23 rfl rfl rfl) ?_; intro a hst
                      refine r_t hst (wt_of 46 rfl rfl c118) rfl (x_lenSl hst Try.underlying23 rfl hra1_1.slen) ?_; intro a hst
                      refine r_t hst (wt_of 46 rfl rfl c118) rfl (x_cmpI (b := decide (i_42 < (a1.Below.length : Int))) hst rfl rfl rfl) ?_; intro a hst
                      refine r_t hst trivial rfl (x_andT hst rfl c118 rfl) ?_; intro a hst
                      exact hj _ (hst.keep _ ⟨rfl, rfl, rfl, rfl, rfl, rfl, trivial⟩)
                    · replace c118 := Bool.eq_false_iff.2 c118
                      refine r_not hst 46 rfl rfl c118 rfl ?_; intro a hst
                      refine r_not hst 46 rfl rfl c118 rfl ?_; intro a hst
                      refine r_not hst 46 rfl rfl c118 rfl ?_; intro a hst
                      refine r_not hst 46 rfl rfl c118 rfl ?_; intro a hst
                      refine r_not hst 46 rfl rfl c118 rfl ?_; intro a hst
                      refine r_t hst trivial rfl (x_andF (decide (i_42 < (a1.Below.length : Int))) hst rfl c118 rfl) ?_; intro a hst
                      exact hj _ (hst.keep _ ⟨rfl, rfl, rfl, rfl, rfl, rfl, trivial⟩)
        · intro hj
          by_cases c58 : b_16 = true
          · refine r_t hst (wt_of 25 rfl rfl c58) rfl (x_move hst rfl) ?_; intro a hst
            refine r_t hst (wt_of 25 rfl rfl c58) rfl (x_fieldAddr (j' := 0) hst fa_25_0 rfl rfl) ?_; intro a hst
            refine r_t hst (wt_of 25 rfl rfl c58) rfl (x_loadB (i := 1) hst hsh sc_22 rfl rfl rfl) ?_; intro a hst
            refine r_t hst (wt_of 25 rfl rfl c58) rfl (x_lenSl hst Try.underlying22 rfl hra1_0.slen) ?_; intro a hst
            refine r_t hst (wt_of 25 rfl rfl c58) rfl (x_cmpI (b := decide (i_17 < (a1.Snaps.length : Int))) hst rfl rfl rfl) ?_; intro a hst
            refine r_t hst trivial rfl (x_andT hst rfl c58 rfl) ?_; intro a hst
            exact hj _ (hst.keep _ ⟨rfl, rfl, rfl, rfl, rfl, rfl, trivial⟩)
          · replace c58 := Bool.eq_false_iff.2 c58
            refine r_not hst 25 rfl rfl c58 rfl ?_; intro a hst
            refine r_not hst 25 rfl rfl c58 rfl ?_; intro a hst
            refine r_not hst 25 rfl rfl c58 rfl ?_; intro a hst
            refine r_not hst 25 rfl rfl c58 rfl ?_; intro a hst
            refine r_not hst 25 rfl rfl c58 rfl ?_; intro a hst
            refine r_t hst trivial rfl (x_andF (decide (i_17 < (a1.Snaps.length : Int))) hst rfl c58 rfl) ?_; intro a hst
            exact hj _ (hst.keep _ ⟨rfl, rfl, rfl, rfl, rfl, rfl, trivial⟩)
  · intro hj
    by_cases c5 : ((a0.Snaps.length : Int) == (a1.Snaps.length : Int)) = true
    · refine r_t hst (wt_of 15 rfl rfl c5) rfl (x_fieldAddr (j' := 1) hst fa_27_1 rfl rfl) ?_; intro a hst
      refine r_t hst (wt_of 15 rfl rfl c5) rfl (x_loadB (i := 1) hst hsh sc_23 rfl rfl rfl) ?_; intro a hst
      refine r_t hst (wt_of 15 rfl rfl c5) rfl (x_lenSl hst Try.underlying23 rfl hra0_1.slen) ?_; intro a hst
      refine r_t hst (wt_of 15 rfl rfl c5) rfl (x_fieldAddr (j' := 1) hst fa_25_1 rfl rfl) ?_; intro a hst
      refine r_t hst (wt_of 15 rfl rfl c5) rfl (x_loadB (i := 0) hst hsh sc_23 rfl rfl rfl) ?_; intro a hst
      refine r_t hst (wt_of 15 rfl rfl c5) rfl (x_lenSl hst Try.underlying23 rfl hra1_1.slen) ?_; intro a hst
      refine r_t hst (wt_of 15 rfl rfl c5) rfl (x_cmpI (b := ((a0.Below.length : Int) == (a1.Below.length : Int))) hst rfl rfl rfl) ?_; intro a hst
      refine r_t hst trivial rfl (x_andT hst rfl c5 rfl) ?_; intro a hst
      exact hj _ (hst.keep _ ⟨rfl, rfl, rfl, rfl, trivial⟩)
    · replace c5 := Bool.eq_false_iff.2 c5
      refine r_not hst 15 rfl rfl c5 rfl ?_; intro a hst
      refine r_not hst 15 rfl rfl c5 rfl ?_; intro a hst
      refine r_not hst 15 rfl rfl c5 rfl ?_; intro a hst
      refine r_not hst 15 rfl rfl c5 rfl ?_; intro a hst
      refine r_not hst 15 rfl rfl c5 rfl ?_; intro a hst
      refine r_not hst 15 rfl rfl c5 rfl ?_; intro a hst
      refine r_not hst 15 rfl rfl c5 rfl ?_; intro a hst
      refine r_t hst trivial rfl (x_andF ((a0.Below.length : Int) == (a1.Below.length : Int)) hst rfl c5 rfl) ?_; intro a hst
      exact hj _ (hst.keep _ ⟨rfl, rfl, rfl, rfl, trivial⟩)

set_option maxHeartbeats 4000000 in
set_option maxRecDepth 100000 in
theorem l21_DropStripes.calls (k : Nat) (w : World) (a0 : R21_Rule) (va0_0 : Value) (Za0_0 : Nat → Prop) (wra0_0 : World) (hsa0_0 : Same Za0_0 wra0_0 w) (hra0_0 : RD (Kd.int .u64) Za0_0 wra0_0 va0_0 a0.Snaps) (va0_1 : Value) (Za0_1 : Nat → Prop) (wra0_1 : World) (hsa0_1 : Same Za0_1 wra0_1 w) (hra0_1 : RD k_File Za0_1 wra0_1 va0_1 a0.Below) (a1 : Int) (a2 : ByteArray) (r : Bool) (h : l21_DropStripes k a0 a1 a2 = some r) :
    Calls Try.prog 3 ([.agg #[va0_0, va0_1], .int .u64 a1, .string a2] : List Value).toArray w fun e w' => e = .returned (.bool r) ∧ SH (fun _ => False) w w' [] := by
  have H := h
  clear h
  unfold l21_DropStripes at H
  refine calls_enter Try.func3 rfl rfl ?_
  intro a hst
  have hsh := SH.zero (fun _ => False) w
  refine wp_seq ?_
  refine wp_region_lit ?_
  refine r_box hst hsh trivial rfl rfl rfl ?_
  intro g1 a w2 hgg1 hsh hst
  refine r_t hst trivial rfl (x_assign hst rfl) ?_; intro a hst
  refine wpList_nil ?_
  refine then_normal ?_
  refine wp_seq ?_
  refine wp_region_lit ?_
  refine r_t hst trivial rfl (x_loadBs (i := 0) (ps := [va0_0, va0_1]) hst hsh ag_25 rfl rfl rfl) ?_; intro a hst
  obtain ⟨r3, hr3, H⟩ := Option.bind_eq_some_iff.1 H
  refine r_callD hst trivial rfl fn_8 rfl (l21_rule.calls _ a0 _ _ _ (Same.sh0 hsa0_0 hsh) hra0_0 _ _ _ (Same.sh0 hsa0_1 hsh) hra0_1 r3 hr3) ?_
  rintro e w4 ⟨v5, v7, rfl, hc⟩
  replace hsh := hsh.call0 hc
  clear hc
  refine ⟨_, rfl, fun a hst => ?_⟩
  refine r_alloc hst hsh trivial rfl zr_27 ?_
  intro g9 a w10 hgg9 hsh hst
  refine r_storeBs (i := 0) (cs' := [v5, v7]) (vs := [v5, v7]) hst hsh trivial ag_27 rfl rfl rfl rfl (one_cons (one_slice (hsh.row 1 rfl).slen) (one_cons (one_slice (hsh.row 2 rfl).slen) rfl)) rfl ?_; intro a w11 hsh hst
  refine wpList_nil ?_
  refine then_normal ?_
  refine wp_seq ?_
  refine wp_region_q (fun w' => SH (fun _ => False) w w' [Box g9 [v5, v7] 27, Row (Kd.int .u64) 26 v5 r3.Snaps, Row k_File 59 v7 r3.Below, Box g1 [va0_0, va0_1] 25]) hsh.drew fo (by kernel_rfl) ?_
  refine q_t hst trivial rfl (fun _ hsh => x_fieldAddr (j' := 0) hst fa_27_0 rfl rfl) ?_; intro a hst
  refine q_t hst trivial rfl (fun _ hsh => x_loadB (i := 0) hst hsh sc_22 rfl rfl rfl) ?_; intro a hst
  refine q_t hst trivial rfl (fun _ hsh => x_move hst rfl) ?_; intro a hst
  obtain ⟨r12, hr12, H⟩ := Option.bind_eq_some_iff.1 H
  refine q_call hst trivial rfl fn_9 rfl (fun w9 hsh => q_calls hsh (drop_Stripe.calls k _ _ _ _ (Same.refl _ _) _ (hsh.row 1 rfl) a1 r12 hr12)) ?_; intro a hst
  refine q_t hst trivial rfl (fun _ hsh => x_fieldAddr (j' := 0) hst fa_25_0 rfl rfl) ?_; intro a hst
  refine q_t hst trivial rfl (fun _ hsh => x_loadB (i := 3) hst hsh sc_22 rfl rfl rfl) ?_; intro a hst
  refine q_t hst trivial rfl (fun _ hsh => x_move hst rfl) ?_; intro a hst
  obtain ⟨r14, hr14, H⟩ := Option.bind_eq_some_iff.1 H
  refine q_call hst trivial rfl fn_10 rfl (fun w9 hsh => q_calls hsh (r21_Stripe.calls k _ _ _ _ (Same.sh0 hsa0_0 hsh) _ hra0_0 a1 r14 hr14)) ?_; intro a hst
  refine q_t hst trivial rfl (fun _ hsh => x_cmpI (b := (r12 == r14)) hst rfl rfl rfl) ?_; intro a hst
  refine q_t hst trivial rfl (fun _ hsh => x_move hst rfl) ?_; intro a hst
  obtain ⟨J_2, hJ_2, H⟩ := Jn.elim H
  refine q_join 20 (fun a => ∃ (b_1 : Bool), J_2 b_1 = some r ∧ ST Try.f3.ntmps a [(3, .pointer (some ⟨g1, 0, none⟩)), (6, .bool false), (7, .pointer (some ⟨g9, 0, none⟩)), (29, .bool b_1)]) ?_ ?_
  · rintro a ⟨b_1, H, hst⟩
    subst hJ_2
    dsimp only at H
    refine q_t hst trivial rfl (fun _ hsh => x_move hst rfl) ?_; intro a hst
    obtain ⟨J_5, hJ_5, H⟩ := Jn.elim H
    refine q_join 25 (fun a => ∃ (b_4 : Bool), J_5 b_4 = some r ∧ ST Try.f3.ntmps a [(6, .bool false), (34, .bool b_4)]) ?_ ?_
    · rintro a ⟨b_4, H, hst⟩
      subst hJ_5
      dsimp only at H
      refine q_t hst trivial rfl (fun _ hsh => x_assign hst rfl) ?_; intro a hst
      refine q_nil ?_
      intro w24 hsh
      refine then_normal ?_
      refine wp_ret ?_
      obtain rfl := Option.some.inj H
      exact ret1 hst rfl rfl ⟨rfl, hsh.pick []⟩
    · intro hj
      by_cases c21 : b_1 = true
      · rw [if_pos c21] at H
        refine q_t hst (wt_of 30 rfl rfl c21) rfl (fun _ hsh => x_loadBs (i := 0) (ps := [v5, v7]) hst hsh ag_27 rfl rfl rfl) ?_; intro a hst
        refine q_t hst (wt_of 30 rfl rfl c21) rfl (fun _ hsh => x_loadBs (i := 3) (ps := [va0_0, va0_1]) hst hsh ag_25 rfl rfl rfl) ?_; intro a hst
        obtain ⟨r25, hr25, H⟩ := Option.bind_eq_some_iff.1 H
        refine q_call hst (wt_of 30 rfl rfl c21) rfl fn_13 rfl (fun w9 hsh => q_calls hsh (l21_kept.calls k _ r3 _ _ _ (Same.refl _ _) (hsh.row 1 rfl) _ _ _ (Same.refl _ _) (hsh.row 2 rfl) a0 _ _ _ (Same.sh0 hsa0_0 hsh) hra0_0 _ _ _ (Same.sh0 hsa0_1 hsh) hra0_1 r25 hr25)) ?_; intro a hst
        refine q_t hst trivial rfl (fun _ hsh => x_pickT hst rfl c21 rfl) ?_; intro a hst
        exact hj _ ⟨r25, H, hst.keep _ ⟨rfl, rfl, trivial⟩⟩
      · rw [if_neg c21] at H
        replace c21 := Bool.eq_false_iff.2 c21
        refine q_not hst 30 rfl rfl c21 rfl ?_; intro a hst
        refine q_not hst 30 rfl rfl c21 rfl ?_; intro a hst
        refine q_not hst 30 rfl rfl c21 rfl ?_; intro a hst
        refine q_t hst trivial rfl (fun _ hsh => x_pickF hst rfl c21 rfl) ?_; intro a hst
        exact hj _ ⟨false, H, hst.keep _ ⟨rfl, rfl, trivial⟩⟩
  · intro hj
    by_cases c16 : (r12 == r14) = true
    · rw [if_pos c16] at H
      refine q_t hst (wt_of 19 rfl rfl c16) rfl (fun _ hsh => x_fieldAddr (j' := 1) hst fa_27_1 rfl rfl) ?_; intro a hst
      refine q_t hst (wt_of 19 rfl rfl c16) rfl (fun _ hsh => x_loadB (i := 0) hst hsh sc_23 rfl rfl rfl) ?_; intro a hst
      refine q_t hst (wt_of 19 rfl rfl c16) rfl (fun _ hsh => x_move hst rfl) ?_; intro a hst
      obtain ⟨r27, hr27, H⟩ := Option.bind_eq_some_iff.1 H
      refine q_call hst (wt_of 19 rfl rfl c16) rfl fn_11 rfl (fun w9 hsh => q_calls hsh (drop_Bears.calls k _ _ _ _ (Same.refl _ _) _ (hsh.row 2 rfl) a2 r27 hr27)) ?_; intro a hst
      refine q_t hst (wt_of 19 rfl rfl c16) rfl (fun _ hsh => x_fieldAddr (j' := 1) hst fa_25_1 rfl rfl) ?_; intro a hst
      refine q_t hst (wt_of 19 rfl rfl c16) rfl (fun _ hsh => x_loadB (i := 3) hst hsh sc_23 rfl rfl rfl) ?_; intro a hst
      refine q_t hst (wt_of 19 rfl rfl c16) rfl (fun _ hsh => x_move hst rfl) ?_; intro a hst
      obtain ⟨r29, hr29, H⟩ := Option.bind_eq_some_iff.1 H
      refine q_call hst (wt_of 19 rfl rfl c16) rfl fn_12 rfl (fun w9 hsh => q_calls hsh (r21_Bears.calls k _ _ _ _ (Same.sh0 hsa0_1 hsh) _ hra0_1 a2 r29 hr29)) ?_; intro a hst
      refine q_t hst (wt_of 19 rfl rfl c16) rfl (fun _ hsh => x_eqB (b := (r27 == r29)) hst Try.underlying4 rfl rfl rfl) ?_; intro a hst
      refine q_t hst trivial rfl (fun _ hsh => x_pickT hst rfl c16 rfl) ?_; intro a hst
      exact hj _ ⟨(r27 == r29), H, hst.keep _ ⟨rfl, rfl, rfl, rfl, trivial⟩⟩
    · rw [if_neg c16] at H
      replace c16 := Bool.eq_false_iff.2 c16
      refine q_not hst 19 rfl rfl c16 rfl ?_; intro a hst
      refine q_not hst 19 rfl rfl c16 rfl ?_; intro a hst
      refine q_not hst 19 rfl rfl c16 rfl ?_; intro a hst
      refine q_not hst 19 rfl rfl c16 rfl ?_; intro a hst
      refine q_not hst 19 rfl rfl c16 rfl ?_; intro a hst
      refine q_not hst 19 rfl rfl c16 rfl ?_; intro a hst
      refine q_not hst 19 rfl rfl c16 rfl ?_; intro a hst
      refine q_not hst 19 rfl rfl c16 rfl ?_; intro a hst
      refine q_not hst 19 rfl rfl c16 rfl ?_; intro a hst
      refine q_t hst trivial rfl (fun _ hsh => x_pickF hst rfl c16 rfl) ?_; intro a hst
      exact hj _ ⟨false, H, hst.keep _ ⟨rfl, rfl, rfl, rfl, trivial⟩⟩
end Go.Proofs.Ytfofolmagnaimaa.Mo
