/- Printed by gen.py: contracts. -/
import Derived.Test.YtmbhgfigffahbaaTmbKd
set_option linter.unusedVariables false
set_option linter.unusedSimpArgs false
set_option maxRecDepth 100000
namespace Go.Proofs.Ytmbhgfigffahbaa.Mo
open Go Go.Proofs.Ytmbhgfigffahbaa.Sy
open Go.Proofs
set_option maxHeartbeats 4000000 in
set_option maxRecDepth 100000 in
theorem tomb_Valid.calls (w : World) (a0 : Tomb) (r : Bool) (h : tomb_Valid a0 = some r) :
    Calls Try.prog 9 ([.agg #[.string a0.Begin, .string a0.End, .int .u64 a0.Seq]] : List Value).toArray w fun e w' => e = .returned (.bool r) ∧ SH (fun _ => False) w w' [] := by
  have H := h
  clear h
  unfold tomb_Valid at H
  refine calls_enter Try.func9 rfl rfl ?_
  intro a hst
  have hsh := SH.zero (fun _ => False) w
  refine wp_seq ?_
  refine wp_region_lit ?_
  refine r_box hst hsh trivial rfl rfl rfl ?_
  intro g1 a w2 hgg1 hsh hst
  refine r_t hst trivial rfl (x_assign hst rfl) ?_; intro a hst
  refine wpList_nil ?_
  refine then_normal ?_
  refine wp_seq ?_
  refine wp_region_lit ?_
  refine r_t hst trivial rfl (x_fieldAddr (j' := 0) hst fa_30_0 rfl rfl) ?_; intro a hst
  refine r_t hst trivial rfl (x_loadB (i := 0) hst hsh sc_9 rfl rfl rfl) ?_; intro a hst
  refine r_t hst trivial rfl (x_cmpS (b := (!sEq a0.Begin (ByteArray.mk #[]))) hst rfl rfl rfl) ?_; intro a hst
  refine r_t hst trivial rfl (x_move hst rfl) ?_; intro a hst
  refine wl_join0 (N := Try.f9.ntmps) 9 [(1, .pointer (some ⟨g1, 0, none⟩)), (2, .bool false), (11, .bool ((!sEq a0.Begin (ByteArray.mk #[])) && (decide ((a0.Begin.size : Int) ≤ 1024))))] ?_ ?_
  · intro a hst
    refine r_t hst trivial rfl (x_move hst rfl) ?_; intro a hst
    refine wl_join0 (N := Try.f9.ntmps) 15 [(1, .pointer (some ⟨g1, 0, none⟩)), (2, .bool false), (17, .bool (((!sEq a0.Begin (ByteArray.mk #[])) && (decide ((a0.Begin.size : Int) ≤ 1024))) && (decide ((a0.End.size : Int) ≤ 1025))))] ?_ ?_
    · intro a hst
      refine r_t hst trivial rfl (x_move hst rfl) ?_; intro a hst
      refine wl_join0 (N := Try.f9.ntmps) 22 [(1, .pointer (some ⟨g1, 0, none⟩)), (2, .bool false), (24, .bool ((((!sEq a0.Begin (ByteArray.mk #[])) && (decide ((a0.Begin.size : Int) ≤ 1024))) && (decide ((a0.End.size : Int) ≤ 1025))) && (sLt a0.Begin a0.End)))] ?_ ?_
      · intro a hst
        refine r_t hst trivial rfl (x_move hst rfl) ?_; intro a hst
        refine wl_join0 (N := Try.f9.ntmps) 27 [(2, .bool false), (29, .bool (((((!sEq a0.Begin (ByteArray.mk #[])) && (decide ((a0.Begin.size : Int) ≤ 1024))) && (decide ((a0.End.size : Int) ≤ 1025))) && (sLt a0.Begin a0.End)) && (decide (a0.Seq ≤ 72057594037927935))))] ?_ ?_
        · intro a hst
          refine r_t hst trivial rfl (x_assign hst rfl) ?_; intro a hst
          refine wpList_nil ?_
          refine then_normal ?_
          refine wp_ret ?_
          obtain rfl := Option.some.inj H
          exact ret1 hst rfl rfl ⟨rfl, hsh.pick []⟩
        · intro hj
          by_cases c6 : ((((!sEq a0.Begin (ByteArray.mk #[])) && (decide ((a0.Begin.size : Int) ≤ 1024))) && (decide ((a0.End.size : Int) ≤ 1025))) && (sLt a0.Begin a0.End)) = true
          · refine r_t hst (wt_of 25 rfl rfl c6) rfl (x_fieldAddr (j' := 2) hst fa_30_2 rfl rfl) ?_; intro a hst
            refine r_t hst (wt_of 25 rfl rfl c6) rfl (x_loadB (i := 0) hst hsh sc_23 rfl rfl rfl) ?_; intro a hst
            refine r_t hst (wt_of 25 rfl rfl c6) rfl (x_cmpI (b := decide (a0.Seq ≤ 72057594037927935)) hst rfl rfl rfl) ?_; intro a hst
            refine r_t hst trivial rfl (x_andT hst rfl c6 rfl) ?_; intro a hst
            exact hj _ (hst.keep _ ⟨rfl, rfl, trivial⟩)
          · replace c6 := Bool.eq_false_iff.2 c6
            refine r_not hst 25 rfl rfl c6 rfl ?_; intro a hst
            refine r_not hst 25 rfl rfl c6 rfl ?_; intro a hst
            refine r_not hst 25 rfl rfl c6 rfl ?_; intro a hst
            refine r_t hst trivial rfl (x_andF (decide (a0.Seq ≤ 72057594037927935)) hst rfl c6 rfl) ?_; intro a hst
            exact hj _ (hst.keep _ ⟨rfl, rfl, trivial⟩)
      · intro hj
        by_cases c5 : (((!sEq a0.Begin (ByteArray.mk #[])) && (decide ((a0.Begin.size : Int) ≤ 1024))) && (decide ((a0.End.size : Int) ≤ 1025))) = true
        · refine r_t hst (wt_of 18 rfl rfl c5) rfl (x_fieldAddr (j' := 0) hst fa_30_0 rfl rfl) ?_; intro a hst
          refine r_t hst (wt_of 18 rfl rfl c5) rfl (x_loadB (i := 0) hst hsh sc_9 rfl rfl rfl) ?_; intro a hst
          refine r_t hst (wt_of 18 rfl rfl c5) rfl (x_fieldAddr (j' := 1) hst fa_30_1 rfl rfl) ?_; intro a hst
          refine r_t hst (wt_of 18 rfl rfl c5) rfl (x_loadB (i := 0) hst hsh sc_9 rfl rfl rfl) ?_; intro a hst
          refine r_t hst (wt_of 18 rfl rfl c5) rfl (x_cmpS (b := sLt a0.Begin a0.End) hst rfl rfl rfl) ?_; intro a hst
          refine r_t hst trivial rfl (x_andT hst rfl c5 rfl) ?_; intro a hst
          exact hj _ (hst.keep _ ⟨rfl, rfl, rfl, trivial⟩)
        · replace c5 := Bool.eq_false_iff.2 c5
          refine r_not hst 18 rfl rfl c5 rfl ?_; intro a hst
          refine r_not hst 18 rfl rfl c5 rfl ?_; intro a hst
          refine r_not hst 18 rfl rfl c5 rfl ?_; intro a hst
          refine r_not hst 18 rfl rfl c5 rfl ?_; intro a hst
          refine r_not hst 18 rfl rfl c5 rfl ?_; intro a hst
          refine r_t hst trivial rfl (x_andF (sLt a0.Begin a0.End) hst rfl c5 rfl) ?_; intro a hst
          exact hj _ (hst.keep _ ⟨rfl, rfl, rfl, trivial⟩)
    · intro hj
      by_cases c4 : ((!sEq a0.Begin (ByteArray.mk #[])) && (decide ((a0.Begin.size : Int) ≤ 1024))) = true
      · refine r_t hst (wt_of 12 rfl rfl c4) rfl (x_fieldAddr (j' := 1) hst fa_30_1 rfl rfl) ?_; intro a hst
        refine r_t hst (wt_of 12 rfl rfl c4) rfl (x_loadB (i := 0) hst hsh sc_9 rfl rfl rfl) ?_; intro a hst
        refine r_t hst (wt_of 12 rfl rfl c4) rfl (x_lenStr hst Try.underlying9 rfl) ?_; intro a hst
        refine r_t hst (wt_of 12 rfl rfl c4) rfl (x_cmpI (b := decide ((a0.End.size : Int) ≤ 1025)) hst rfl rfl rfl) ?_; intro a hst
        refine r_t hst trivial rfl (x_andT hst rfl c4 rfl) ?_; intro a hst
        exact hj _ (hst.keep _ ⟨rfl, rfl, rfl, trivial⟩)
      · replace c4 := Bool.eq_false_iff.2 c4
        refine r_not hst 12 rfl rfl c4 rfl ?_; intro a hst
        refine r_not hst 12 rfl rfl c4 rfl ?_; intro a hst
        refine r_not hst 12 rfl rfl c4 rfl ?_; intro a hst
        refine r_not hst 12 rfl rfl c4 rfl ?_; intro a hst
        refine r_t hst trivial rfl (x_andF (decide ((a0.End.size : Int) ≤ 1025)) hst rfl c4 rfl) ?_; intro a hst
        exact hj _ (hst.keep _ ⟨rfl, rfl, rfl, trivial⟩)
  · intro hj
    by_cases c3 : (!sEq a0.Begin (ByteArray.mk #[])) = true
    · refine r_t hst (wt_of 6 rfl rfl c3) rfl (x_fieldAddr (j' := 0) hst fa_30_0 rfl rfl) ?_; intro a hst
      refine r_t hst (wt_of 6 rfl rfl c3) rfl (x_loadB (i := 0) hst hsh sc_9 rfl rfl rfl) ?_; intro a hst
      refine r_t hst (wt_of 6 rfl rfl c3) rfl (x_lenStr hst Try.underlying9 rfl) ?_; intro a hst
      refine r_t hst (wt_of 6 rfl rfl c3) rfl (x_cmpI (b := decide ((a0.Begin.size : Int) ≤ 1024)) hst rfl rfl rfl) ?_; intro a hst
      refine r_t hst trivial rfl (x_andT hst rfl c3 rfl) ?_; intro a hst
      exact hj _ (hst.keep _ ⟨rfl, rfl, rfl, trivial⟩)
    · replace c3 := Bool.eq_false_iff.2 c3
      refine r_not hst 6 rfl rfl c3 rfl ?_; intro a hst
      refine r_not hst 6 rfl rfl c3 rfl ?_; intro a hst
      refine r_not hst 6 rfl rfl c3 rfl ?_; intro a hst
      refine r_not hst 6 rfl rfl c3 rfl ?_; intro a hst
      refine r_t hst trivial rfl (x_andF (decide ((a0.Begin.size : Int) ≤ 1024)) hst rfl c3 rfl) ?_; intro a hst
      exact hj _ (hst.keep _ ⟨rfl, rfl, rfl, trivial⟩)

set_option maxHeartbeats 4000000 in
set_option maxRecDepth 100000 in
theorem tomb_valid.calls (k : Nat) (w : World) (va0 : Value) (Za0 : Nat → Prop) (wra0 : World) (hsa0 : Same Za0 wra0 w) (a0 : (List Tomb)) (hra0 : RD k_Tomb Za0 wra0 va0 a0) (r : (List Tomb)) (h : tomb_valid k a0 = some r) :
    Calls Try.prog 19 ([va0] : List Value).toArray w fun e w' => ∃ v0_ : Value, e = .returned (v0_) ∧ SH (fun _ => False) w w' [Row k_Tomb 30 v0_ r] := by
  have H := h
  clear h
  unfold tomb_valid at H
  refine calls_enter Try.func19 rfl rfl ?_
  intro a hst
  have hsh := SH.zero (fun _ => False) w
  refine wp_seq ?_
  refine wp_region_lit ?_
  refine r_t hst trivial rfl (x_assign hst rfl) ?_; intro a hst
  refine wpList_nil ?_
  refine then_normal ?_
  refine wp_seq ?_
  refine wp_region_lit ?_
  refine r_t hst trivial rfl (x_assign hst rfl) ?_; intro a hst
  refine wpList_nil ?_
  refine then_normal ?_
  refine wp_seq ?_
  refine wp_seq ?_
  refine wp_region_lit ?_
  refine r_t hst trivial rfl (x_move hst rfl) ?_; intro a hst
  refine r_t hst trivial rfl (x_lenSl hst Try.underlying22 rfl hra0.slen) ?_; intro a hst
  refine r_t hst trivial rfl (x_move hst rfl) ?_; intro a hst
  refine wpList_nil ?_
  refine then_normal ?_
  refine wp_block ?_
  have hsh := hsh.addNil k_Tomb 30
  refine wp_loop_fuel (fun k_56 a w' => ∃ (v_43 : Value), ∃ (l_44 : (List Tomb)), ∃ (i_45 : Int), tomb_valid.l0 a0 k_56 l_44 i_45 = some r ∧ ST Try.f19.ntmps a [(2, (.slice none 0 0)), (3, v_43), (6, va0), (7, .int .i64 (a0.length : Int)), (8, .int .i64 i_45)] ∧ SH (fun _ => False) w w' [Row k_Tomb 30 v_43 l_44]) k ?_ ?_
  · exact ⟨(.slice none 0 0), ([]), 0, H, hst.keep _ ⟨rfl, rfl, rfl, rfl, rfl, trivial⟩, hsh.pick [0]⟩
  · rintro k_56 a W_46 ⟨v_43, l_44, i_45, H, hst, hsh⟩
    cases k_56 with
    | zero => rw [tomb_valid.l0] at H; cases H
    | succ k_56 =>
      rw [tomb_valid.l0] at H
      refine wp_seq ?_
      refine wp_region_lit ?_
      refine r_t hst trivial rfl (x_cmpI (b := decide (i_45 < (a0.length : Int))) hst rfl rfl rfl) ?_; intro a hst
      refine wpList_nil ?_
      refine then_normal ?_
      refine wp_seq ?_
      by_cases c139 : (decide (i_45 < (a0.length : Int))) = true
      · rw [if_pos c139] at H
        refine wp_condT hst rfl c139 ?_
        refine wp_skip ?_
        refine then_normal ?_
        obtain ⟨J_60, hJ_60, H⟩ := Jn.elim H
        refine wp_cut (fun a w' => ∃ (v_57 : Value), ∃ (l_58 : (List Tomb)), J_60 l_58 = some r ∧ ST Try.f19.ntmps a [(2, (.slice none 0 0)), (3, v_57), (6, va0), (7, .int .i64 (a0.length : Int)), (8, .int .i64 i_45)] ∧ SH (fun _ => False) w w' [Row k_Tomb 30 v_57 l_58]) ?_ ?_
        · rintro a W_59 ⟨v_57, l_58, H, hst, hsh⟩
          subst hJ_60
          dsimp only at H
          refine wp_region_lit ?_
          refine r_t hst trivial rfl (x_arI (r := w64 (i_45 + 1)) hst rfl rfl rfl) ?_; intro a hst
          refine r_t hst trivial rfl (x_move hst rfl) ?_; intro a hst
          refine wpList_nil ?_
          refine then_normal ?_
          exact ⟨k_56, Nat.lt_succ_self _, v_57, l_58, (w64 (i_45 + 1)), H, hst.keep _ ⟨rfl, rfl, rfl, rfl, rfl, trivial⟩, hsh.pick [0]⟩
        · refine wp_block ?_
          refine wp_seq ?_
          refine wp_region_lit ?_
          obtain ⟨x152, hx152, H⟩ := Option.bind_eq_some_iff.1 H
          refine r_t hst trivial rfl (x_indexAddr hst Try.underlying22 el_30 rfl rfl hra0 hx152) ?_; intro a hst
          refine r_t hst trivial rfl (x_loadEsF (j := 0) (cs := [.string x152.Begin, .string x152.End, .int .u64 x152.Seq]) (ps := [.string x152.Begin, .string x152.End, .int .u64 x152.Seq]) hst ag_30 rfl hra0 (Same.sh0 hsa0 hsh) hx152 rfl (fun _ h => h) rfl) ?_; intro a hst
          refine r_alloc hst hsh trivial rfl zr_30 ?_
          intro g153 a w154 hgg153 hsh hst
          refine r_storeBs (i := 0) (cs' := [.string x152.Begin, .string x152.End, .int .u64 x152.Seq]) (vs := [.string x152.Begin, .string x152.End, .int .u64 x152.Seq]) hst hsh trivial ag_30 rfl rfl rfl rfl rfl rfl ?_; intro a w155 hsh hst
          refine wpList_nil ?_
          refine then_normal ?_
          refine wp_seq ?_
          refine wp_region_lit ?_
          refine r_t hst trivial rfl (x_loadBs (i := 0) (ps := [.string x152.Begin, .string x152.End, .int .u64 x152.Seq]) hst hsh ag_30 rfl rfl rfl) ?_; intro a hst
          obtain ⟨r156, hr156, H⟩ := Option.bind_eq_some_iff.1 H
          refine r_callD hst trivial rfl fn_9 rfl (tomb_Valid.calls _ x152 r156 hr156) ?_
          rintro e w157 ⟨rfl, hc⟩
          replace hsh := hsh.call0 hc
          clear hc
          refine ⟨_, rfl, fun a hst => ?_⟩
          refine wpList_nil ?_
          refine then_normal ?_
          by_cases c158 : r156 = true
          · rw [if_pos c158] at H
            refine wp_condT hst rfl c158 ?_
            refine wp_region_lit ?_
            refine r_t hst trivial rfl (x_move hst rfl) ?_; intro a hst
            refine r_t hst trivial rfl (x_loadBs (i := 0) (ps := [.string x152.Begin, .string x152.End, .int .u64 x152.Seq]) hst hsh ag_30 rfl rfl rfl) ?_; intro a hst
            refine r_buildSlice (vs := [.agg #[.string x152.Begin, .string x152.End, .int .u64 x152.Seq]]) (cs := [.string x152.Begin, .string x152.End, .int .u64 x152.Seq]) hst hsh trivial rfl Try.underlying22 el_30 rfl rfl (by simp [Value.cells]) rfl rfl ?_
            intro g159 a w160 hgg159 hsh hst
            replace hsh := hsh.pick [2, 0, 0]
            obtain ⟨l161, hl161, H⟩ := Option.bind_eq_some_iff.1 H
            refine r_append1 (xx := x152) (C := []) (M := [Box g153 [.string x152.Begin, .string x152.End, .int .u64 x152.Seq] 30]) hst hsh trivial rfl Try.underlying22 el_30 (by decide) (by decide) (by decide) rfl rfl (fun _ _ _ => rfl) hl161 ?_
            intro v162 a w163 hsh hst
            refine r_t hst trivial rfl (x_assign hst rfl) ?_; intro a hst
            refine wpList_nil ?_
            refine block_normal ?_
            refine then_normal ?_
            exact ⟨v162, l161, H, hst.keep _ ⟨rfl, rfl, rfl, rfl, rfl, trivial⟩, hsh.pick [0]⟩
          · rw [if_neg c158] at H
            replace c158 := Bool.eq_false_iff.2 c158
            refine wp_condF hst rfl c158 ?_
            refine wp_skip ?_
            refine block_normal ?_
            refine then_normal ?_
            exact ⟨v_43, l_44, H, hst.keep _ ⟨rfl, rfl, rfl, rfl, rfl, trivial⟩, hsh.pick [1]⟩
      · rw [if_neg c139] at H
        replace c139 := Bool.eq_false_iff.2 c139
        refine wp_condF hst rfl c139 ?_
        refine wp_exit ?_
        refine then_exit ?_
        refine then_exit ?_
        refine block_hit ?_
        refine then_normal ?_
        refine wp_seq ?_
        refine wp_region_lit ?_
        refine r_t hst trivial rfl (x_move hst rfl) ?_; intro a hst
        refine r_t hst trivial rfl (x_assign hst rfl) ?_; intro a hst
        refine wpList_nil ?_
        refine then_normal ?_
        refine wp_ret ?_
        obtain rfl := Option.some.inj H
        exact ret1 hst rfl rfl ⟨v_43, rfl, hsh.pick [0]⟩

set_option maxHeartbeats 4000000 in
set_option maxRecDepth 100000 in
theorem tomb_Cut.calls (k : Nat) (w : World) (va0 : Value) (Za0 : Nat → Prop) (wra0 : World) (hsa0 : Same Za0 wra0 w) (a0 : (List Tomb)) (hra0 : RD k_Tomb Za0 wra0 va0 a0) (a1 : ByteArray) (a2 : ByteArray) (r : (List Tomb)) (h : tomb_Cut k a0 a1 a2 = some r) :
    Calls Try.prog 7 ([va0, .string a1, .string a2] : List Value).toArray w fun e w' => ∃ v0_ : Value, e = .returned (v0_) ∧ SH (fun _ => False) w w' [Row k_Tomb 30 v0_ r] := by
  have H := h
  clear h
  unfold tomb_Cut at H
  refine calls_enter Try.func7 rfl rfl ?_
  intro a hst
  have hsh := SH.zero (fun _ => False) w
  refine wp_seq ?_
  refine wp_region_lit ?_
  refine r_t hst trivial rfl (x_assign hst rfl) ?_; intro a hst
  refine wpList_nil ?_
  refine then_normal ?_
  refine wp_seq ?_
  refine wp_region_lit ?_
  refine r_t hst trivial rfl (x_assign hst rfl) ?_; intro a hst
  refine wpList_nil ?_
  refine then_normal ?_
  refine wp_seq ?_
  refine wp_seq ?_
  refine wp_region_lit ?_
  refine r_t hst trivial rfl (x_move hst rfl) ?_; intro a hst
  obtain ⟨r105, hr105, H⟩ := Option.bind_eq_some_iff.1 H
  refine r_callD hst trivial rfl fn_19 rfl (tomb_valid.calls k _ _ _ _ (Same.sh0 hsa0 hsh) _ hra0 r105 hr105) ?_
  rintro e w106 ⟨v107, rfl, hc⟩
  replace hsh := hsh.call0 hc
  clear hc
  refine ⟨_, rfl, fun a hst => ?_⟩
  refine r_t hst trivial rfl (x_lenSl hst Try.underlying22 rfl (hsh.row 0 rfl).slen) ?_; intro a hst
  refine r_t hst trivial rfl (x_move hst rfl) ?_; intro a hst
  refine wpList_nil ?_
  refine then_normal ?_
  refine wp_block ?_
  have hsh := hsh.addNil k_Tomb 30
  refine wp_loop_fuel (fun k_86 a w' => ∃ (v_67 : Value), ∃ (l_68 : (List Tomb)), ∃ (i_69 : Int), tomb_Cut.l0 a1 a2 r105 k_86 l_68 i_69 = some r ∧ ST Try.f7.ntmps a [(1, .string a1), (2, .string a2), (6, (.slice none 0 0)), (7, v_67), (11, v107), (12, .int .i64 (r105.length : Int)), (13, .int .i64 i_69)] ∧ SH (fun _ => False) w w' [Row k_Tomb 30 v_67 l_68, Row k_Tomb 30 v107 r105]) k ?_ ?_
  · exact ⟨(.slice none 0 0), ([]), 0, H, hst.keep _ ⟨rfl, rfl, rfl, rfl, rfl, rfl, rfl, trivial⟩, hsh.pick [0, 0]⟩
  · rintro k_86 a W_70 ⟨v_67, l_68, i_69, H, hst, hsh⟩
    cases k_86 with
    | zero => rw [tomb_Cut.l0] at H; cases H
    | succ k_86 =>
      rw [tomb_Cut.l0] at H
      refine wp_seq ?_
      refine wp_region_lit ?_
      refine r_t hst trivial rfl (x_cmpI (b := decide (i_69 < (r105.length : Int))) hst rfl rfl rfl) ?_; intro a hst
      refine wpList_nil ?_
      refine then_normal ?_
      refine wp_seq ?_
      by_cases c177 : (decide (i_69 < (r105.length : Int))) = true
      · rw [if_pos c177] at H
        refine wp_condT hst rfl c177 ?_
        refine wp_skip ?_
        refine then_normal ?_
        obtain ⟨J_93, hJ_93, H⟩ := Jn.elim H
        refine wp_cut (fun a w' => ∃ (v_90 : Value), ∃ (l_91 : (List Tomb)), J_93 l_91 = some r ∧ ST Try.f7.ntmps a [(1, .string a1), (2, .string a2), (6, (.slice none 0 0)), (7, v_90), (11, v107), (12, .int .i64 (r105.length : Int)), (13, .int .i64 i_69)] ∧ SH (fun _ => False) w w' [Row k_Tomb 30 v_90 l_91, Row k_Tomb 30 v107 r105]) ?_ ?_
        · rintro a W_92 ⟨v_90, l_91, H, hst, hsh⟩
          subst hJ_93
          dsimp only at H
          refine wp_region_lit ?_
          refine r_t hst trivial rfl (x_arI (r := w64 (i_69 + 1)) hst rfl rfl rfl) ?_; intro a hst
          refine r_t hst trivial rfl (x_move hst rfl) ?_; intro a hst
          refine wpList_nil ?_
          refine then_normal ?_
          exact ⟨k_86, Nat.lt_succ_self _, v_90, l_91, (w64 (i_69 + 1)), H, hst.keep _ ⟨rfl, rfl, rfl, rfl, rfl, rfl, rfl, trivial⟩, hsh.pick [0, 0]⟩
        · refine wp_block ?_
          refine wp_seq ?_
          refine wp_region_lit ?_
          obtain ⟨x193, hx193, H⟩ := Option.bind_eq_some_iff.1 H
          refine r_t hst trivial rfl (x_indexAddr hst Try.underlying22 el_30 rfl rfl (hsh.row 1 rfl) hx193) ?_; intro a hst
          refine r_t hst trivial rfl (x_loadEsF (j := 0) (cs := [.string x193.Begin, .string x193.End, .int .u64 x193.Seq]) (ps := [.string x193.Begin, .string x193.End, .int .u64 x193.Seq]) hst ag_30 rfl (hsh.row 1 rfl) (Same.refl _ _) hx193 rfl (fun _ h => h) rfl) ?_; intro a hst
          refine r_alloc hst hsh trivial rfl zr_30 ?_
          intro g194 a w195 hgg194 hsh hst
          refine r_storeBs (i := 0) (cs' := [.string x193.Begin, .string x193.End, .int .u64 x193.Seq]) (vs := [.string x193.Begin, .string x193.End, .int .u64 x193.Seq]) hst hsh trivial ag_30 rfl rfl rfl rfl rfl rfl ?_; intro a w196 hsh hst
          refine wpList_nil ?_
          refine then_normal ?_
          refine wp_seq ?_
          refine wp_region_lit ?_
          refine r_t hst trivial rfl (x_fieldAddr (j' := 0) hst fa_30_0 rfl rfl) ?_; intro a hst
          refine r_t hst trivial rfl (x_loadB (i := 0) hst hsh sc_9 rfl rfl rfl) ?_; intro a hst
          refine r_t hst trivial rfl (x_move hst rfl) ?_; intro a hst
          refine r_t hst trivial rfl (x_maxS hst rfl rfl) ?_; intro a hst
          refine r_t hst trivial rfl (x_fieldAddr (j' := 0) hst fa_30_0 rfl rfl) ?_; intro a hst
          refine r_storeB (i := 0) (cs' := [.string (maxS x193.Begin a1), .string x193.End, .int .u64 x193.Seq]) hst hsh trivial sc_9 rfl rfl rfl rfl rfl rfl ?_; intro a w197 hsh hst
          refine wpList_nil ?_
          refine then_normal ?_
          obtain ⟨J_96, hJ_96, H⟩ := Jn.elim H
          refine wp_cut (fun a w' => ∃ (s_94 : ByteArray), J_96 s_94 = some r ∧ ST Try.f7.ntmps a [(1, .string a1), (2, .string a2), (6, (.slice none 0 0)), (7, v_67), (9, .pointer (some ⟨g194, 0, none⟩)), (11, v107), (12, .int .i64 (r105.length : Int)), (13, .int .i64 i_69)] ∧ SH (fun _ => False) w w' [Row k_Tomb 30 v_67 l_68, Box g194 [.string (maxS x193.Begin a1), .string s_94, .int .u64 x193.Seq] 30, Row k_Tomb 30 v107 r105]) ?_ ?_
          · rintro a W_95 ⟨s_94, H, hst, hsh⟩
            subst hJ_96
            dsimp only at H
            refine wp_seq ?_
            refine wp_region_lit ?_
            refine r_t hst trivial rfl (x_fieldAddr (j' := 0) hst fa_30_0 rfl rfl) ?_; intro a hst
            refine r_t hst trivial rfl (x_loadB (i := 1) hst hsh sc_9 rfl rfl rfl) ?_; intro a hst
            refine r_t hst trivial rfl (x_fieldAddr (j' := 1) hst fa_30_1 rfl rfl) ?_; intro a hst
            refine r_t hst trivial rfl (x_loadB (i := 1) hst hsh sc_9 rfl rfl rfl) ?_; intro a hst
            refine r_t hst trivial rfl (x_cmpS (b := sLt (maxS x193.Begin a1) s_94) hst rfl rfl rfl) ?_; intro a hst
            refine wpList_nil ?_
            refine then_normal ?_
            by_cases c200 : (sLt (maxS x193.Begin a1) s_94) = true
            · rw [if_pos c200] at H
              refine wp_condT hst rfl c200 ?_
              refine wp_region_lit ?_
              refine r_t hst trivial rfl (x_move hst rfl) ?_; intro a hst
              refine r_t hst trivial rfl (x_loadBs (i := 1) (ps := [.string (maxS x193.Begin a1), .string s_94, .int .u64 x193.Seq]) hst hsh ag_30 rfl rfl rfl) ?_; intro a hst
              refine r_buildSlice (vs := [.agg #[.string (maxS x193.Begin a1), .string s_94, .int .u64 x193.Seq]]) (cs := [.string (maxS x193.Begin a1), .string s_94, .int .u64 x193.Seq]) hst hsh trivial rfl Try.underlying22 el_30 rfl rfl (by simp [Value.cells]) rfl rfl ?_
              intro g201 a w202 hgg201 hsh hst
              replace hsh := hsh.pick [1, 0, 0, 0]
              obtain ⟨l203, hl203, H⟩ := Option.bind_eq_some_iff.1 H
              refine r_append1 (xx := (⟨maxS x193.Begin a1, s_94, x193.Seq⟩ : Tomb)) (C := []) (M := [Box g194 [.string (maxS x193.Begin a1), .string s_94, .int .u64 x193.Seq] 30, Row k_Tomb 30 v107 r105]) hst hsh trivial rfl Try.underlying22 el_30 (by decide) (by decide) (by decide) rfl rfl (fun _ _ _ => rfl) hl203 ?_
              intro v204 a w205 hsh hst
              refine r_t hst trivial rfl (x_assign hst rfl) ?_; intro a hst
              refine wpList_nil ?_
              refine block_normal ?_
              refine then_normal ?_
              exact ⟨v204, l203, H, hst.keep _ ⟨rfl, rfl, rfl, rfl, rfl, rfl, rfl, trivial⟩, hsh.pick [0, 1]⟩
            · rw [if_neg c200] at H
              replace c200 := Bool.eq_false_iff.2 c200
              refine wp_condF hst rfl c200 ?_
              refine wp_skip ?_
              refine block_normal ?_
              refine then_normal ?_
              exact ⟨v_67, l_68, H, hst.keep _ ⟨rfl, rfl, rfl, rfl, rfl, rfl, rfl, trivial⟩, hsh.pick [0, 1]⟩
          · refine wp_seq ?_
            refine wp_region_lit ?_
            refine r_t hst trivial rfl (x_move hst rfl) ?_; intro a hst
            refine r_t hst trivial rfl (x_cmpS (b := (!sEq a2 (ByteArray.mk #[]))) hst rfl rfl rfl) ?_; intro a hst
            refine wpList_nil ?_
            refine then_normal ?_
            by_cases c206 : (!sEq a2 (ByteArray.mk #[])) = true
            · rw [if_pos c206] at H
              refine wp_condT hst rfl c206 ?_
              refine wp_region_lit ?_
              refine r_t hst trivial rfl (x_fieldAddr (j' := 1) hst fa_30_1 rfl rfl) ?_; intro a hst
              refine r_t hst trivial rfl (x_loadB (i := 0) hst hsh sc_9 rfl rfl rfl) ?_; intro a hst
              refine r_t hst trivial rfl (x_move hst rfl) ?_; intro a hst
              refine r_t hst trivial rfl (x_minS hst rfl rfl) ?_; intro a hst
              refine r_t hst trivial rfl (x_fieldAddr (j' := 1) hst fa_30_1 rfl rfl) ?_; intro a hst
              refine r_storeB (i := 0) (cs' := [.string (maxS x193.Begin a1), .string (minS x193.End a2), .int .u64 x193.Seq]) hst hsh trivial sc_9 rfl rfl rfl rfl rfl rfl ?_; intro a w207 hsh hst
              refine wpList_nil ?_
              refine then_normal ?_
              exact ⟨(minS x193.End a2), H, hst.keep _ ⟨rfl, rfl, rfl, rfl, rfl, rfl, rfl, rfl, trivial⟩, hsh.pick [1, 0, 0]⟩
            · rw [if_neg c206] at H
              replace c206 := Bool.eq_false_iff.2 c206
              refine wp_condF hst rfl c206 ?_
              refine wp_skip ?_
              refine then_normal ?_
              exact ⟨x193.End, H, hst.keep _ ⟨rfl, rfl, rfl, rfl, rfl, rfl, rfl, rfl, trivial⟩, hsh.pick [1, 0, 0]⟩
      · rw [if_neg c177] at H
        replace c177 := Bool.eq_false_iff.2 c177
        refine wp_condF hst rfl c177 ?_
        refine wp_exit ?_
        refine then_exit ?_
        refine then_exit ?_
        refine block_hit ?_
        refine then_normal ?_
        refine wp_seq ?_
        refine wp_region_lit ?_
        refine r_t hst trivial rfl (x_move hst rfl) ?_; intro a hst
        refine r_t hst trivial rfl (x_assign hst rfl) ?_; intro a hst
        refine wpList_nil ?_
        refine then_normal ?_
        refine wp_ret ?_
        obtain rfl := Option.some.inj H
        exact ret1 hst rfl rfl ⟨v_67, rfl, hsh.pick [0]⟩

set_option maxHeartbeats 4000000 in
set_option maxRecDepth 100000 in
theorem tomb_Cover.calls (k : Nat) (w : World) (va0 : Value) (Za0 : Nat → Prop) (wra0 : World) (hsa0 : Same Za0 wra0 w) (a0 : (List Tomb)) (hra0 : RD k_Tomb Za0 wra0 va0 a0) (a1 : ByteArray) (a2 : Int) (r : (Int × Bool)) (h : tomb_Cover k a0 a1 a2 = some r) :
    Calls Try.prog 8 ([va0, .string a1, .int .u64 a2] : List Value).toArray w fun e w' => e = .returned (.tuple #[.int .u64 r.1, .bool r.2]) ∧ SH (fun _ => False) w w' [] := by
  have H := h
  clear h
  unfold tomb_Cover at H
  refine calls_enter Try.func8 rfl rfl ?_
  intro a hst
  have hsh := SH.zero (fun _ => False) w
  refine wp_seq ?_
  refine wp_region_lit ?_
  refine r_t hst trivial rfl (x_assign hst rfl) ?_; intro a hst
  refine r_t hst trivial rfl (x_assign hst rfl) ?_; intro a hst
  refine wpList_nil ?_
  refine then_normal ?_
  refine wp_seq ?_
  refine wp_region_lit ?_
  refine r_t hst trivial rfl (x_assign hst rfl) ?_; intro a hst
  refine r_t hst trivial rfl (x_assign hst rfl) ?_; intro a hst
  refine wpList_nil ?_
  refine then_normal ?_
  refine wp_seq ?_
  refine wp_seq ?_
  refine wp_region_lit ?_
  refine r_t hst trivial rfl (x_move hst rfl) ?_; intro a hst
  refine r_t hst trivial rfl (x_lenSl hst Try.underlying22 rfl hra0.slen) ?_; intro a hst
  refine r_t hst trivial rfl (x_move hst rfl) ?_; intro a hst
  refine wpList_nil ?_
  refine then_normal ?_
  refine wp_block ?_
  refine wp_loop_fuel (fun k_48 a w' => ∃ (i_36 : Int), ∃ (b_37 : Bool), ∃ (i_38 : Int), tomb_Cover.l0 a0 a1 a2 k_48 i_36 b_37 i_38 = some r ∧ ST Try.f8.ntmps a [(1, .string a1), (2, .int .u64 a2), (6, .int .u64 0), (7, .bool false), (8, .int .u64 i_36), (9, .bool b_37), (12, va0), (13, .int .i64 (a0.length : Int)), (14, .int .i64 i_38)] ∧ SH (fun _ => False) w w' []) k ?_ ?_
  · exact ⟨0, false, 0, H, hst.keep _ ⟨rfl, rfl, rfl, rfl, rfl, rfl, rfl, rfl, rfl, trivial⟩, hsh.pick []⟩
  · rintro k_48 a W_39 ⟨i_36, b_37, i_38, H, hst, hsh⟩
    cases k_48 with
    | zero => rw [tomb_Cover.l0] at H; cases H
    | succ k_48 =>
      rw [tomb_Cover.l0] at H
      refine wp_seq ?_
      refine wp_region_lit ?_
      refine r_t hst trivial rfl (x_cmpI (b := decide (i_38 < (a0.length : Int))) hst rfl rfl rfl) ?_; intro a hst
      refine wpList_nil ?_
      refine then_normal ?_
      refine wp_seq ?_
      by_cases c112 : (decide (i_38 < (a0.length : Int))) = true
      · rw [if_pos c112] at H
        refine wp_condT hst rfl c112 ?_
        refine wp_skip ?_
        refine then_normal ?_
        obtain ⟨J_52, hJ_52, H⟩ := Jn.elim H
        refine wp_cut (fun a w' => ∃ (i_49 : Int), ∃ (b_50 : Bool), J_52 i_49 b_50 = some r ∧ ST Try.f8.ntmps a [(1, .string a1), (2, .int .u64 a2), (6, .int .u64 0), (7, .bool false), (8, .int .u64 i_49), (9, .bool b_50), (12, va0), (13, .int .i64 (a0.length : Int)), (14, .int .i64 i_38)] ∧ SH (fun _ => False) w w' []) ?_ ?_
        · rintro a W_51 ⟨i_49, b_50, H, hst, hsh⟩
          subst hJ_52
          dsimp only at H
          refine wp_region_lit ?_
          refine r_t hst trivial rfl (x_arI (r := w64 (i_38 + 1)) hst rfl rfl rfl) ?_; intro a hst
          refine r_t hst trivial rfl (x_move hst rfl) ?_; intro a hst
          refine wpList_nil ?_
          refine then_normal ?_
          exact ⟨k_48, Nat.lt_succ_self _, i_49, b_50, (w64 (i_38 + 1)), H, hst.keep _ ⟨rfl, rfl, rfl, rfl, rfl, rfl, rfl, rfl, rfl, trivial⟩, hsh.pick []⟩
        · refine wp_block ?_
          refine wp_seq ?_
          refine wp_region_lit ?_
          obtain ⟨x123, hx123, H⟩ := Option.bind_eq_some_iff.1 H
          refine r_t hst trivial rfl (x_indexAddr hst Try.underlying22 el_30 rfl rfl hra0 hx123) ?_; intro a hst
          refine r_t hst trivial rfl (x_loadEsF (j := 0) (cs := [.string x123.Begin, .string x123.End, .int .u64 x123.Seq]) (ps := [.string x123.Begin, .string x123.End, .int .u64 x123.Seq]) hst ag_30 rfl hra0 (Same.sh0 hsa0 hsh) hx123 rfl (fun _ h => h) rfl) ?_; intro a hst
          refine r_alloc hst hsh trivial rfl zr_30 ?_
          intro g124 a w125 hgg124 hsh hst
          refine r_storeBs (i := 0) (cs' := [.string x123.Begin, .string x123.End, .int .u64 x123.Seq]) (vs := [.string x123.Begin, .string x123.End, .int .u64 x123.Seq]) hst hsh trivial ag_30 rfl rfl rfl rfl rfl rfl ?_; intro a w126 hsh hst
          refine wpList_nil ?_
          refine then_normal ?_
          refine wp_seq ?_
          refine wp_region_lit ?_
          refine r_t hst trivial rfl (x_loadBs (i := 0) (ps := [.string x123.Begin, .string x123.End, .int .u64 x123.Seq]) hst hsh ag_30 rfl rfl rfl) ?_; intro a hst
          obtain ⟨r127, hr127, H⟩ := Option.bind_eq_some_iff.1 H
          refine r_callD hst trivial rfl fn_9 rfl (tomb_Valid.calls _ x123 r127 hr127) ?_
          rintro e w128 ⟨rfl, hc⟩
          replace hsh := hsh.call0 hc
          clear hc
          refine ⟨_, rfl, fun a hst => ?_⟩
          refine r_t hst trivial rfl (x_move hst rfl) ?_; intro a hst
          refine wl_join0 (N := Try.f8.ntmps) 8 [(1, .string a1), (2, .int .u64 a2), (6, .int .u64 0), (7, .bool false), (8, .int .u64 i_36), (9, .bool b_37), (11, .pointer (some ⟨g124, 0, none⟩)), (12, va0), (13, .int .i64 (a0.length : Int)), (14, .int .i64 i_38), (25, .bool (r127 && (decide (x123.Seq ≤ a2))))] ?_ ?_
          · intro a hst
            refine r_t hst trivial rfl (x_move hst rfl) ?_; intro a hst
            refine wl_join0 (N := Try.f8.ntmps) 14 [(1, .string a1), (2, .int .u64 a2), (6, .int .u64 0), (7, .bool false), (8, .int .u64 i_36), (9, .bool b_37), (11, .pointer (some ⟨g124, 0, none⟩)), (12, va0), (13, .int .i64 (a0.length : Int)), (14, .int .i64 i_38), (31, .bool ((r127 && (decide (x123.Seq ≤ a2))) && (sLt x123.Begin a1 || sEq x123.Begin a1)))] ?_ ?_
            · intro a hst
              refine r_t hst trivial rfl (x_move hst rfl) ?_; intro a hst
              refine wl_join0 (N := Try.f8.ntmps) 20 [(1, .string a1), (2, .int .u64 a2), (6, .int .u64 0), (7, .bool false), (8, .int .u64 i_36), (9, .bool b_37), (11, .pointer (some ⟨g124, 0, none⟩)), (12, va0), (13, .int .i64 (a0.length : Int)), (14, .int .i64 i_38), (37, .bool (((r127 && (decide (x123.Seq ≤ a2))) && (sLt x123.Begin a1 || sEq x123.Begin a1)) && (sLt a1 x123.End)))] ?_ ?_
              · intro a hst
                refine wpList_nil ?_
                refine then_normal ?_
                by_cases c132 : (((r127 && (decide (x123.Seq ≤ a2))) && (sLt x123.Begin a1 || sEq x123.Begin a1)) && (sLt a1 x123.End)) = true
                · rw [if_pos c132] at H
                  refine wp_condT hst rfl c132 ?_
                  refine wp_region_lit ?_
                  refine r_t hst trivial rfl (x_move hst rfl) ?_; intro a hst
                  refine r_t hst trivial rfl (x_fieldAddr (j' := 2) hst fa_30_2 rfl rfl) ?_; intro a hst
                  refine r_t hst trivial rfl (x_loadB (i := 0) hst hsh sc_23 rfl rfl rfl) ?_; intro a hst
                  refine r_t hst trivial rfl (x_maxI hst rfl rfl) ?_; intro a hst
                  refine r_t hst trivial rfl (x_assign hst rfl) ?_; intro a hst
                  refine r_t hst trivial rfl (x_assign hst rfl) ?_; intro a hst
                  refine wpList_nil ?_
                  refine block_normal ?_
                  refine then_normal ?_
                  exact ⟨(maxI i_36 x123.Seq), true, H, hst.keep _ ⟨rfl, rfl, rfl, rfl, rfl, rfl, rfl, rfl, rfl, trivial⟩, hsh.pick []⟩
                · rw [if_neg c132] at H
                  replace c132 := Bool.eq_false_iff.2 c132
                  refine wp_condF hst rfl c132 ?_
                  refine wp_skip ?_
                  refine block_normal ?_
                  refine then_normal ?_
                  exact ⟨i_36, b_37, H, hst.keep _ ⟨rfl, rfl, rfl, rfl, rfl, rfl, rfl, rfl, rfl, trivial⟩, hsh.pick []⟩
              · intro hj
                by_cases c131 : ((r127 && (decide (x123.Seq ≤ a2))) && (sLt x123.Begin a1 || sEq x123.Begin a1)) = true
                · refine r_t hst (wt_of 32 rfl rfl c131) rfl (x_move hst rfl) ?_; intro a hst
                  refine r_t hst (wt_of 32 rfl rfl c131) rfl (x_fieldAddr (j' := 1) hst fa_30_1 rfl rfl) ?_; intro a hst
                  refine r_t hst (wt_of 32 rfl rfl c131) rfl (x_loadB (i := 0) hst hsh sc_9 rfl rfl rfl) ?_; intro a hst
                  refine r_t hst (wt_of 32 rfl rfl c131) rfl (x_cmpS (b := sLt a1 x123.End) hst rfl rfl rfl) ?_; intro a hst
                  refine r_t hst trivial rfl (x_andT hst rfl c131 rfl) ?_; intro a hst
                  exact hj _ (hst.keep _ ⟨rfl, rfl, rfl, rfl, rfl, rfl, rfl, rfl, rfl, rfl, rfl, trivial⟩)
                · replace c131 := Bool.eq_false_iff.2 c131
                  refine r_not hst 32 rfl rfl c131 rfl ?_; intro a hst
                  refine r_not hst 32 rfl rfl c131 rfl ?_; intro a hst
                  refine r_not hst 32 rfl rfl c131 rfl ?_; intro a hst
                  refine r_not hst 32 rfl rfl c131 rfl ?_; intro a hst
                  refine r_t hst trivial rfl (x_andF (sLt a1 x123.End) hst rfl c131 rfl) ?_; intro a hst
                  exact hj _ (hst.keep _ ⟨rfl, rfl, rfl, rfl, rfl, rfl, rfl, rfl, rfl, rfl, rfl, trivial⟩)
            · intro hj
              by_cases c130 : (r127 && (decide (x123.Seq ≤ a2))) = true
              · refine r_t hst (wt_of 26 rfl rfl c130) rfl (x_fieldAddr (j' := 0) hst fa_30_0 rfl rfl) ?_; intro a hst
                refine r_t hst (wt_of 26 rfl rfl c130) rfl (x_loadB (i := 0) hst hsh sc_9 rfl rfl rfl) ?_; intro a hst
                refine r_t hst (wt_of 26 rfl rfl c130) rfl (x_move hst rfl) ?_; intro a hst
                refine r_t hst (wt_of 26 rfl rfl c130) rfl (x_cmpS (b := (sLt x123.Begin a1 || sEq x123.Begin a1)) hst rfl rfl rfl) ?_; intro a hst
                refine r_t hst trivial rfl (x_andT hst rfl c130 rfl) ?_; intro a hst
                exact hj _ (hst.keep _ ⟨rfl, rfl, rfl, rfl, rfl, rfl, rfl, rfl, rfl, rfl, rfl, trivial⟩)
              · replace c130 := Bool.eq_false_iff.2 c130
                refine r_not hst 26 rfl rfl c130 rfl ?_; intro a hst
                refine r_not hst 26 rfl rfl c130 rfl ?_; intro a hst
                refine r_not hst 26 rfl rfl c130 rfl ?_; intro a hst
                refine r_not hst 26 rfl rfl c130 rfl ?_; intro a hst
                refine r_t hst trivial rfl (x_andF (sLt x123.Begin a1 || sEq x123.Begin a1) hst rfl c130 rfl) ?_; intro a hst
                exact hj _ (hst.keep _ ⟨rfl, rfl, rfl, rfl, rfl, rfl, rfl, rfl, rfl, rfl, rfl, trivial⟩)
          · intro hj
            by_cases c129 : r127 = true
            · refine r_t hst (wt_of 20 rfl rfl c129) rfl (x_fieldAddr (j' := 2) hst fa_30_2 rfl rfl) ?_; intro a hst
              refine r_t hst (wt_of 20 rfl rfl c129) rfl (x_loadB (i := 0) hst hsh sc_23 rfl rfl rfl) ?_; intro a hst
              refine r_t hst (wt_of 20 rfl rfl c129) rfl (x_move hst rfl) ?_; intro a hst
              refine r_t hst (wt_of 20 rfl rfl c129) rfl (x_cmpI (b := decide (x123.Seq ≤ a2)) hst rfl rfl rfl) ?_; intro a hst
              refine r_t hst trivial rfl (x_andT hst rfl c129 rfl) ?_; intro a hst
              exact hj _ (hst.keep _ ⟨rfl, rfl, rfl, rfl, rfl, rfl, rfl, rfl, rfl, rfl, rfl, trivial⟩)
            · replace c129 := Bool.eq_false_iff.2 c129
              refine r_not hst 20 rfl rfl c129 rfl ?_; intro a hst
              refine r_not hst 20 rfl rfl c129 rfl ?_; intro a hst
              refine r_not hst 20 rfl rfl c129 rfl ?_; intro a hst
              refine r_not hst 20 rfl rfl c129 rfl ?_; intro a hst
              refine r_t hst trivial rfl (x_andF (decide (x123.Seq ≤ a2)) hst rfl c129 rfl) ?_; intro a hst
              exact hj _ (hst.keep _ ⟨rfl, rfl, rfl, rfl, rfl, rfl, rfl, rfl, rfl, rfl, rfl, trivial⟩)
      · rw [if_neg c112] at H
        replace c112 := Bool.eq_false_iff.2 c112
        refine wp_condF hst rfl c112 ?_
        refine wp_exit ?_
        refine then_exit ?_
        refine then_exit ?_
        refine block_hit ?_
        refine then_normal ?_
        refine wp_seq ?_
        refine wp_region_lit ?_
        refine r_t hst trivial rfl (x_move hst rfl) ?_; intro a hst
        refine r_t hst trivial rfl (x_move hst rfl) ?_; intro a hst
        refine r_t hst trivial rfl (x_assign hst rfl) ?_; intro a hst
        refine r_t hst trivial rfl (x_assign hst rfl) ?_; intro a hst
        refine wpList_nil ?_
        refine then_normal ?_
        refine wp_ret ?_
        obtain rfl := Option.some.inj H
        exact ret2 hst rfl rfl rfl ⟨rfl, hsh.pick []⟩

set_option maxHeartbeats 4000000 in
set_option maxRecDepth 100000 in
theorem l09_TombCut.calls (k : Nat) (w : World) (va0 : Value) (Za0 : Nat → Prop) (wra0 : World) (hsa0 : Same Za0 wra0 w) (a0 : (List Tomb)) (hra0 : RD k_Tomb Za0 wra0 va0 a0) (a1 : L09_Ask) (r : Bool) (h : l09_TombCut k a0 a1 = some r) :
    Calls Try.prog 3 ([va0, .agg #[.string a1.Key, .int .u64 a1.Seq, .string a1.Least, .string a1.Limit, .int .i64 a1.Stop]] : List Value).toArray w fun e w' => e = .returned (.bool r) ∧ SH (fun _ => False) w w' [] := by
  have H := h
  clear h
  unfold l09_TombCut at H
  refine calls_enter Try.func3 rfl rfl ?_
  intro a hst
  have hsh := SH.zero (fun _ => False) w
  refine wp_seq ?_
  refine wp_region_lit ?_
  refine r_box hst hsh trivial rfl rfl rfl ?_
  intro g1 a w2 hgg1 hsh hst
  refine r_t hst trivial rfl (x_assign hst rfl) ?_; intro a hst
  refine wpList_nil ?_
  refine then_normal ?_
  refine wp_seq ?_
  refine wp_region_q (fun w' => SH (fun _ => False) w w' [Box g1 [.string a1.Key, .int .u64 a1.Seq, .string a1.Least, .string a1.Limit, .int .i64 a1.Stop] 25]) hsh.drew fo (by kernel_rfl) ?_
  refine q_t hst trivial rfl (fun _ hsh => x_fieldAddr (j' := 2) hst fa_25_2 rfl rfl) ?_; intro a hst
  refine q_t hst trivial rfl (fun _ hsh => x_loadB (i := 0) hst hsh sc_9 rfl rfl rfl) ?_; intro a hst
  refine q_t hst trivial rfl (fun _ hsh => x_fieldAddr (j' := 3) hst fa_25_3 rfl rfl) ?_; intro a hst
  refine q_t hst trivial rfl (fun _ hsh => x_loadB (i := 0) hst hsh sc_9 rfl rfl rfl) ?_; intro a hst
  refine q_t hst trivial rfl (fun _ hsh => x_fieldAddr (j' := 0) hst fa_25_0 rfl rfl) ?_; intro a hst
  refine q_t hst trivial rfl (fun _ hsh => x_loadB (i := 0) hst hsh sc_9 rfl rfl rfl) ?_; intro a hst
  refine q_t hst trivial rfl (fun _ hsh => x_fieldAddr (j' := 1) hst fa_25_1 rfl rfl) ?_; intro a hst
  refine q_t hst trivial rfl (fun _ hsh => x_loadB (i := 0) hst hsh sc_23 rfl rfl rfl) ?_; intro a hst
  refine q_t hst trivial rfl (fun _ hsh => x_assign hst rfl) ?_; intro a hst
  refine q_t hst trivial rfl (fun _ hsh => x_assign hst rfl) ?_; intro a hst
  refine q_t hst trivial rfl (fun _ hsh => x_assign hst rfl) ?_; intro a hst
  refine q_t hst trivial rfl (fun _ hsh => x_assign hst rfl) ?_; intro a hst
  refine q_nil ?_
  intro w3 hsh
  refine then_normal ?_
  refine wp_seq ?_
  refine wp_region_lit ?_
  refine r_t hst trivial rfl (x_move hst rfl) ?_; intro a hst
  refine r_t hst trivial rfl (x_move hst rfl) ?_; intro a hst
  refine r_t hst trivial rfl (x_move hst rfl) ?_; intro a hst
  obtain ⟨r4, hr4, H⟩ := Option.bind_eq_some_iff.1 H
  refine r_callD hst trivial rfl fn_7 rfl (tomb_Cut.calls k _ _ _ _ (Same.sh0 hsa0 hsh) _ hra0 a1.Least a1.Limit r4 hr4) ?_
  rintro e w5 ⟨v6, rfl, hc⟩
  replace hsh := hsh.call0 hc
  clear hc
  refine ⟨_, rfl, fun a hst => ?_⟩
  refine r_t hst trivial rfl (x_assign hst rfl) ?_; intro a hst
  refine wpList_nil ?_
  refine then_normal ?_
  refine wp_seq ?_
  refine wp_region_lit ?_
  refine r_t hst trivial rfl (x_move hst rfl) ?_; intro a hst
  refine r_t hst trivial rfl (x_move hst rfl) ?_; intro a hst
  refine r_t hst trivial rfl (x_move hst rfl) ?_; intro a hst
  obtain ⟨r8, hr8, H⟩ := Option.bind_eq_some_iff.1 H
  refine r_callD hst trivial rfl fn_8 rfl (tomb_Cover.calls k _ _ _ _ (Same.refl _ _) _ (hsh.row 0 rfl) a1.Key a1.Seq r8 hr8) ?_
  rintro e w9 ⟨rfl, hc⟩
  replace hsh := hsh.call0 hc
  clear hc
  refine ⟨_, rfl, fun a hst => ?_⟩
  refine r_t hst trivial rfl (x_move hst rfl) ?_; intro a hst
  refine r_t hst trivial rfl (x_extract hst rfl rfl) ?_; intro a hst
  refine r_t hst trivial rfl (x_extract hst rfl rfl) ?_; intro a hst
  refine r_t hst trivial rfl (x_assign hst rfl) ?_; intro a hst
  refine r_t hst trivial rfl (x_assign hst rfl) ?_; intro a hst
  refine wpList_nil ?_
  refine then_normal ?_
  refine wp_seq ?_
  refine wp_region_lit ?_
  refine r_t hst trivial rfl (x_move hst rfl) ?_; intro a hst
  refine r_t hst trivial rfl (x_move hst rfl) ?_; intro a hst
  refine r_t hst trivial rfl (x_move hst rfl) ?_; intro a hst
  obtain ⟨r10, hr10, H⟩ := Option.bind_eq_some_iff.1 H
  refine r_callD hst trivial rfl fn_8 rfl (tomb_Cover.calls k _ _ _ _ (Same.sh0 hsa0 hsh) _ hra0 a1.Key a1.Seq r10 hr10) ?_
  rintro e w11 ⟨rfl, hc⟩
  replace hsh := hsh.call0 hc
  clear hc
  refine ⟨_, rfl, fun a hst => ?_⟩
  refine r_t hst trivial rfl (x_move hst rfl) ?_; intro a hst
  refine r_t hst trivial rfl (x_extract hst rfl rfl) ?_; intro a hst
  refine r_t hst trivial rfl (x_extract hst rfl rfl) ?_; intro a hst
  refine r_t hst trivial rfl (x_assign hst rfl) ?_; intro a hst
  refine r_t hst trivial rfl (x_assign hst rfl) ?_; intro a hst
  refine wpList_nil ?_
  refine then_normal ?_
  obtain ⟨J_4, hJ_4, H⟩ := Jn.elim H
  refine wp_cut (fun a w' => ∃ (i_1 : Int), ∃ (b_2 : Bool), J_4 i_1 b_2 = some r ∧ ST Try.f3.ntmps a [(0, va0), (4, .bool false), (5, .string a1.Least), (6, .string a1.Limit), (9, v6), (10, .int .u64 r8.1), (11, .bool r8.2), (12, .int .u64 i_1), (13, .bool b_2)] ∧ SH (fun _ => False) w w' [Row k_Tomb 30 v6 r4]) ?_ ?_
  · rintro a W_3 ⟨i_1, b_2, H, hst, hsh⟩
    subst hJ_4
    dsimp only at H
    refine wp_seq ?_
    refine wp_seq ?_
    refine wp_region_lit ?_
    refine r_t hst trivial rfl (x_assign hst rfl) ?_; intro a hst
    refine wpList_nil ?_
    refine then_normal ?_
    refine wp_block ?_
    refine wp_loop_fuel (fun k_350 a w' => ∃ (i_280 : Int), l09_TombCut.l0 a0 a1 r4 r8 i_1 b_2 k_350 i_280 = some r ∧ ST Try.f3.ntmps a [(0, va0), (4, .bool false), (5, .string a1.Least), (6, .string a1.Limit), (9, v6), (10, .int .u64 r8.1), (11, .bool r8.2), (12, .int .u64 i_1), (13, .bool b_2), (14, .int .i64 i_280)] ∧ SH (fun _ => False) w w' [Row k_Tomb 30 v6 r4]) k ?_ ?_
    · exact ⟨0, H, hst.keep _ ⟨rfl, rfl, rfl, rfl, rfl, rfl, rfl, rfl, rfl, rfl, trivial⟩, hsh.pick [0]⟩
    · rintro k_350 a W_281 ⟨i_280, H, hst, hsh⟩
      cases k_350 with
      | zero => rw [l09_TombCut.l0] at H; cases H
      | succ k_350 =>
        rw [l09_TombCut.l0] at H
        refine wp_seq ?_
        refine wp_seq ?_
        refine wp_region_lit ?_
        refine r_t hst trivial rfl (x_move hst rfl) ?_; intro a hst
        refine r_t hst trivial rfl (x_move hst rfl) ?_; intro a hst
        refine r_t hst trivial rfl (x_lenSl hst Try.underlying22 rfl (hsh.row 0 rfl).slen) ?_; intro a hst
        refine r_t hst trivial rfl (x_cmpI (b := decide (i_280 < (r4.length : Int))) hst rfl rfl rfl) ?_; intro a hst
        refine wpList_nil ?_
        refine then_normal ?_
        by_cases c306 : (decide (i_280 < (r4.length : Int))) = true
        · rw [if_pos c306] at H
          refine wp_condT hst rfl c306 ?_
          refine wp_skip ?_
          refine then_normal ?_
          refine wp_seq ?_
          refine wp_block ?_
          refine wp_seq ?_
          refine wp_region_lit ?_
          refine r_t hst trivial rfl (x_move hst rfl) ?_; intro a hst
          refine r_t hst trivial rfl (x_move hst rfl) ?_; intro a hst
          obtain ⟨x335, hx335, H⟩ := Option.bind_eq_some_iff.1 H
          refine r_t hst trivial rfl (x_indexAddr hst Try.underlying22 el_30 rfl rfl (hsh.row 0 rfl) hx335) ?_; intro a hst
          refine r_t hst trivial rfl (x_fieldAddrE (n' := Int.toNat i_280 * k_Tomb.sz) hst fa_30_0 rfl rfl) ?_; intro a hst
          refine r_t hst trivial rfl (x_loadEF (j := 0) (cs := [.string x335.Begin, .string x335.End, .int .u64 x335.Seq]) hst sc_9 rfl (hsh.row 0 rfl) (Same.refl _ _) hx335 rfl (fun _ h => h) rfl) ?_; intro a hst
          refine r_t hst trivial rfl (x_move hst rfl) ?_; intro a hst
          refine r_t hst trivial rfl (x_cmpS (b := sLt x335.Begin a1.Least) hst rfl rfl rfl) ?_; intro a hst
          refine r_t hst trivial rfl (x_move hst rfl) ?_; intro a hst
          obtain ⟨J_388, hJ_388, H⟩ := Jn.elim H
          refine wl_join 20 (fun a w' => ∃ (b_387 : Bool), J_388 b_387 = some r ∧ ST Try.f3.ntmps a [(0, va0), (4, .bool false), (5, .string a1.Least), (6, .string a1.Limit), (9, v6), (10, .int .u64 r8.1), (11, .bool r8.2), (12, .int .u64 i_1), (13, .bool b_2), (14, .int .i64 i_280), (80, .bool b_387)] ∧ SH (fun _ => False) w w' [Row k_Tomb 30 v6 r4]) ?_ ?_
          · rintro a W_392 ⟨b_387, H, hst, hsh⟩
            subst hJ_388
            dsimp only at H
            refine r_t hst trivial rfl (x_move hst rfl) ?_; intro a hst
            obtain ⟨J_400, hJ_400, H⟩ := Jn.elim H
            refine wl_join 46 (fun a w' => ∃ (b_399 : Bool), J_400 b_399 = some r ∧ ST Try.f3.ntmps a [(0, va0), (4, .bool false), (5, .string a1.Least), (6, .string a1.Limit), (9, v6), (10, .int .u64 r8.1), (11, .bool r8.2), (12, .int .u64 i_1), (13, .bool b_2), (14, .int .i64 i_280), (106, .bool b_399)] ∧ SH (fun _ => False) w w' [Row k_Tomb 30 v6 r4]) ?_ ?_
            · rintro a W_407 ⟨b_399, H, hst, hsh⟩
              subst hJ_400
              dsimp only at H
              refine wpList_nil ?_
              refine then_normal ?_
              by_cases c350 : b_399 = true
              · rw [if_pos c350] at H
                refine wp_condT hst rfl c350 ?_
                refine wp_seq ?_
                refine wp_region_lit ?_
                refine r_t hst trivial rfl (x_assign hst rfl) ?_; intro a hst
                refine wpList_nil ?_
                refine then_normal ?_
                refine wp_ret ?_
                refine block_ret ?_
                refine then_ret ?_
                refine then_ret ?_
                refine block_ret ?_
                refine then_ret ?_
                obtain rfl := Option.some.inj H
                exact ret1 hst rfl rfl ⟨rfl, hsh.pick []⟩
              · rw [if_neg c350] at H
                replace c350 := Bool.eq_false_iff.2 c350
                refine wp_condF hst rfl c350 ?_
                refine wp_skip ?_
                refine block_normal ?_
                refine then_normal ?_
                refine wp_region_lit ?_
                refine r_t hst trivial rfl (x_move hst rfl) ?_; intro a hst
                refine r_t hst trivial rfl (x_arI (r := w64 (i_280 + 1)) hst rfl rfl rfl) ?_; intro a hst
                refine r_t hst trivial rfl (x_assign hst rfl) ?_; intro a hst
                refine wpList_nil ?_
                refine then_normal ?_
                exact ⟨k_350, Nat.lt_succ_self _, (w64 (i_280 + 1)), H, hst.keep _ ⟨rfl, rfl, rfl, rfl, rfl, rfl, rfl, rfl, rfl, rfl, trivial⟩, hsh.pick [0]⟩
            · intro hj
              by_cases c340 : b_387 = true
              · rw [if_pos c340] at H
                refine r_not hst 81 rfl rfl c340 rfl ?_; intro a hst
                refine r_not hst 81 rfl rfl c340 rfl ?_; intro a hst
                refine r_not hst 81 rfl rfl c340 rfl ?_; intro a hst
                refine r_not hst 81 rfl rfl c340 rfl ?_; intro a hst
                refine r_not hst 81 rfl rfl c340 rfl ?_; intro a hst
                refine r_not hst 81 rfl rfl c340 rfl ?_; intro a hst
                refine r_not hst 81 rfl rfl c340 rfl ?_; intro a hst
                refine r_notU hst 88 rfl rfl rfl ?_; intro a hst
                refine r_notU hst 88 rfl rfl rfl ?_; intro a hst
                refine r_notU hst 88 rfl rfl rfl ?_; intro a hst
                refine r_notU hst 88 rfl rfl rfl ?_; intro a hst
                refine r_notU hst 88 rfl rfl rfl ?_; intro a hst
                refine r_notU hst 88 rfl rfl rfl ?_; intro a hst
                refine r_notU hst 88 rfl rfl rfl ?_; intro a hst
                refine r_not hst 81 rfl rfl c340 rfl ?_; intro a hst
                refine r_not hst 81 rfl rfl c340 rfl ?_; intro a hst
                refine r_notU hst 97 rfl rfl rfl ?_; intro a hst
                refine r_notU hst 97 rfl rfl rfl ?_; intro a hst
                refine r_notU hst 97 rfl rfl rfl ?_; intro a hst
                refine r_notU hst 97 rfl rfl rfl ?_; intro a hst
                refine r_notU hst 97 rfl rfl rfl ?_; intro a hst
                refine r_notU hst 97 rfl rfl rfl ?_; intro a hst
                refine r_notU hst 97 rfl rfl rfl ?_; intro a hst
                refine r_not hst 81 rfl rfl c340 rfl ?_; intro a hst
                refine r_t hst trivial rfl (x_pickT hst rfl c340 rfl) ?_; intro a hst
                exact hj _ _ ⟨true, H, hst.keep _ ⟨rfl, rfl, rfl, rfl, rfl, rfl, rfl, rfl, rfl, rfl, rfl, trivial⟩, hsh.pick [0]⟩
              · rw [if_neg c340] at H
                replace c340 := Bool.eq_false_iff.2 c340
                refine r_t hst (wt_of 81 rfl rfl c340) rfl (x_move hst rfl) ?_; intro a hst
                refine r_t hst (wt_of 81 rfl rfl c340) rfl (x_move hst rfl) ?_; intro a hst
                obtain ⟨x351, hx351, H⟩ := Option.bind_eq_some_iff.1 H
                refine r_t hst (wt_of 81 rfl rfl c340) rfl (x_indexAddr hst Try.underlying22 el_30 rfl rfl (hsh.row 0 rfl) hx351) ?_; intro a hst
                refine r_t hst (wt_of 81 rfl rfl c340) rfl (x_loadEsF (j := 0) (cs := [.string x351.Begin, .string x351.End, .int .u64 x351.Seq]) (ps := [.string x351.Begin, .string x351.End, .int .u64 x351.Seq]) hst ag_30 rfl (hsh.row 0 rfl) (Same.refl _ _) hx351 rfl (fun _ h => h) rfl) ?_; intro a hst
                obtain ⟨r352, hr352, H⟩ := Option.bind_eq_some_iff.1 H
                refine r_callD hst (wt_of 81 rfl rfl c340) rfl fn_9 rfl (tomb_Valid.calls _ x351 r352 hr352) ?_
                rintro e w353 ⟨rfl, hc⟩
                replace hsh := hsh.call0 hc
                clear hc
                refine ⟨_, rfl, fun a hst => ?_⟩
                refine r_t hst (wt_of 81 rfl rfl c340) rfl (x_notB hst rfl) ?_; intro a hst
                refine r_t hst (wt_of 81 rfl rfl c340) rfl (x_move hst rfl) ?_; intro a hst
                obtain ⟨J_409, hJ_409, H⟩ := Jn.elim H
                refine wl_join 36 (fun a w' => ∃ (b_408 : Bool), J_409 b_408 = some r ∧ ST Try.f3.ntmps a [(0, va0), (4, .bool false), (5, .string a1.Least), (6, .string a1.Limit), (9, v6), (10, .int .u64 r8.1), (11, .bool r8.2), (12, .int .u64 i_1), (13, .bool b_2), (14, .int .i64 i_280), (81, .bool b_387), (96, .bool b_408)] ∧ SH (fun _ => False) w w' [Row k_Tomb 30 v6 r4]) ?_ ?_
                · rintro a W_410 ⟨b_408, H, hst, hsh⟩
                  subst hJ_409
                  dsimp only at H
                  refine r_t hst (wt_of 81 rfl rfl c340) rfl (x_move hst rfl) ?_; intro a hst
                  obtain ⟨J_412, hJ_412, H⟩ := Jn.elim H
                  refine wl_join 45 (fun a w' => ∃ (b_411 : Bool), J_412 b_411 = some r ∧ ST Try.f3.ntmps a [(0, va0), (4, .bool false), (5, .string a1.Least), (6, .string a1.Limit), (9, v6), (10, .int .u64 r8.1), (11, .bool r8.2), (12, .int .u64 i_1), (13, .bool b_2), (14, .int .i64 i_280), (81, .bool b_387), (105, .bool b_411)] ∧ SH (fun _ => False) w w' [Row k_Tomb 30 v6 r4]) ?_ ?_
                  · rintro a W_413 ⟨b_411, H, hst, hsh⟩
                    subst hJ_412
                    dsimp only at H
                    refine r_t hst trivial rfl (x_pickF hst rfl c340 rfl) ?_; intro a hst
                    exact hj _ _ ⟨b_411, H, hst.keep _ ⟨rfl, rfl, rfl, rfl, rfl, rfl, rfl, rfl, rfl, rfl, rfl, trivial⟩, hsh.pick [0]⟩
                  · intro hj
                    by_cases c356 : b_408 = true
                    · rw [if_pos c356] at H
                      refine r_t hst (wt_of 97 rfl rfl c356) rfl (x_move hst rfl) ?_; intro a hst
                      refine r_t hst (wt_of 97 rfl rfl c356) rfl (x_move hst rfl) ?_; intro a hst
                      obtain ⟨x358, hx358, H⟩ := Option.bind_eq_some_iff.1 H
                      refine r_t hst (wt_of 97 rfl rfl c356) rfl (x_indexAddr hst Try.underlying22 el_30 rfl rfl (hsh.row 0 rfl) hx358) ?_; intro a hst
                      refine r_t hst (wt_of 97 rfl rfl c356) rfl (x_fieldAddrE (n' := Int.toNat i_280 * k_Tomb.sz + 1) hst fa_30_1 rfl rfl) ?_; intro a hst
                      refine r_t hst (wt_of 97 rfl rfl c356) rfl (x_loadEF (j := 1) (cs := [.string x358.Begin, .string x358.End, .int .u64 x358.Seq]) hst sc_9 rfl (hsh.row 0 rfl) (Same.refl _ _) hx358 rfl (fun _ h => h) rfl) ?_; intro a hst
                      refine r_t hst (wt_of 97 rfl rfl c356) rfl (x_lenStr hst Try.underlying9 rfl) ?_; intro a hst
                      refine r_t hst (wt_of 97 rfl rfl c356) rfl (x_cmpI (b := decide ((x358.End.size : Int) ≤ 1025)) hst rfl rfl rfl) ?_; intro a hst
                      refine r_t hst (wt_of 81 rfl rfl c340) rfl (x_pickT hst rfl c356 rfl) ?_; intro a hst
                      exact hj _ _ ⟨(decide ((x358.End.size : Int) ≤ 1025)), H, hst.keep _ ⟨rfl, rfl, rfl, rfl, rfl, rfl, rfl, rfl, rfl, rfl, rfl, rfl, trivial⟩, hsh.pick [0]⟩
                    · rw [if_neg c356] at H
                      replace c356 := Bool.eq_false_iff.2 c356
                      refine r_not hst 97 rfl rfl c356 rfl ?_; intro a hst
                      refine r_not hst 97 rfl rfl c356 rfl ?_; intro a hst
                      refine r_not hst 97 rfl rfl c356 rfl ?_; intro a hst
                      refine r_not hst 97 rfl rfl c356 rfl ?_; intro a hst
                      refine r_not hst 97 rfl rfl c356 rfl ?_; intro a hst
                      refine r_not hst 97 rfl rfl c356 rfl ?_; intro a hst
                      refine r_not hst 97 rfl rfl c356 rfl ?_; intro a hst
                      refine r_t hst (wt_of 81 rfl rfl c340) rfl (x_pickF hst rfl c356 rfl) ?_; intro a hst
                      exact hj _ _ ⟨false, H, hst.keep _ ⟨rfl, rfl, rfl, rfl, rfl, rfl, rfl, rfl, rfl, rfl, rfl, rfl, trivial⟩, hsh.pick [0]⟩
                · intro hj
                  by_cases c354 : (!r352) = true
                  · rw [if_pos c354] at H
                    refine r_t hst (wt_of 88 rfl rfl c354) rfl (x_move hst rfl) ?_; intro a hst
                    refine r_t hst (wt_of 88 rfl rfl c354) rfl (x_move hst rfl) ?_; intro a hst
                    obtain ⟨x359, hx359, H⟩ := Option.bind_eq_some_iff.1 H
                    refine r_t hst (wt_of 88 rfl rfl c354) rfl (x_indexAddr hst Try.underlying22 el_30 rfl rfl (hsh.row 0 rfl) hx359) ?_; intro a hst
                    refine r_t hst (wt_of 88 rfl rfl c354) rfl (x_fieldAddrE (n' := Int.toNat i_280 * k_Tomb.sz) hst fa_30_0 rfl rfl) ?_; intro a hst
                    refine r_t hst (wt_of 88 rfl rfl c354) rfl (x_loadEF (j := 0) (cs := [.string x359.Begin, .string x359.End, .int .u64 x359.Seq]) hst sc_9 rfl (hsh.row 0 rfl) (Same.refl _ _) hx359 rfl (fun _ h => h) rfl) ?_; intro a hst
                    refine r_t hst (wt_of 88 rfl rfl c354) rfl (x_lenStr hst Try.underlying9 rfl) ?_; intro a hst
                    refine r_t hst (wt_of 88 rfl rfl c354) rfl (x_cmpI (b := decide ((x359.Begin.size : Int) ≤ 1024)) hst rfl rfl rfl) ?_; intro a hst
                    refine r_t hst (wt_of 81 rfl rfl c340) rfl (x_pickT hst rfl c354 rfl) ?_; intro a hst
                    exact hj _ _ ⟨(decide ((x359.Begin.size : Int) ≤ 1024)), H, hst.keep _ ⟨rfl, rfl, rfl, rfl, rfl, rfl, rfl, rfl, rfl, rfl, rfl, rfl, trivial⟩, hsh.pick [0]⟩
                  · rw [if_neg c354] at H
                    replace c354 := Bool.eq_false_iff.2 c354
                    refine r_not hst 88 rfl rfl c354 rfl ?_; intro a hst
                    refine r_not hst 88 rfl rfl c354 rfl ?_; intro a hst
                    refine r_not hst 88 rfl rfl c354 rfl ?_; intro a hst
                    refine r_not hst 88 rfl rfl c354 rfl ?_; intro a hst
                    refine r_not hst 88 rfl rfl c354 rfl ?_; intro a hst
                    refine r_not hst 88 rfl rfl c354 rfl ?_; intro a hst
                    refine r_not hst 88 rfl rfl c354 rfl ?_; intro a hst
                    refine r_t hst (wt_of 81 rfl rfl c340) rfl (x_pickF hst rfl c354 rfl) ?_; intro a hst
                    exact hj _ _ ⟨false, H, hst.keep _ ⟨rfl, rfl, rfl, rfl, rfl, rfl, rfl, rfl, rfl, rfl, rfl, rfl, trivial⟩, hsh.pick [0]⟩
          · intro hj
            by_cases c336 : (sLt x335.Begin a1.Least) = true
            · rw [if_pos c336] at H
              refine r_not hst 68 rfl rfl c336 rfl ?_; intro a hst
              refine r_not hst 68 rfl rfl c336 rfl ?_; intro a hst
              refine r_not hst 68 rfl rfl c336 rfl ?_; intro a hst
              refine r_notU hst 71 rfl rfl rfl ?_; intro a hst
              refine r_notU hst 71 rfl rfl rfl ?_; intro a hst
              refine r_notU hst 71 rfl rfl rfl ?_; intro a hst
              refine r_notU hst 71 rfl rfl rfl ?_; intro a hst
              refine r_notU hst 71 rfl rfl rfl ?_; intro a hst
              refine r_notU hst 71 rfl rfl rfl ?_; intro a hst
              refine r_notU hst 71 rfl rfl rfl ?_; intro a hst
              refine r_not hst 68 rfl rfl c336 rfl ?_; intro a hst
              refine r_t hst trivial rfl (x_pickT hst rfl c336 rfl) ?_; intro a hst
              exact hj _ _ ⟨true, H, hst.keep _ ⟨rfl, rfl, rfl, rfl, rfl, rfl, rfl, rfl, rfl, rfl, rfl, trivial⟩, hsh.pick [0]⟩
            · rw [if_neg c336] at H
              replace c336 := Bool.eq_false_iff.2 c336
              refine r_t hst (wt_of 68 rfl rfl c336) rfl (x_move hst rfl) ?_; intro a hst
              refine r_t hst (wt_of 68 rfl rfl c336) rfl (x_cmpS (b := (!sEq a1.Limit (ByteArray.mk #[]))) hst rfl rfl rfl) ?_; intro a hst
              refine r_t hst (wt_of 68 rfl rfl c336) rfl (x_move hst rfl) ?_; intro a hst
              obtain ⟨J_415, hJ_415, H⟩ := Jn.elim H
              refine wl_join 19 (fun a w' => ∃ (b_414 : Bool), J_415 b_414 = some r ∧ ST Try.f3.ntmps a [(0, va0), (4, .bool false), (5, .string a1.Least), (6, .string a1.Limit), (9, v6), (10, .int .u64 r8.1), (11, .bool r8.2), (12, .int .u64 i_1), (13, .bool b_2), (14, .int .i64 i_280), (68, .bool (sLt x335.Begin a1.Least)), (79, .bool b_414)] ∧ SH (fun _ => False) w w' [Row k_Tomb 30 v6 r4]) ?_ ?_
              · rintro a W_416 ⟨b_414, H, hst, hsh⟩
                subst hJ_415
                dsimp only at H
                refine r_t hst trivial rfl (x_pickF hst rfl c336 rfl) ?_; intro a hst
                exact hj _ _ ⟨b_414, H, hst.keep _ ⟨rfl, rfl, rfl, rfl, rfl, rfl, rfl, rfl, rfl, rfl, rfl, trivial⟩, hsh.pick [0]⟩
              · intro hj
                by_cases c360 : (!sEq a1.Limit (ByteArray.mk #[])) = true
                · rw [if_pos c360] at H
                  refine r_t hst (wt_of 71 rfl rfl c360) rfl (x_move hst rfl) ?_; intro a hst
                  refine r_t hst (wt_of 71 rfl rfl c360) rfl (x_move hst rfl) ?_; intro a hst
                  obtain ⟨x362, hx362, H⟩ := Option.bind_eq_some_iff.1 H
                  refine r_t hst (wt_of 71 rfl rfl c360) rfl (x_indexAddr hst Try.underlying22 el_30 rfl rfl (hsh.row 0 rfl) hx362) ?_; intro a hst
                  refine r_t hst (wt_of 71 rfl rfl c360) rfl (x_fieldAddrE (n' := Int.toNat i_280 * k_Tomb.sz + 1) hst fa_30_1 rfl rfl) ?_; intro a hst
                  refine r_t hst (wt_of 71 rfl rfl c360) rfl (x_loadEF (j := 1) (cs := [.string x362.Begin, .string x362.End, .int .u64 x362.Seq]) hst sc_9 rfl (hsh.row 0 rfl) (Same.refl _ _) hx362 rfl (fun _ h => h) rfl) ?_; intro a hst
                  refine r_t hst (wt_of 71 rfl rfl c360) rfl (x_move hst rfl) ?_; intro a hst
                  refine r_t hst (wt_of 71 rfl rfl c360) rfl (x_cmpS (b := (!(sLt x362.End a1.Limit || sEq x362.End a1.Limit))) hst rfl rfl rfl) ?_; intro a hst
                  refine r_t hst (wt_of 68 rfl rfl c336) rfl (x_pickT hst rfl c360 rfl) ?_; intro a hst
                  exact hj _ _ ⟨(!(sLt x362.End a1.Limit || sEq x362.End a1.Limit)), H, hst.keep _ ⟨rfl, rfl, rfl, rfl, rfl, rfl, rfl, rfl, rfl, rfl, rfl, rfl, trivial⟩, hsh.pick [0]⟩
                · rw [if_neg c360] at H
                  replace c360 := Bool.eq_false_iff.2 c360
                  refine r_not hst 71 rfl rfl c360 rfl ?_; intro a hst
                  refine r_not hst 71 rfl rfl c360 rfl ?_; intro a hst
                  refine r_not hst 71 rfl rfl c360 rfl ?_; intro a hst
                  refine r_not hst 71 rfl rfl c360 rfl ?_; intro a hst
                  refine r_not hst 71 rfl rfl c360 rfl ?_; intro a hst
                  refine r_not hst 71 rfl rfl c360 rfl ?_; intro a hst
                  refine r_not hst 71 rfl rfl c360 rfl ?_; intro a hst
                  refine r_t hst (wt_of 68 rfl rfl c336) rfl (x_pickF hst rfl c360 rfl) ?_; intro a hst
                  exact hj _ _ ⟨false, H, hst.keep _ ⟨rfl, rfl, rfl, rfl, rfl, rfl, rfl, rfl, rfl, rfl, rfl, rfl, trivial⟩, hsh.pick [0]⟩
        · rw [if_neg c306] at H
          replace c306 := Bool.eq_false_iff.2 c306
          refine wp_condF hst rfl c306 ?_
          refine wp_exit ?_
          refine then_exit ?_
          refine then_exit ?_
          refine block_hit ?_
          refine then_normal ?_
          refine wp_seq ?_
          refine wp_region_lit ?_
          refine r_t hst trivial rfl (x_build (cs := [.string (ByteArray.mk #[97]), .string (ByteArray.mk #[100]), .int .u64 5]) hst rfl (by kernel_rfl)) ?_; intro a hst
          refine r_buildSlice (vs := [.agg #[.string (ByteArray.mk #[97]), .string (ByteArray.mk #[100]), .int .u64 5]]) (cs := [.string (ByteArray.mk #[97]), .string (ByteArray.mk #[100]), .int .u64 5]) hst hsh trivial rfl Try.underlying22 el_30 rfl rfl (by simp [Value.cells]) rfl rfl ?_
          intro g363 a w364 hgg363 hsh hst
          replace hsh := hsh.pick [0, 0]
          replace hsh : SH (fun _ => False) w w364 [Row k_Tomb 30 (.slice (some ⟨g363, 0, none⟩) 1 1) ([(⟨(ByteArray.mk #[97]), (ByteArray.mk #[100]), 5⟩ : Tomb)]), Row k_Tomb 30 v6 r4] := SH.boxRow ([(⟨(ByteArray.mk #[97]), (ByteArray.mk #[100]), 5⟩ : Tomb)] : List Tomb) hsh rfl rfl rfl
          obtain ⟨r366, hr366, H⟩ := Option.bind_eq_some_iff.1 H
          refine r_callD hst trivial rfl fn_7 rfl (tomb_Cut.calls k_350 _ _ _ _ (Same.refl _ _) _ (hsh.row 0 rfl) (ByteArray.mk #[98]) (ByteArray.mk #[99]) r366 hr366) ?_
          rintro e w367 ⟨v368, rfl, hc⟩
          replace hsh := hsh.call0 hc
          clear hc
          refine ⟨_, rfl, fun a hst => ?_⟩
          refine r_t hst trivial rfl (x_assign hst rfl) ?_; intro a hst
          refine wpList_nil ?_
          refine then_normal ?_
          refine wp_seq ?_
          refine wp_seq ?_
          refine wp_region_lit ?_
          refine r_t hst trivial rfl (x_move hst rfl) ?_; intro a hst
          refine r_t hst trivial rfl (x_lenSl hst Try.underlying22 rfl (hsh.row 0 rfl).slen) ?_; intro a hst
          refine r_t hst trivial rfl (x_cmpI (b := ((r366.length : Int) != 1)) hst rfl rfl rfl) ?_; intro a hst
          refine r_t hst trivial rfl (x_move hst rfl) ?_; intro a hst
          obtain ⟨J_421, hJ_421, H⟩ := Jn.elim H
          refine wl_join 10 (fun a w' => ∃ (b_420 : Bool), J_421 b_420 = some r ∧ ST Try.f3.ntmps a [(0, va0), (4, .bool false), (5, .string a1.Least), (6, .string a1.Limit), (9, v6), (10, .int .u64 r8.1), (11, .bool r8.2), (12, .int .u64 i_1), (13, .bool b_2), (119, .bool b_420)] ∧ SH (fun _ => False) w w' [Row k_Tomb 30 v6 r4]) ?_ ?_
          · rintro a W_422 ⟨b_420, H, hst, hsh⟩
            subst hJ_421
            dsimp only at H
            refine wpList_nil ?_
            refine then_normal ?_
            by_cases c376 : b_420 = true
            · rw [if_pos c376] at H
              refine wp_condT hst rfl c376 ?_
              refine wp_seq ?_
              refine wp_region_lit ?_
              refine r_t hst trivial rfl (x_assign hst rfl) ?_; intro a hst
              refine wpList_nil ?_
              refine then_normal ?_
              refine wp_ret ?_
              refine then_ret ?_
              obtain rfl := Option.some.inj H
              exact ret1 hst rfl rfl ⟨rfl, hsh.pick []⟩
            · rw [if_neg c376] at H
              replace c376 := Bool.eq_false_iff.2 c376
              refine wp_condF hst rfl c376 ?_
              refine wp_skip ?_
              refine then_normal ?_
              refine wp_seq ?_
              refine wp_region_lit ?_
              refine r_t hst trivial rfl (x_move hst rfl) ?_; intro a hst
              refine r_t hst trivial rfl (x_lenStr hst Try.underlying9 rfl) ?_; intro a hst
              refine r_t hst trivial rfl (x_cmpI (b := decide (1024 < (a1.Least.size : Int))) hst rfl rfl rfl) ?_; intro a hst
              refine r_t hst trivial rfl (x_move hst rfl) ?_; intro a hst
              refine wl_join0 (N := Try.f3.ntmps) 8 [(0, va0), (4, .bool false), (9, v6), (10, .int .u64 r8.1), (11, .bool r8.2), (12, .int .u64 i_1), (13, .bool b_2), (127, .bool ((decide (1024 < (a1.Least.size : Int))) || (decide (1025 < (a1.Limit.size : Int)))))] ?_ ?_
              · intro a hst
                refine r_t hst trivial rfl (x_assign hst rfl) ?_; intro a hst
                refine wpList_nil ?_
                refine then_normal ?_
                refine wp_seq ?_
                refine wp_region_lit ?_
                refine r_t hst trivial rfl (x_move hst rfl) ?_; intro a hst
                refine r_t hst trivial rfl (x_lenSl hst Try.underlying22 rfl (hsh.row 0 rfl).slen) ?_; intro a hst
                refine r_t hst trivial rfl (x_move hst rfl) ?_; intro a hst
                refine r_t hst trivial rfl (x_lenSl hst Try.underlying22 rfl hra0.slen) ?_; intro a hst
                refine r_t hst trivial rfl (x_cmpI (b := decide ((r4.length : Int) ≤ (a0.length : Int))) hst rfl rfl rfl) ?_; intro a hst
                refine r_t hst trivial rfl (x_move hst rfl) ?_; intro a hst
                refine wl_join0 (N := Try.f3.ntmps) 18 [(4, .bool false), (145, .bool ((decide ((r4.length : Int) ≤ (a0.length : Int))) && (((decide (1024 < (a1.Least.size : Int))) || (decide (1025 < (a1.Limit.size : Int)))) || ((r8.1 == i_1) && (r8.2 == b_2)))))] ?_ ?_
                · intro a hst
                  refine r_t hst trivial rfl (x_assign hst rfl) ?_; intro a hst
                  refine wpList_nil ?_
                  refine then_normal ?_
                  refine wp_ret ?_
                  obtain rfl := Option.some.inj H
                  exact ret1 hst rfl rfl ⟨rfl, hsh.pick []⟩
                · intro hj
                  by_cases c378 : (decide ((r4.length : Int) ≤ (a0.length : Int))) = true
                  · refine r_t hst (wt_of 133 rfl rfl c378) rfl (x_move hst rfl) ?_; intro a hst
                    refine r_t hst (wt_of 133 rfl rfl c378) rfl (x_move hst rfl) ?_; intro a hst
                    refine wl_join0 (N := Try.f3.ntmps) 17 [(4, .bool false), (133, .bool (decide ((r4.length : Int) ≤ (a0.length : Int)))), (144, .bool (((decide (1024 < (a1.Least.size : Int))) || (decide (1025 < (a1.Limit.size : Int)))) || ((r8.1 == i_1) && (r8.2 == b_2))))] ?_ ?_
                    · intro a hst
                      refine r_t hst trivial rfl (x_andT hst rfl c378 rfl) ?_; intro a hst
                      exact hj _ (hst.keep _ ⟨rfl, rfl, trivial⟩)
                    · intro hj
                      by_cases c379 : ((decide (1024 < (a1.Least.size : Int))) || (decide (1025 < (a1.Limit.size : Int)))) = true
                      · refine r_not hst 135 rfl rfl c379 rfl ?_; intro a hst
                        refine r_not hst 135 rfl rfl c379 rfl ?_; intro a hst
                        refine r_not hst 135 rfl rfl c379 rfl ?_; intro a hst
                        refine r_not hst 135 rfl rfl c379 rfl ?_; intro a hst
                        refine r_notU hst 139 rfl rfl rfl ?_; intro a hst
                        refine r_notU hst 139 rfl rfl rfl ?_; intro a hst
                        refine r_notU hst 139 rfl rfl rfl ?_; intro a hst
                        refine r_not hst 135 rfl rfl c379 rfl ?_; intro a hst
                        refine r_t hst (wt_of 133 rfl rfl c378) rfl (x_orT ((r8.1 == i_1) && (r8.2 == b_2)) hst rfl c379 rfl) ?_; intro a hst
                        exact hj _ (hst.keep _ ⟨rfl, rfl, rfl, trivial⟩)
                      · replace c379 := Bool.eq_false_iff.2 c379
                        refine r_t hst (wt_of 135 rfl rfl c379) rfl (x_move hst rfl) ?_; intro a hst
                        refine r_t hst (wt_of 135 rfl rfl c379) rfl (x_move hst rfl) ?_; intro a hst
                        refine r_t hst (wt_of 135 rfl rfl c379) rfl (x_cmpI (b := (r8.1 == i_1)) hst rfl rfl rfl) ?_; intro a hst
                        refine r_t hst (wt_of 135 rfl rfl c379) rfl (x_move hst rfl) ?_; intro a hst
                        refine wl_join0 (N := Try.f3.ntmps) 16 [(4, .bool false), (133, .bool (decide ((r4.length : Int) ≤ (a0.length : Int)))), (135, .bool ((decide (1024 < (a1.Least.size : Int))) || (decide (1025 < (a1.Limit.size : Int))))), (143, .bool ((r8.1 == i_1) && (r8.2 == b_2)))] ?_ ?_
                        · intro a hst
                          refine r_t hst (wt_of 133 rfl rfl c378) rfl (x_orF hst rfl c379 rfl) ?_; intro a hst
                          exact hj _ (hst.keep _ ⟨rfl, rfl, rfl, trivial⟩)
                        · intro hj
                          by_cases c380 : (r8.1 == i_1) = true
                          · refine r_t hst (wt_of 139 rfl rfl c380) rfl (x_move hst rfl) ?_; intro a hst
                            refine r_t hst (wt_of 139 rfl rfl c380) rfl (x_move hst rfl) ?_; intro a hst
                            refine r_t hst (wt_of 139 rfl rfl c380) rfl (x_eqB (b := (r8.2 == b_2)) hst Try.underlying4 rfl rfl rfl) ?_; intro a hst
                            refine r_t hst (wt_of 135 rfl rfl c379) rfl (x_andT hst rfl c380 rfl) ?_; intro a hst
                            exact hj _ (hst.keep _ ⟨rfl, rfl, rfl, rfl, trivial⟩)
                          · replace c380 := Bool.eq_false_iff.2 c380
                            refine r_not hst 139 rfl rfl c380 rfl ?_; intro a hst
                            refine r_not hst 139 rfl rfl c380 rfl ?_; intro a hst
                            refine r_not hst 139 rfl rfl c380 rfl ?_; intro a hst
                            refine r_t hst (wt_of 135 rfl rfl c379) rfl (x_andF (r8.2 == b_2) hst rfl c380 rfl) ?_; intro a hst
                            exact hj _ (hst.keep _ ⟨rfl, rfl, rfl, rfl, trivial⟩)
                  · replace c378 := Bool.eq_false_iff.2 c378
                    refine r_not hst 133 rfl rfl c378 rfl ?_; intro a hst
                    refine r_not hst 133 rfl rfl c378 rfl ?_; intro a hst
                    refine r_notU hst 135 rfl rfl rfl ?_; intro a hst
                    refine r_notU hst 135 rfl rfl rfl ?_; intro a hst
                    refine r_notU hst 135 rfl rfl rfl ?_; intro a hst
                    refine r_notU hst 135 rfl rfl rfl ?_; intro a hst
                    refine r_notU hst 139 rfl rfl rfl ?_; intro a hst
                    refine r_notU hst 139 rfl rfl rfl ?_; intro a hst
                    refine r_notU hst 139 rfl rfl rfl ?_; intro a hst
                    refine r_notU hst 135 rfl rfl rfl ?_; intro a hst
                    refine r_not hst 133 rfl rfl c378 rfl ?_; intro a hst
                    refine r_t hst trivial rfl (x_andF (((decide (1024 < (a1.Least.size : Int))) || (decide (1025 < (a1.Limit.size : Int)))) || ((r8.1 == i_1) && (r8.2 == b_2))) hst rfl c378 rfl) ?_; intro a hst
                    exact hj _ (hst.keep _ ⟨rfl, rfl, trivial⟩)
              · intro hj
                by_cases c377 : (decide (1024 < (a1.Least.size : Int))) = true
                · refine r_not hst 123 rfl rfl c377 rfl ?_; intro a hst
                  refine r_not hst 123 rfl rfl c377 rfl ?_; intro a hst
                  refine r_not hst 123 rfl rfl c377 rfl ?_; intro a hst
                  refine r_t hst trivial rfl (x_orT (decide (1025 < (a1.Limit.size : Int))) hst rfl c377 rfl) ?_; intro a hst
                  exact hj _ (hst.keep _ ⟨rfl, rfl, rfl, rfl, rfl, rfl, rfl, rfl, trivial⟩)
                · replace c377 := Bool.eq_false_iff.2 c377
                  refine r_t hst (wt_of 123 rfl rfl c377) rfl (x_move hst rfl) ?_; intro a hst
                  refine r_t hst (wt_of 123 rfl rfl c377) rfl (x_lenStr hst Try.underlying9 rfl) ?_; intro a hst
                  refine r_t hst (wt_of 123 rfl rfl c377) rfl (x_cmpI (b := decide (1025 < (a1.Limit.size : Int))) hst rfl rfl rfl) ?_; intro a hst
                  refine r_t hst trivial rfl (x_orF hst rfl c377 rfl) ?_; intro a hst
                  exact hj _ (hst.keep _ ⟨rfl, rfl, rfl, rfl, rfl, rfl, rfl, rfl, trivial⟩)
          · intro hj
            by_cases c374 : ((r366.length : Int) != 1) = true
            · rw [if_pos c374] at H
              refine r_not hst 113 rfl rfl c374 rfl ?_; intro a hst
              refine r_not hst 113 rfl rfl c374 rfl ?_; intro a hst
              refine r_not hst 113 rfl rfl c374 rfl ?_; intro a hst
              refine r_not hst 113 rfl rfl c374 rfl ?_; intro a hst
              refine r_not hst 113 rfl rfl c374 rfl ?_; intro a hst
              refine r_t hst trivial rfl (x_pickT hst rfl c374 rfl) ?_; intro a hst
              exact hj _ _ ⟨true, H, hst.keep _ ⟨rfl, rfl, rfl, rfl, rfl, rfl, rfl, rfl, rfl, rfl, trivial⟩, hsh.pick [2]⟩
            · rw [if_neg c374] at H
              replace c374 := Bool.eq_false_iff.2 c374
              refine r_t hst (wt_of 113 rfl rfl c374) rfl (x_move hst rfl) ?_; intro a hst
              obtain ⟨x381, hx381, H⟩ := Option.bind_eq_some_iff.1 H
              refine r_t hst (wt_of 113 rfl rfl c374) rfl (x_indexAddr hst Try.underlying22 el_30 rfl rfl (hsh.row 0 rfl) hx381) ?_; intro a hst
              refine r_t hst (wt_of 113 rfl rfl c374) rfl (x_loadEsF (j := 0) (cs := [.string x381.Begin, .string x381.End, .int .u64 x381.Seq]) (ps := [.string x381.Begin, .string x381.End, .int .u64 x381.Seq]) hst ag_30 rfl (hsh.row 0 rfl) (Same.refl _ _) hx381 rfl (fun _ h => h) rfl) ?_; intro a hst
              refine r_t hst (wt_of 113 rfl rfl c374) rfl (x_build (cs := [.string (ByteArray.mk #[98]), .string (ByteArray.mk #[99]), .int .u64 5]) hst rfl (by kernel_rfl)) ?_; intro a hst
              refine r_t hst (wt_of 113 rfl rfl c374) rfl (x_eqSn (b := Tomb.eqb x381 (⟨(ByteArray.mk #[98]), (ByteArray.mk #[99]), 5⟩ : Tomb)) (x0 := x381) (y0 := (⟨(ByteArray.mk #[98]), (ByteArray.mk #[99]), 5⟩ : Tomb)) hst eqof_30 rfl rfl rfl) ?_; intro a hst
              refine r_t hst trivial rfl (x_pickF hst rfl c374 rfl) ?_; intro a hst
              exact hj _ _ ⟨(!Tomb.eqb x381 (⟨(ByteArray.mk #[98]), (ByteArray.mk #[99]), 5⟩ : Tomb)), H, hst.keep _ ⟨rfl, rfl, rfl, rfl, rfl, rfl, rfl, rfl, rfl, rfl, trivial⟩, hsh.pick [2]⟩
  · refine wp_seq ?_
    refine wp_region_lit ?_
    refine r_t hst trivial rfl (x_move hst rfl) ?_; intro a hst
    refine r_t hst trivial rfl (x_move hst rfl) ?_; intro a hst
    refine r_t hst trivial rfl (x_cmpS (b := sLt a1.Key a1.Least) hst rfl rfl rfl) ?_; intro a hst
    refine r_t hst trivial rfl (x_move hst rfl) ?_; intro a hst
    refine wl_join0 (N := Try.f3.ntmps) 12 [(0, va0), (4, .bool false), (5, .string a1.Least), (6, .string a1.Limit), (9, v6), (10, .int .u64 r8.1), (11, .bool r8.2), (12, .int .u64 r10.1), (13, .bool r10.2), (54, .bool ((sLt a1.Key a1.Least) || ((!sEq a1.Limit (ByteArray.mk #[])) && (!sLt a1.Key a1.Limit))))] ?_ ?_
    · intro a hst
      refine wpList_nil ?_
      refine then_normal ?_
      by_cases c383 : ((sLt a1.Key a1.Least) || ((!sEq a1.Limit (ByteArray.mk #[])) && (!sLt a1.Key a1.Limit))) = true
      · rw [if_pos c383] at H
        refine wp_condT hst rfl c383 ?_
        refine wp_region_lit ?_
        refine r_t hst trivial rfl (x_assign hst rfl) ?_; intro a hst
        refine r_t hst trivial rfl (x_assign hst rfl) ?_; intro a hst
        refine wpList_nil ?_
        refine then_normal ?_
        exact ⟨0, false, H, hst.keep _ ⟨rfl, rfl, rfl, rfl, rfl, rfl, rfl, rfl, rfl, trivial⟩, hsh.pick [0]⟩
      · rw [if_neg c383] at H
        replace c383 := Bool.eq_false_iff.2 c383
        refine wp_condF hst rfl c383 ?_
        refine wp_skip ?_
        refine then_normal ?_
        exact ⟨r10.1, r10.2, H, hst.keep _ ⟨rfl, rfl, rfl, rfl, rfl, rfl, rfl, rfl, rfl, trivial⟩, hsh.pick [0]⟩
    · intro hj
      by_cases c382 : (sLt a1.Key a1.Least) = true
      · refine r_not hst 46 rfl rfl c382 rfl ?_; intro a hst
        refine r_not hst 46 rfl rfl c382 rfl ?_; intro a hst
        refine r_not hst 46 rfl rfl c382 rfl ?_; intro a hst
        refine r_notU hst 49 rfl rfl rfl ?_; intro a hst
        refine r_notU hst 49 rfl rfl rfl ?_; intro a hst
        refine r_notU hst 49 rfl rfl rfl ?_; intro a hst
        refine r_not hst 46 rfl rfl c382 rfl ?_; intro a hst
        refine r_t hst trivial rfl (x_orT ((!sEq a1.Limit (ByteArray.mk #[])) && (!sLt a1.Key a1.Limit)) hst rfl c382 rfl) ?_; intro a hst
        exact hj _ (hst.keep _ ⟨rfl, rfl, rfl, rfl, rfl, rfl, rfl, rfl, rfl, rfl, trivial⟩)
      · replace c382 := Bool.eq_false_iff.2 c382
        refine r_t hst (wt_of 46 rfl rfl c382) rfl (x_move hst rfl) ?_; intro a hst
        refine r_t hst (wt_of 46 rfl rfl c382) rfl (x_cmpS (b := (!sEq a1.Limit (ByteArray.mk #[]))) hst rfl rfl rfl) ?_; intro a hst
        refine r_t hst (wt_of 46 rfl rfl c382) rfl (x_move hst rfl) ?_; intro a hst
        refine wl_join0 (N := Try.f3.ntmps) 11 [(0, va0), (4, .bool false), (5, .string a1.Least), (6, .string a1.Limit), (9, v6), (10, .int .u64 r8.1), (11, .bool r8.2), (12, .int .u64 r10.1), (13, .bool r10.2), (46, .bool (sLt a1.Key a1.Least)), (53, .bool ((!sEq a1.Limit (ByteArray.mk #[])) && (!sLt a1.Key a1.Limit)))] ?_ ?_
        · intro a hst
          refine r_t hst trivial rfl (x_orF hst rfl c382 rfl) ?_; intro a hst
          exact hj _ (hst.keep _ ⟨rfl, rfl, rfl, rfl, rfl, rfl, rfl, rfl, rfl, rfl, trivial⟩)
        · intro hj
          by_cases c384 : (!sEq a1.Limit (ByteArray.mk #[])) = true
          · refine r_t hst (wt_of 49 rfl rfl c384) rfl (x_move hst rfl) ?_; intro a hst
            refine r_t hst (wt_of 49 rfl rfl c384) rfl (x_move hst rfl) ?_; intro a hst
            refine r_t hst (wt_of 49 rfl rfl c384) rfl (x_cmpS (b := (!sLt a1.Key a1.Limit)) hst rfl rfl rfl) ?_; intro a hst
            refine r_t hst (wt_of 46 rfl rfl c382) rfl (x_andT hst rfl c384 rfl) ?_; intro a hst
            exact hj _ (hst.keep _ ⟨rfl, rfl, rfl, rfl, rfl, rfl, rfl, rfl, rfl, rfl, rfl, trivial⟩)
          · replace c384 := Bool.eq_false_iff.2 c384
            refine r_not hst 49 rfl rfl c384 rfl ?_; intro a hst
            refine r_not hst 49 rfl rfl c384 rfl ?_; intro a hst
            refine r_not hst 49 rfl rfl c384 rfl ?_; intro a hst
            refine r_t hst (wt_of 46 rfl rfl c382) rfl (x_andF (!sLt a1.Key a1.Limit) hst rfl c384 rfl) ?_; intro a hst
            exact hj _ (hst.keep _ ⟨rfl, rfl, rfl, rfl, rfl, rfl, rfl, rfl, rfl, rfl, rfl, trivial⟩)
end Go.Proofs.Ytmbhgfigffahbaa.Mo
