/- Printed by gen.py: contracts. -/
import Derived.Test.YtckjpkecipgeiaaPkCa0
set_option linter.unusedVariables false
set_option linter.unusedSimpArgs false
set_option maxRecDepth 100000
namespace Go.Proofs.Ytckjpkecipgeiaa.Mo
open Go Go.Proofs.Ytckjpkecipgeiaa.Sy
open Go.Proofs
set_option maxHeartbeats 4000000 in
set_option maxRecDepth 100000 in
theorem l22_works.calls (k : Nat) (w : World)  (r : Bool) (h : l22_works k = some r) :
    Calls Try.prog 10 ([] : List Value).toArray w fun e w' => e = .returned (.bool r) ∧ SH (fun _ => False) w w' [] := by
  have H := h
  clear h
  unfold l22_works at H
  refine calls_enter Try.func10 rfl rfl ?_
  intro a hst
  have hsh := SH.zero (fun _ => False) w
  refine wp_seq ?_
  refine wp_region_lit ?_
  refine r_t hst trivial rfl (x_assign hst rfl) ?_; intro a hst
  refine wpList_nil ?_
  refine then_normal ?_
  refine wp_seq ?_
  refine wp_region_lit ?_
  obtain ⟨r1, hr1, H⟩ := Option.bind_eq_some_iff.1 H
  refine r_callD hst trivial rfl fn_36 rfl (l22_file.calls _ 4 (ByteArray.mk #[97]) (ByteArray.mk #[99]) 10 r1 hr1) ?_
  rintro e w2 ⟨rfl, hc⟩
  replace hsh := hsh.call0 hc
  clear hc
  refine ⟨_, rfl, fun a hst => ?_⟩
  obtain ⟨r3, hr3, H⟩ := Option.bind_eq_some_iff.1 H
  refine r_callD hst trivial rfl fn_36 rfl (l22_file.calls _ 6 (ByteArray.mk #[100]) (ByteArray.mk #[101]) 10 r3 hr3) ?_
  rintro e w4 ⟨rfl, hc⟩
  replace hsh := hsh.call0 hc
  clear hc
  refine ⟨_, rfl, fun a hst => ?_⟩
  obtain ⟨r5, hr5, H⟩ := Option.bind_eq_some_iff.1 H
  refine r_callD hst trivial rfl fn_36 rfl (l22_file.calls _ 7 (ByteArray.mk #[98]) (ByteArray.mk #[100]) 10 r5 hr5) ?_
  rintro e w6 ⟨rfl, hc⟩
  replace hsh := hsh.call0 hc
  clear hc
  refine ⟨_, rfl, fun a hst => ?_⟩
  refine r_buildSlice (vs := [.agg #[.int .i64 r1.Number, .int .i64 r1.Size, .string r1.Least, .string r1.Limit, .int .u64 r1.Low, .int .u64 r1.High], .agg #[.int .i64 r3.Number, .int .i64 r3.Size, .string r3.Least, .string r3.Limit, .int .u64 r3.Low, .int .u64 r3.High], .agg #[.int .i64 r5.Number, .int .i64 r5.Size, .string r5.Least, .string r5.Limit, .int .u64 r5.Low, .int .u64 r5.High]]) (cs := [.int .i64 r1.Number, .int .i64 r1.Size, .string r1.Least, .string r1.Limit, .int .u64 r1.Low, .int .u64 r1.High, .int .i64 r3.Number, .int .i64 r3.Size, .string r3.Least, .string r3.Limit, .int .u64 r3.Low, .int .u64 r3.High, .int .i64 r5.Number, .int .i64 r5.Size, .string r5.Least, .string r5.Limit, .int .u64 r5.Low, .int .u64 r5.High]) hst hsh trivial rfl Try.underlying31 el_43 rfl rfl (by simp [Value.cells]) rfl rfl ?_
  intro g7 a w8 hgg7 hsh hst
  replace hsh := hsh.pick [0]
  replace hsh : SH (fun _ => False) w w8 [Row k_File 43 (.slice (some ⟨g7, 0, none⟩) 3 3) ([r1, r3, r5])] := SH.boxRow ([r1, r3, r5] : List File) hsh rfl rfl rfl
  obtain ⟨r10, hr10, H⟩ := Option.bind_eq_some_iff.1 H
  refine r_callD hst trivial rfl fn_36 rfl (l22_file.calls _ 2 (ByteArray.mk #[97]) (ByteArray.mk #[98]) 30 r10 hr10) ?_
  rintro e w11 ⟨rfl, hc⟩
  replace hsh := hsh.call0 hc
  clear hc
  refine ⟨_, rfl, fun a hst => ?_⟩
  obtain ⟨r12, hr12, H⟩ := Option.bind_eq_some_iff.1 H
  refine r_callD hst trivial rfl fn_36 rfl (l22_file.calls _ 3 (ByteArray.mk #[120]) (ByteArray.mk #[122]) 30 r12 hr12) ?_
  rintro e w13 ⟨rfl, hc⟩
  replace hsh := hsh.call0 hc
  clear hc
  refine ⟨_, rfl, fun a hst => ?_⟩
  refine r_buildSlice (vs := [.agg #[.int .i64 r10.Number, .int .i64 r10.Size, .string r10.Least, .string r10.Limit, .int .u64 r10.Low, .int .u64 r10.High], .agg #[.int .i64 r12.Number, .int .i64 r12.Size, .string r12.Least, .string r12.Limit, .int .u64 r12.Low, .int .u64 r12.High]]) (cs := [.int .i64 r10.Number, .int .i64 r10.Size, .string r10.Least, .string r10.Limit, .int .u64 r10.Low, .int .u64 r10.High, .int .i64 r12.Number, .int .i64 r12.Size, .string r12.Least, .string r12.Limit, .int .u64 r12.Low, .int .u64 r12.High]) hst hsh trivial rfl Try.underlying31 el_43 rfl rfl (by simp [Value.cells]) rfl rfl ?_
  intro g14 a w15 hgg14 hsh hst
  replace hsh := hsh.pick [0, 0]
  replace hsh : SH (fun _ => False) w w15 [Row k_File 43 (.slice (some ⟨g14, 0, none⟩) 2 2) ([r10, r12]), Row k_File 43 (.slice (some ⟨g7, 0, none⟩) 3 3) ([r1, r3, r5])] := SH.boxRow ([r10, r12] : List File) hsh rfl rfl rfl
  refine r_buildSlice (vs := [(.slice (some ⟨g7, 0, none⟩) 3 3), (.slice (some ⟨g14, 0, none⟩) 2 2), (.slice none 0 0)]) (cs := [(.slice (some ⟨g7, 0, none⟩) 3 3), (.slice (some ⟨g14, 0, none⟩) 2 2), (.slice none 0 0)]) hst hsh trivial rfl Try.underlying23 el_31 rfl rfl (by simp [cells_sl, cells_slen (hsh.row 1 rfl).slen, cells_slen (hsh.row 0 rfl).slen]) rfl (by simp [cells_sl, cells_slen (hsh.row 1 rfl).slen, cells_slen (hsh.row 0 rfl).slen]) ?_
  intro g17 a w18 hgg17 hsh hst
  replace hsh := hsh.pick [0, 1, 0]
  replace hsh : SH (fun _ => False) w w18 [Row (Kd.slice 43 k_File) 31 (.slice (some ⟨g17, 0, none⟩) 3 3) ([[r1, r3, r5], [r10, r12], []])] := SH.boxRowM (C := [Row k_File 43 (.slice (some ⟨g7, 0, none⟩) 3 3) ([r1, r3, r5]), Row k_File 43 (.slice (some ⟨g14, 0, none⟩) 2 2) ([r10, r12])]) ([[r1, r3, r5], [r10, r12], []] : List (List File)) hsh (ef_cons mf_slice (ef_cons mf_slice (ef_cons mf_nil ef_nil))) rfl rfl (by decide)
  refine r_t hst trivial rfl (x_assign hst rfl) ?_; intro a hst
  refine wpList_nil ?_
  refine then_normal ?_
  refine wp_seq ?_
  refine wp_region_lit ?_
  refine r_t hst trivial rfl (x_build (cs := [.int .i64 0, .int .i64 0, .int .i64 0, .int .i64 0, .int .i64 0, .int .i64 0, .int .i64 50, .int .i64 2, .int .i64 0, .int .i64 100, .int .i64 10, .int .i64 3, .int .i64 0, .int .i64 0, .int .i64 0, (.slice none 0 0)]) hst rfl (by kernel_rfl)) ?_; intro a hst
  refine r_alloc hst hsh trivial rfl zr_28 ?_
  intro g20 a w21 hgg20 hsh hst
  refine r_storeBs (i := 0) (cs' := [.int .i64 0, .int .i64 0, .int .i64 0, .int .i64 0, .int .i64 0, .int .i64 0, .int .i64 50, .int .i64 2, .int .i64 0, .int .i64 100, .int .i64 10, .int .i64 3, .int .i64 0, .int .i64 0, .int .i64 0, (.slice none 0 0)]) (vs := [.int .i64 0, .int .i64 0, .int .i64 0, .int .i64 0, .int .i64 0, .int .i64 0, .int .i64 50, .int .i64 2, .int .i64 0, .int .i64 100, .int .i64 10, .int .i64 3, .int .i64 0, .int .i64 0, .int .i64 0, (.slice none 0 0)]) hst hsh trivial ag_28 rfl rfl rfl rfl (one_cons rfl (one_cons rfl (one_cons rfl (one_cons rfl (one_cons rfl (one_cons rfl (one_cons rfl (one_cons rfl (one_cons rfl (one_cons rfl (one_cons rfl (one_cons rfl (one_cons rfl (one_cons rfl (one_cons rfl (one_cons rfl rfl)))))))))))))))) rfl ?_; intro a w22 hsh hst
  refine wpList_nil ?_
  refine then_normal ?_
  refine wp_seq ?_
  refine wp_region_lit ?_
  refine r_t hst trivial rfl (x_move hst rfl) ?_; intro a hst
  refine r_t hst trivial rfl (x_loadBs (i := 0) (ps := [.int .i64 0, .int .i64 0, .int .i64 0, .int .i64 0, .int .i64 0, .int .i64 0, .int .i64 50, .int .i64 2, .int .i64 0, .int .i64 100, .int .i64 10, .int .i64 3, .int .i64 0, .int .i64 0, .int .i64 0, (.slice none 0 0)]) hst hsh ag_28 rfl rfl rfl) ?_; intro a hst
  obtain ⟨r23, hr23, H⟩ := Option.bind_eq_some_iff.1 H
  refine r_callD hst trivial rfl fn_8 rfl (pick_Next.calls k _ _ _ _ (Same.refl _ _) _ (hsh.row 1 rfl) (⟨0, 0, 0, (⟨0, 0, 0⟩ : Shape), 50, 2, 0, 100, 10, 3, 0, 0, 0, []⟩ : Config) _ _ _ (Same.refl _ _) (RD.nil (Kd.int .i64) (fun _ => True) _) _ _ _ (Same.refl _ _) _ (RD.nil Kd.str (fun _ => True) _) r23 hr23) ?_
  rintro e w24 ⟨v25, v27, rfl, hc⟩
  replace hsh := hsh.call0 hc
  clear hc
  refine ⟨_, rfl, fun a hst => ?_⟩
  refine r_t hst trivial rfl (x_move hst rfl) ?_; intro a hst
  refine r_t hst trivial rfl (x_extract hst rfl rfl) ?_; intro a hst
  refine r_t hst trivial rfl (x_extract hst rfl rfl) ?_; intro a hst
  refine r_alloc hst hsh trivial rfl zr_33 ?_
  intro g29 a w30 hgg29 hsh hst
  refine r_storeBs (i := 0) (cs' := [.int .i64 r23.1.Level, v25, v27, .bool r23.1.Trivial]) (vs := [.int .i64 r23.1.Level, v25, v27, .bool r23.1.Trivial]) hst hsh trivial ag_33 rfl rfl rfl rfl (one_cons rfl (one_cons (one_slice (hsh.row 1 rfl).slen) (one_cons (one_slice (hsh.row 2 rfl).slen) (one_cons rfl rfl)))) rfl ?_; intro a w31 hsh hst
  refine r_t hst trivial rfl (x_assign hst rfl) ?_; intro a hst
  refine wpList_nil ?_
  refine then_normal ?_
  refine wp_seq ?_
  refine wp_region_lit ?_
  refine r_t hst trivial rfl (x_move hst rfl) ?_; intro a hst
  refine r_t hst trivial rfl (x_move hst rfl) ?_; intro a hst
  obtain ⟨J_2, hJ_2, H⟩ := Jn.elim H
  refine wl_join 7 (fun a w' => ∃ (b_1 : Bool), J_2 b_1 = some r ∧ ST Try.f10.ntmps a [(0, .bool false), (1, (.slice (some ⟨g17, 0, none⟩) 3 3)), (2, .pointer (some ⟨g20, 0, none⟩)), (3, .pointer (some ⟨g29, 0, none⟩)), (26, .bool b_1)] ∧ SH (fun _ => False) w w' [Row (Kd.slice 43 k_File) 31 (.slice (some ⟨g17, 0, none⟩) 3 3) ([[r1, r3, r5], [r10, r12], []]), Box g20 [.int .i64 0, .int .i64 0, .int .i64 0, .int .i64 0, .int .i64 0, .int .i64 0, .int .i64 50, .int .i64 2, .int .i64 0, .int .i64 100, .int .i64 10, .int .i64 3, .int .i64 0, .int .i64 0, .int .i64 0, (.slice none 0 0)] 28, Box g29 [.int .i64 r23.1.Level, v25, v27, .bool r23.1.Trivial] 33, Row k_File 43 v25 r23.1.Upper, Row k_File 43 v27 r23.1.Lower]) ?_ ?_
  · rintro a W_3 ⟨b_1, H, hst, hsh⟩
    subst hJ_2
    dsimp only at H
    refine r_t hst trivial rfl (x_move hst rfl) ?_; intro a hst
    obtain ⟨J_5, hJ_5, H⟩ := Jn.elim H
    refine wl_join 13 (fun a w' => ∃ (b_4 : Bool), J_5 b_4 = some r ∧ ST Try.f10.ntmps a [(0, .bool false), (3, .pointer (some ⟨g29, 0, none⟩)), (32, .bool b_4)] ∧ SH (fun _ => False) w w' [Box g29 [.int .i64 r23.1.Level, v25, v27, .bool r23.1.Trivial] 33, Row k_File 43 v25 r23.1.Upper, Row k_File 43 v27 r23.1.Lower]) ?_ ?_
    · rintro a W_6 ⟨b_4, H, hst, hsh⟩
      subst hJ_5
      dsimp only at H
      refine r_t hst trivial rfl (x_move hst rfl) ?_; intro a hst
      refine wl_join0 (N := Try.f10.ntmps) 18 [(0, .bool false), (3, .pointer (some ⟨g29, 0, none⟩)), (37, .bool (b_4 && (r23.1.Level == 0)))] ?_ ?_
      · intro a hst
        refine r_t hst trivial rfl (x_move hst rfl) ?_; intro a hst
        refine wl_join0 (N := Try.f10.ntmps) 24 [(0, .bool false), (3, .pointer (some ⟨g29, 0, none⟩)), (43, .bool ((b_4 && (r23.1.Level == 0)) && ((r23.1.Upper.length : Int) == 2)))] ?_ ?_
        · intro a hst
          refine r_t hst trivial rfl (x_move hst rfl) ?_; intro a hst
          obtain ⟨J_8, hJ_8, H⟩ := Jn.elim H
          refine wl_join 32 (fun a w' => ∃ (b_7 : Bool), J_8 b_7 = some r ∧ ST Try.f10.ntmps a [(0, .bool false), (3, .pointer (some ⟨g29, 0, none⟩)), (51, .bool b_7)] ∧ SH (fun _ => False) w w' [Box g29 [.int .i64 r23.1.Level, v25, v27, .bool r23.1.Trivial] 33, Row k_File 43 v25 r23.1.Upper, Row k_File 43 v27 r23.1.Lower]) ?_ ?_
          · rintro a W_9 ⟨b_7, H, hst, hsh⟩
            subst hJ_8
            dsimp only at H
            refine r_t hst trivial rfl (x_move hst rfl) ?_; intro a hst
            refine wl_join0 (N := Try.f10.ntmps) 38 [(0, .bool false), (3, .pointer (some ⟨g29, 0, none⟩)), (57, .bool (b_7 && ((r23.1.Lower.length : Int) == 1)))] ?_ ?_
            · intro a hst
              refine r_t hst trivial rfl (x_move hst rfl) ?_; intro a hst
              obtain ⟨J_11, hJ_11, H⟩ := Jn.elim H
              refine wl_join 46 (fun a w' => ∃ (b_10 : Bool), J_11 b_10 = some r ∧ ST Try.f10.ntmps a [(0, .bool false), (3, .pointer (some ⟨g29, 0, none⟩)), (65, .bool b_10)] ∧ SH (fun _ => False) w w' [Box g29 [.int .i64 r23.1.Level, v25, v27, .bool r23.1.Trivial] 33, Row k_File 43 v25 r23.1.Upper, Row k_File 43 v27 r23.1.Lower]) ?_ ?_
              · rintro a W_12 ⟨b_10, H, hst, hsh⟩
                subst hJ_11
                dsimp only at H
                refine r_t hst trivial rfl (x_move hst rfl) ?_; intro a hst
                refine wl_join0 (N := Try.f10.ntmps) 51 [(0, .bool false), (70, .bool (b_10 && (!r23.1.Trivial)))] ?_ ?_
                · intro a hst
                  refine r_t hst trivial rfl (x_assign hst rfl) ?_; intro a hst
                  refine wpList_nil ?_
                  refine then_normal ?_
                  refine wp_ret ?_
                  obtain rfl := Option.some.inj H
                  exact ret1 hst rfl rfl ⟨rfl, hsh.pick []⟩
                · intro hj
                  by_cases c45 : b_10 = true
                  · refine r_t hst (wt_of 66 rfl rfl c45) rfl (x_fieldAddr (j' := 3) hst fa_33_3 rfl rfl) ?_; intro a hst
                    refine r_t hst (wt_of 66 rfl rfl c45) rfl (x_loadB (i := 0) hst hsh sc_4 rfl rfl rfl) ?_; intro a hst
                    refine r_t hst (wt_of 66 rfl rfl c45) rfl (x_notB hst rfl) ?_; intro a hst
                    refine r_t hst trivial rfl (x_andT hst rfl c45 rfl) ?_; intro a hst
                    exact hj _ (hst.keep _ ⟨rfl, rfl, trivial⟩)
                  · replace c45 := Bool.eq_false_iff.2 c45
                    refine r_not hst 66 rfl rfl c45 rfl ?_; intro a hst
                    refine r_not hst 66 rfl rfl c45 rfl ?_; intro a hst
                    refine r_not hst 66 rfl rfl c45 rfl ?_; intro a hst
                    refine r_t hst trivial rfl (x_andF (!r23.1.Trivial) hst rfl c45 rfl) ?_; intro a hst
                    exact hj _ (hst.keep _ ⟨rfl, rfl, trivial⟩)
              · intro hj
                by_cases c43 : (b_7 && ((r23.1.Lower.length : Int) == 1)) = true
                · rw [if_pos c43] at H
                  refine r_t hst (wt_of 58 rfl rfl c43) rfl (x_fieldAddr (j' := 2) hst fa_33_2 rfl rfl) ?_; intro a hst
                  refine r_t hst (wt_of 58 rfl rfl c43) rfl (x_loadB (i := 0) hst hsh sc_31 rfl rfl rfl) ?_; intro a hst
                  obtain ⟨x46, hx46, H⟩ := Option.bind_eq_some_iff.1 H
                  refine r_t hst (wt_of 58 rfl rfl c43) rfl (x_indexAddr hst Try.underlying31 el_43 rfl rfl (hsh.row 2 rfl) hx46) ?_; intro a hst
                  refine r_t hst (wt_of 58 rfl rfl c43) rfl (x_fieldAddrE (n' := Int.toNat 0 * k_File.sz) hst fa_43_0 rfl rfl) ?_; intro a hst
                  refine r_t hst (wt_of 58 rfl rfl c43) rfl (x_loadEF (j := 0) (cs := [.int .i64 x46.Number, .int .i64 x46.Size, .string x46.Least, .string x46.Limit, .int .u64 x46.Low, .int .u64 x46.High]) hst sc_3 rfl (hsh.row 2 rfl) (Same.refl _ _) hx46 rfl (fun _ h => h) rfl) ?_; intro a hst
                  refine r_t hst (wt_of 58 rfl rfl c43) rfl (x_cmpI (b := (x46.Number == 2)) hst rfl rfl rfl) ?_; intro a hst
                  refine r_t hst trivial rfl (x_pickT hst rfl c43 rfl) ?_; intro a hst
                  exact hj _ _ ⟨(x46.Number == 2), H, hst.keep _ ⟨rfl, rfl, rfl, trivial⟩, hsh.pick [0, 0, 0]⟩
                · rw [if_neg c43] at H
                  replace c43 := Bool.eq_false_iff.2 c43
                  refine r_not hst 58 rfl rfl c43 rfl ?_; intro a hst
                  refine r_not hst 58 rfl rfl c43 rfl ?_; intro a hst
                  refine r_not hst 58 rfl rfl c43 rfl ?_; intro a hst
                  refine r_not hst 58 rfl rfl c43 rfl ?_; intro a hst
                  refine r_not hst 58 rfl rfl c43 rfl ?_; intro a hst
                  refine r_not hst 58 rfl rfl c43 rfl ?_; intro a hst
                  refine r_t hst trivial rfl (x_pickF hst rfl c43 rfl) ?_; intro a hst
                  exact hj _ _ ⟨false, H, hst.keep _ ⟨rfl, rfl, rfl, trivial⟩, hsh.pick [0, 0, 0]⟩
            · intro hj
              by_cases c42 : b_7 = true
              · refine r_t hst (wt_of 52 rfl rfl c42) rfl (x_fieldAddr (j' := 2) hst fa_33_2 rfl rfl) ?_; intro a hst
                refine r_t hst (wt_of 52 rfl rfl c42) rfl (x_loadB (i := 0) hst hsh sc_31 rfl rfl rfl) ?_; intro a hst
                refine r_t hst (wt_of 52 rfl rfl c42) rfl (x_lenSl hst Try.underlying31 rfl (hsh.row 2 rfl).slen) ?_; intro a hst
                refine r_t hst (wt_of 52 rfl rfl c42) rfl (x_cmpI (b := ((r23.1.Lower.length : Int) == 1)) hst rfl rfl rfl) ?_; intro a hst
                refine r_t hst trivial rfl (x_andT hst rfl c42 rfl) ?_; intro a hst
                exact hj _ (hst.keep _ ⟨rfl, rfl, rfl, trivial⟩)
              · replace c42 := Bool.eq_false_iff.2 c42
                refine r_not hst 52 rfl rfl c42 rfl ?_; intro a hst
                refine r_not hst 52 rfl rfl c42 rfl ?_; intro a hst
                refine r_not hst 52 rfl rfl c42 rfl ?_; intro a hst
                refine r_not hst 52 rfl rfl c42 rfl ?_; intro a hst
                refine r_t hst trivial rfl (x_andF ((r23.1.Lower.length : Int) == 1) hst rfl c42 rfl) ?_; intro a hst
                exact hj _ (hst.keep _ ⟨rfl, rfl, rfl, trivial⟩)
          · intro hj
            by_cases c40 : ((b_4 && (r23.1.Level == 0)) && ((r23.1.Upper.length : Int) == 2)) = true
            · rw [if_pos c40] at H
              refine r_t hst (wt_of 44 rfl rfl c40) rfl (x_fieldAddr (j' := 1) hst fa_33_1 rfl rfl) ?_; intro a hst
              refine r_t hst (wt_of 44 rfl rfl c40) rfl (x_loadB (i := 0) hst hsh sc_31 rfl rfl rfl) ?_; intro a hst
              obtain ⟨x47, hx47, H⟩ := Option.bind_eq_some_iff.1 H
              refine r_t hst (wt_of 44 rfl rfl c40) rfl (x_indexAddr hst Try.underlying31 el_43 rfl rfl (hsh.row 1 rfl) hx47) ?_; intro a hst
              refine r_t hst (wt_of 44 rfl rfl c40) rfl (x_fieldAddrE (n' := Int.toNat 1 * k_File.sz) hst fa_43_0 rfl rfl) ?_; intro a hst
              refine r_t hst (wt_of 44 rfl rfl c40) rfl (x_loadEF (j := 0) (cs := [.int .i64 x47.Number, .int .i64 x47.Size, .string x47.Least, .string x47.Limit, .int .u64 x47.Low, .int .u64 x47.High]) hst sc_3 rfl (hsh.row 1 rfl) (Same.refl _ _) hx47 rfl (fun _ h => h) rfl) ?_; intro a hst
              refine r_t hst (wt_of 44 rfl rfl c40) rfl (x_cmpI (b := (x47.Number == 7)) hst rfl rfl rfl) ?_; intro a hst
              refine r_t hst trivial rfl (x_pickT hst rfl c40 rfl) ?_; intro a hst
              exact hj _ _ ⟨(x47.Number == 7), H, hst.keep _ ⟨rfl, rfl, rfl, trivial⟩, hsh.pick [0, 0, 0]⟩
            · rw [if_neg c40] at H
              replace c40 := Bool.eq_false_iff.2 c40
              refine r_not hst 44 rfl rfl c40 rfl ?_; intro a hst
              refine r_not hst 44 rfl rfl c40 rfl ?_; intro a hst
              refine r_not hst 44 rfl rfl c40 rfl ?_; intro a hst
              refine r_not hst 44 rfl rfl c40 rfl ?_; intro a hst
              refine r_not hst 44 rfl rfl c40 rfl ?_; intro a hst
              refine r_not hst 44 rfl rfl c40 rfl ?_; intro a hst
              refine r_t hst trivial rfl (x_pickF hst rfl c40 rfl) ?_; intro a hst
              exact hj _ _ ⟨false, H, hst.keep _ ⟨rfl, rfl, rfl, trivial⟩, hsh.pick [0, 0, 0]⟩
        · intro hj
          by_cases c39 : (b_4 && (r23.1.Level == 0)) = true
          · refine r_t hst (wt_of 38 rfl rfl c39) rfl (x_fieldAddr (j' := 1) hst fa_33_1 rfl rfl) ?_; intro a hst
            refine r_t hst (wt_of 38 rfl rfl c39) rfl (x_loadB (i := 0) hst hsh sc_31 rfl rfl rfl) ?_; intro a hst
            refine r_t hst (wt_of 38 rfl rfl c39) rfl (x_lenSl hst Try.underlying31 rfl (hsh.row 1 rfl).slen) ?_; intro a hst
            refine r_t hst (wt_of 38 rfl rfl c39) rfl (x_cmpI (b := ((r23.1.Upper.length : Int) == 2)) hst rfl rfl rfl) ?_; intro a hst
            refine r_t hst trivial rfl (x_andT hst rfl c39 rfl) ?_; intro a hst
            exact hj _ (hst.keep _ ⟨rfl, rfl, rfl, trivial⟩)
          · replace c39 := Bool.eq_false_iff.2 c39
            refine r_not hst 38 rfl rfl c39 rfl ?_; intro a hst
            refine r_not hst 38 rfl rfl c39 rfl ?_; intro a hst
            refine r_not hst 38 rfl rfl c39 rfl ?_; intro a hst
            refine r_not hst 38 rfl rfl c39 rfl ?_; intro a hst
            refine r_t hst trivial rfl (x_andF ((r23.1.Upper.length : Int) == 2) hst rfl c39 rfl) ?_; intro a hst
            exact hj _ (hst.keep _ ⟨rfl, rfl, rfl, trivial⟩)
      · intro hj
        by_cases c38 : b_4 = true
        · refine r_t hst (wt_of 33 rfl rfl c38) rfl (x_fieldAddr (j' := 0) hst fa_33_0 rfl rfl) ?_; intro a hst
          refine r_t hst (wt_of 33 rfl rfl c38) rfl (x_loadB (i := 0) hst hsh sc_3 rfl rfl rfl) ?_; intro a hst
          refine r_t hst (wt_of 33 rfl rfl c38) rfl (x_cmpI (b := (r23.1.Level == 0)) hst rfl rfl rfl) ?_; intro a hst
          refine r_t hst trivial rfl (x_andT hst rfl c38 rfl) ?_; intro a hst
          exact hj _ (hst.keep _ ⟨rfl, rfl, rfl, trivial⟩)
        · replace c38 := Bool.eq_false_iff.2 c38
          refine r_not hst 33 rfl rfl c38 rfl ?_; intro a hst
          refine r_not hst 33 rfl rfl c38 rfl ?_; intro a hst
          refine r_not hst 33 rfl rfl c38 rfl ?_; intro a hst
          refine r_t hst trivial rfl (x_andF (r23.1.Level == 0) hst rfl c38 rfl) ?_; intro a hst
          exact hj _ (hst.keep _ ⟨rfl, rfl, rfl, trivial⟩)
    · intro hj
      by_cases c35 : b_1 = true
      · rw [if_pos c35] at H
        refine r_t hst (wt_of 27 rfl rfl c35) rfl (x_move hst rfl) ?_; intro a hst
        refine r_t hst (wt_of 27 rfl rfl c35) rfl (x_loadBs (i := 1) (ps := [.int .i64 0, .int .i64 0, .int .i64 0, .int .i64 0, .int .i64 0, .int .i64 0, .int .i64 50, .int .i64 2, .int .i64 0, .int .i64 100, .int .i64 10, .int .i64 3, .int .i64 0, .int .i64 0, .int .i64 0, (.slice none 0 0)]) hst hsh ag_28 rfl rfl rfl) ?_; intro a hst
        obtain ⟨r48, hr48, H⟩ := Option.bind_eq_some_iff.1 H
        refine r_callD hst (wt_of 27 rfl rfl c35) rfl fn_13 rfl (pick_Score.calls k _ _ _ _ (Same.refl _ _) _ (hsh.row 0 rfl) (⟨0, 0, 0, (⟨0, 0, 0⟩ : Shape), 50, 2, 0, 100, 10, 3, 0, 0, 0, []⟩ : Config) _ _ _ (Same.refl _ _) (RD.nil (Kd.int .i64) (fun _ => True) _) 1 r48 hr48) ?_
        rintro e w49 ⟨rfl, hc⟩
        replace hsh := hsh.call0 hc
        clear hc
        refine ⟨_, rfl, fun a hst => ?_⟩
        refine r_t hst (wt_of 27 rfl rfl c35) rfl (x_cmpI (b := (r48 == 600)) hst rfl rfl rfl) ?_; intro a hst
        refine r_t hst trivial rfl (x_pickT hst rfl c35 rfl) ?_; intro a hst
        exact hj _ _ ⟨(r48 == 600), H, hst.keep _ ⟨rfl, rfl, rfl, trivial⟩, hsh.pick [2, 2, 2]⟩
      · rw [if_neg c35] at H
        replace c35 := Bool.eq_false_iff.2 c35
        refine r_not hst 27 rfl rfl c35 rfl ?_; intro a hst
        refine r_not hst 27 rfl rfl c35 rfl ?_; intro a hst
        refine r_not hst 27 rfl rfl c35 rfl ?_; intro a hst
        refine r_not hst 27 rfl rfl c35 rfl ?_; intro a hst
        refine r_t hst trivial rfl (x_pickF hst rfl c35 rfl) ?_; intro a hst
        exact hj _ _ ⟨false, H, hst.keep _ ⟨rfl, rfl, rfl, trivial⟩, hsh.pick [2, 2, 2]⟩
  · intro hj
    by_cases c32 : r23.2 = true
    · rw [if_pos c32] at H
      refine r_t hst (wt_of 21 rfl rfl c32) rfl (x_move hst rfl) ?_; intro a hst
      refine r_t hst (wt_of 21 rfl rfl c32) rfl (x_loadBs (i := 3) (ps := [.int .i64 0, .int .i64 0, .int .i64 0, .int .i64 0, .int .i64 0, .int .i64 0, .int .i64 50, .int .i64 2, .int .i64 0, .int .i64 100, .int .i64 10, .int .i64 3, .int .i64 0, .int .i64 0, .int .i64 0, (.slice none 0 0)]) hst hsh ag_28 rfl rfl rfl) ?_; intro a hst
      obtain ⟨r50, hr50, H⟩ := Option.bind_eq_some_iff.1 H
      refine r_callD hst (wt_of 21 rfl rfl c32) rfl fn_13 rfl (pick_Score.calls k _ _ _ _ (Same.refl _ _) _ (hsh.row 4 rfl) (⟨0, 0, 0, (⟨0, 0, 0⟩ : Shape), 50, 2, 0, 100, 10, 3, 0, 0, 0, []⟩ : Config) _ _ _ (Same.refl _ _) (RD.nil (Kd.int .i64) (fun _ => True) _) 0 r50 hr50) ?_
      rintro e w51 ⟨rfl, hc⟩
      replace hsh := hsh.call0 hc
      clear hc
      refine ⟨_, rfl, fun a hst => ?_⟩
      refine r_t hst (wt_of 21 rfl rfl c32) rfl (x_cmpI (b := (r50 == 1500)) hst rfl rfl rfl) ?_; intro a hst
      refine r_t hst trivial rfl (x_pickT hst rfl c32 rfl) ?_; intro a hst
      exact hj _ _ ⟨(r50 == 1500), H, hst.keep _ ⟨rfl, rfl, rfl, rfl, rfl, trivial⟩, hsh.pick [4, 3, 0, 0, 0]⟩
    · rw [if_neg c32] at H
      replace c32 := Bool.eq_false_iff.2 c32
      refine r_not hst 21 rfl rfl c32 rfl ?_; intro a hst
      refine r_not hst 21 rfl rfl c32 rfl ?_; intro a hst
      refine r_not hst 21 rfl rfl c32 rfl ?_; intro a hst
      refine r_not hst 21 rfl rfl c32 rfl ?_; intro a hst
      refine r_t hst trivial rfl (x_pickF hst rfl c32 rfl) ?_; intro a hst
      exact hj _ _ ⟨false, H, hst.keep _ ⟨rfl, rfl, rfl, rfl, rfl, trivial⟩, hsh.pick [4, 3, 0, 0, 0]⟩

set_option maxHeartbeats 4000000 in
set_option maxRecDepth 100000 in
theorem l22_PickFullest.calls (k : Nat) (w : World) (va0 : Value) (Za0 : Nat → Prop) (wra0 : World) (hsa0 : Same Za0 wra0 w) (a0 : (List (List File))) (hra0 : RD (Kd.slice 43 k_File) Za0 wra0 va0 a0) (a1 : Config) (va1_0 : Value) (Za1_0 : Nat → Prop) (wra1_0 : World) (hsa1_0 : Same Za1_0 wra1_0 w) (hra1_0 : RD (Kd.int .i64) Za1_0 wra1_0 va1_0 a1.Heights) (va2 : Value) (Za2 : Nat → Prop) (wra2 : World) (hsa2 : Same Za2 wra2 w) (a2 : (List ByteArray)) (hra2 : RD Kd.str Za2 wra2 va2 a2) (r : Bool) (h : l22_PickFullest k a0 a1 a2 = some r) :
    Calls Try.prog 5 ([va0, .agg #[.int .i64 a1.Block, .int .i64 a1.Mem, .int .i64 a1.Frozen, .int .i64 a1.Shape.Page, .int .i64 a1.Shape.Restart, .int .i64 a1.Shape.Bits, .int .i64 a1.Cut, .int .i64 a1.Files0, .int .i64 a1.Stop0, .int .i64 a1.Base, .int .i64 a1.Ratio, .int .i64 a1.Levels, .int .i64 a1.Chunk, .int .i64 a1.Roll, .int .i64 a1.Clients, va1_0], va2] : List Value).toArray w fun e w' => e = .returned (.bool r) ∧ SH (fun _ => False) w w' [] := by
  have H := h
  clear h
  unfold l22_PickFullest at H
  refine calls_enter Try.func5 rfl rfl ?_
  intro a hst
  have hsh := SH.zero (fun _ => False) w
  refine wp_seq ?_
  refine wp_region_lit ?_
  refine r_box hst hsh trivial rfl rfl rfl ?_
  intro g1 a w2 hgg1 hsh hst
  refine r_t hst trivial rfl (x_assign hst rfl) ?_; intro a hst
  refine wpList_nil ?_
  refine then_normal ?_
  refine wp_seq ?_
  refine wp_seq ?_
  refine wp_region_lit ?_
  obtain ⟨r6, hr6, H⟩ := Option.bind_eq_some_iff.1 H
  refine r_callD hst trivial rfl fn_10 rfl (l22_works.calls k _ r6 hr6) ?_
  rintro e w7 ⟨rfl, hc⟩
  replace hsh := hsh.call0 hc
  clear hc
  refine ⟨_, rfl, fun a hst => ?_⟩
  refine r_t hst trivial rfl (x_notB hst rfl) ?_; intro a hst
  refine wpList_nil ?_
  refine then_normal ?_
  by_cases c8 : (!r6) = true
  · rw [if_pos c8] at H
    refine wp_condT hst rfl c8 ?_
    refine wp_seq ?_
    refine wp_region_lit ?_
    refine r_t hst trivial rfl (x_assign hst rfl) ?_; intro a hst
    refine wpList_nil ?_
    refine then_normal ?_
    refine wp_ret ?_
    refine then_ret ?_
    obtain rfl := Option.some.inj H
    exact ret1 hst rfl rfl ⟨rfl, hsh.pick []⟩
  · rw [if_neg c8] at H
    replace c8 := Bool.eq_false_iff.2 c8
    refine wp_condF hst rfl c8 ?_
    refine wp_skip ?_
    refine then_normal ?_
    refine wp_seq ?_
    refine wp_region_lit ?_
    refine r_t hst trivial rfl (x_move hst rfl) ?_; intro a hst
    refine r_t hst trivial rfl (x_loadBs (i := 0) (ps := [.int .i64 a1.Block, .int .i64 a1.Mem, .int .i64 a1.Frozen, .int .i64 a1.Shape.Page, .int .i64 a1.Shape.Restart, .int .i64 a1.Shape.Bits, .int .i64 a1.Cut, .int .i64 a1.Files0, .int .i64 a1.Stop0, .int .i64 a1.Base, .int .i64 a1.Ratio, .int .i64 a1.Levels, .int .i64 a1.Chunk, .int .i64 a1.Roll, .int .i64 a1.Clients, va1_0]) hst hsh ag_28 rfl rfl rfl) ?_; intro a hst
    refine r_t hst trivial rfl (x_move hst rfl) ?_; intro a hst
    obtain ⟨r9, hr9, H⟩ := Option.bind_eq_some_iff.1 H
    refine r_callD hst trivial rfl fn_8 rfl (pick_Next.calls k _ _ _ _ (Same.sh0 hsa0 hsh) _ hra0 a1 _ _ _ (Same.sh0 hsa1_0 hsh) hra1_0 _ _ _ (Same.sh0 hsa2 hsh) _ hra2 r9 hr9) ?_
    rintro e w10 ⟨v11, v13, rfl, hc⟩
    replace hsh := hsh.call0 hc
    clear hc
    refine ⟨_, rfl, fun a hst => ?_⟩
    refine r_t hst trivial rfl (x_move hst rfl) ?_; intro a hst
    refine r_t hst trivial rfl (x_extract hst rfl rfl) ?_; intro a hst
    refine r_t hst trivial rfl (x_extract hst rfl rfl) ?_; intro a hst
    refine r_alloc hst hsh trivial rfl zr_33 ?_
    intro g15 a w16 hgg15 hsh hst
    refine r_storeBs (i := 0) (cs' := [.int .i64 r9.1.Level, v11, v13, .bool r9.1.Trivial]) (vs := [.int .i64 r9.1.Level, v11, v13, .bool r9.1.Trivial]) hst hsh trivial ag_33 rfl rfl rfl rfl (one_cons rfl (one_cons (one_slice (hsh.row 1 rfl).slen) (one_cons (one_slice (hsh.row 2 rfl).slen) (one_cons rfl rfl)))) rfl ?_; intro a w17 hsh hst
    refine r_t hst trivial rfl (x_assign hst rfl) ?_; intro a hst
    refine wpList_nil ?_
    refine then_normal ?_
    refine wp_seq ?_
    refine wp_region_lit ?_
    refine r_t hst trivial rfl (x_assign hst rfl) ?_; intro a hst
    refine wpList_nil ?_
    refine then_normal ?_
    refine wp_seq ?_
    refine wp_seq ?_
    refine wp_region_lit ?_
    refine r_t hst trivial rfl (x_assign hst rfl) ?_; intro a hst
    refine wpList_nil ?_
    refine then_normal ?_
    refine wp_block ?_
    refine wp_loop_fuel (fun k_412 a w' => ∃ (b_328 : Bool), ∃ (i_329 : Int), l22_PickFullest.l0 a0 a1 r9 k_412 b_328 i_329 = some r ∧ ST Try.f5.ntmps a [(0, va0), (4, .pointer (some ⟨g1, 0, none⟩)), (6, .bool false), (7, .pointer (some ⟨g15, 0, none⟩)), (8, .bool r9.2), (9, .bool b_328), (10, .int .i64 i_329)] ∧ SH (fun _ => False) w w' [Box g1 [.int .i64 a1.Block, .int .i64 a1.Mem, .int .i64 a1.Frozen, .int .i64 a1.Shape.Page, .int .i64 a1.Shape.Restart, .int .i64 a1.Shape.Bits, .int .i64 a1.Cut, .int .i64 a1.Files0, .int .i64 a1.Stop0, .int .i64 a1.Base, .int .i64 a1.Ratio, .int .i64 a1.Levels, .int .i64 a1.Chunk, .int .i64 a1.Roll, .int .i64 a1.Clients, va1_0] 28, Box g15 [.int .i64 r9.1.Level, v11, v13, .bool r9.1.Trivial] 33, Row k_File 43 v11 r9.1.Upper, Row k_File 43 v13 r9.1.Lower]) k ?_ ?_
    · exact ⟨false, 0, H, hst.keep _ ⟨rfl, rfl, rfl, rfl, rfl, rfl, rfl, trivial⟩, hsh.pick [3, 0, 0, 0]⟩
    · rintro k_412 a W_330 ⟨b_328, i_329, H, hst, hsh⟩
      cases k_412 with
      | zero => rw [l22_PickFullest.l0] at H; cases H
      | succ k_412 =>
        rw [l22_PickFullest.l0] at H
        refine wp_seq ?_
        refine wp_seq ?_
        refine wp_region_lit ?_
        refine r_t hst trivial rfl (x_move hst rfl) ?_; intro a hst
        refine r_t hst trivial rfl (x_move hst rfl) ?_; intro a hst
        refine r_t hst trivial rfl (x_lenSl hst Try.underlying23 rfl hra0.slen) ?_; intro a hst
        refine r_t hst trivial rfl (x_cmpI (b := decide (i_329 < (a0.length : Int))) hst rfl rfl rfl) ?_; intro a hst
        refine wpList_nil ?_
        refine then_normal ?_
        by_cases c339 : (decide (i_329 < (a0.length : Int))) = true
        · rw [if_pos c339] at H
          refine wp_condT hst rfl c339 ?_
          refine wp_skip ?_
          refine then_normal ?_
          refine wp_seq ?_
          refine wp_block ?_
          refine wp_seq ?_
          refine wp_region_lit ?_
          refine r_t hst trivial rfl (x_move hst rfl) ?_; intro a hst
          refine r_t hst trivial rfl (x_loadBs (i := 0) (ps := [.int .i64 a1.Block, .int .i64 a1.Mem, .int .i64 a1.Frozen, .int .i64 a1.Shape.Page, .int .i64 a1.Shape.Restart, .int .i64 a1.Shape.Bits, .int .i64 a1.Cut, .int .i64 a1.Files0, .int .i64 a1.Stop0, .int .i64 a1.Base, .int .i64 a1.Ratio, .int .i64 a1.Levels, .int .i64 a1.Chunk, .int .i64 a1.Roll, .int .i64 a1.Clients, va1_0]) hst hsh ag_28 rfl rfl rfl) ?_; intro a hst
          refine r_t hst trivial rfl (x_move hst rfl) ?_; intro a hst
          obtain ⟨r371, hr371, H⟩ := Option.bind_eq_some_iff.1 H
          refine r_callD hst trivial rfl fn_13 rfl (pick_Score.calls k_412 _ _ _ _ (Same.sh0 hsa0 hsh) _ hra0 a1 _ _ _ (Same.sh0 hsa1_0 hsh) hra1_0 i_329 r371 hr371) ?_
          rintro e w372 ⟨rfl, hc⟩
          replace hsh := hsh.call0 hc
          clear hc
          refine ⟨_, rfl, fun a hst => ?_⟩
          refine r_t hst trivial rfl (x_assign hst rfl) ?_; intro a hst
          refine wpList_nil ?_
          refine then_normal ?_
          refine wp_seq ?_
          refine wp_region_lit ?_
          refine r_t hst trivial rfl (x_move hst rfl) ?_; intro a hst
          refine r_t hst trivial rfl (x_move hst rfl) ?_; intro a hst
          refine wl_join0 (N := Try.f5.ntmps) 5 [(0, va0), (4, .pointer (some ⟨g1, 0, none⟩)), (6, .bool false), (7, .pointer (some ⟨g15, 0, none⟩)), (8, .bool r9.2), (9, .bool b_328), (10, .int .i64 i_329), (11, .int .i64 r371), (35, .bool (b_328 || (decide (1000 ≤ r371))))] ?_ ?_
          · intro a hst
            refine r_t hst trivial rfl (x_assign hst rfl) ?_; intro a hst
            refine wpList_nil ?_
            refine then_normal ?_
            refine wp_seq ?_
            refine wp_region_lit ?_
            refine r_t hst trivial rfl (x_move hst rfl) ?_; intro a hst
            refine r_t hst trivial rfl (x_move hst rfl) ?_; intro a hst
            obtain ⟨J_465, hJ_465, H⟩ := Jn.elim H
            refine wl_join 25 (fun a w' => ∃ (b_464 : Bool), J_465 b_464 = some r ∧ ST Try.f5.ntmps a [(0, va0), (4, .pointer (some ⟨g1, 0, none⟩)), (6, .bool false), (7, .pointer (some ⟨g15, 0, none⟩)), (8, .bool r9.2), (9, .bool (b_328 || (decide (1000 ≤ r371)))), (10, .int .i64 i_329), (60, .bool b_464)] ∧ SH (fun _ => False) w w' [Box g1 [.int .i64 a1.Block, .int .i64 a1.Mem, .int .i64 a1.Frozen, .int .i64 a1.Shape.Page, .int .i64 a1.Shape.Restart, .int .i64 a1.Shape.Bits, .int .i64 a1.Cut, .int .i64 a1.Files0, .int .i64 a1.Stop0, .int .i64 a1.Base, .int .i64 a1.Ratio, .int .i64 a1.Levels, .int .i64 a1.Chunk, .int .i64 a1.Roll, .int .i64 a1.Clients, va1_0] 28, Box g15 [.int .i64 r9.1.Level, v11, v13, .bool r9.1.Trivial] 33, Row k_File 43 v11 r9.1.Upper, Row k_File 43 v13 r9.1.Lower]) ?_ ?_
            · rintro a W_478 ⟨b_464, H, hst, hsh⟩
              subst hJ_465
              dsimp only at H
              refine wpList_nil ?_
              refine then_normal ?_
              by_cases c388 : b_464 = true
              · rw [if_pos c388] at H
                refine wp_condT hst rfl c388 ?_
                refine wp_seq ?_
                refine wp_region_lit ?_
                refine r_t hst trivial rfl (x_assign hst rfl) ?_; intro a hst
                refine wpList_nil ?_
                refine then_normal ?_
                refine wp_ret ?_
                refine block_ret ?_
                refine then_ret ?_
                refine then_ret ?_
                refine block_ret ?_
                refine then_ret ?_
                obtain rfl := Option.some.inj H
                exact ret1 hst rfl rfl ⟨rfl, hsh.pick []⟩
              · rw [if_neg c388] at H
                replace c388 := Bool.eq_false_iff.2 c388
                refine wp_condF hst rfl c388 ?_
                refine wp_skip ?_
                refine block_normal ?_
                refine then_normal ?_
                refine wp_region_lit ?_
                refine r_t hst trivial rfl (x_move hst rfl) ?_; intro a hst
                refine r_t hst trivial rfl (x_arI (r := w64 (i_329 + 1)) hst rfl rfl rfl) ?_; intro a hst
                refine r_t hst trivial rfl (x_assign hst rfl) ?_; intro a hst
                refine wpList_nil ?_
                refine then_normal ?_
                exact ⟨k_412, Nat.lt_succ_self _, (b_328 || (decide (1000 ≤ r371))), (w64 (i_329 + 1)), H, hst.keep _ ⟨rfl, rfl, rfl, rfl, rfl, rfl, rfl, trivial⟩, hsh.pick [0, 0, 0, 0]⟩
            · intro hj
              by_cases c374 : r9.2 = true
              · rw [if_pos c374] at H
                refine r_t hst (wt_of 37 rfl rfl c374) rfl (x_move hst rfl) ?_; intro a hst
                refine r_t hst (wt_of 37 rfl rfl c374) rfl (x_move hst rfl) ?_; intro a hst
                refine r_t hst (wt_of 37 rfl rfl c374) rfl (x_loadBs (i := 0) (ps := [.int .i64 a1.Block, .int .i64 a1.Mem, .int .i64 a1.Frozen, .int .i64 a1.Shape.Page, .int .i64 a1.Shape.Restart, .int .i64 a1.Shape.Bits, .int .i64 a1.Cut, .int .i64 a1.Files0, .int .i64 a1.Stop0, .int .i64 a1.Base, .int .i64 a1.Ratio, .int .i64 a1.Levels, .int .i64 a1.Chunk, .int .i64 a1.Roll, .int .i64 a1.Clients, va1_0]) hst hsh ag_28 rfl rfl rfl) ?_; intro a hst
                refine r_t hst (wt_of 37 rfl rfl c374) rfl (x_fieldAddr (j' := 0) hst fa_33_0 rfl rfl) ?_; intro a hst
                refine r_t hst (wt_of 37 rfl rfl c374) rfl (x_loadB (i := 1) hst hsh sc_3 rfl rfl rfl) ?_; intro a hst
                obtain ⟨r389, hr389, H⟩ := Option.bind_eq_some_iff.1 H
                refine r_callD hst (wt_of 37 rfl rfl c374) rfl fn_13 rfl (pick_Score.calls k_412 _ _ _ _ (Same.sh0 hsa0 hsh) _ hra0 a1 _ _ _ (Same.sh0 hsa1_0 hsh) hra1_0 r9.1.Level r389 hr389) ?_
                rintro e w390 ⟨rfl, hc⟩
                replace hsh := hsh.call0 hc
                clear hc
                refine ⟨_, rfl, fun a hst => ?_⟩
                refine r_t hst (wt_of 37 rfl rfl c374) rfl (x_cmpI (b := decide (r389 < r371)) hst rfl rfl rfl) ?_; intro a hst
                refine r_t hst (wt_of 37 rfl rfl c374) rfl (x_move hst rfl) ?_; intro a hst
                obtain ⟨J_483, hJ_483, H⟩ := Jn.elim H
                refine wl_join 24 (fun a w' => ∃ (b_482 : Bool), J_483 b_482 = some r ∧ ST Try.f5.ntmps a [(0, va0), (4, .pointer (some ⟨g1, 0, none⟩)), (6, .bool false), (7, .pointer (some ⟨g15, 0, none⟩)), (8, .bool r9.2), (9, .bool (b_328 || (decide (1000 ≤ r371)))), (10, .int .i64 i_329), (37, .bool r9.2), (59, .bool b_482)] ∧ SH (fun _ => False) w w' [Box g1 [.int .i64 a1.Block, .int .i64 a1.Mem, .int .i64 a1.Frozen, .int .i64 a1.Shape.Page, .int .i64 a1.Shape.Restart, .int .i64 a1.Shape.Bits, .int .i64 a1.Cut, .int .i64 a1.Files0, .int .i64 a1.Stop0, .int .i64 a1.Base, .int .i64 a1.Ratio, .int .i64 a1.Levels, .int .i64 a1.Chunk, .int .i64 a1.Roll, .int .i64 a1.Clients, va1_0] 28, Box g15 [.int .i64 r9.1.Level, v11, v13, .bool r9.1.Trivial] 33, Row k_File 43 v11 r9.1.Upper, Row k_File 43 v13 r9.1.Lower]) ?_ ?_
                · rintro a W_487 ⟨b_482, H, hst, hsh⟩
                  subst hJ_483
                  dsimp only at H
                  refine r_t hst trivial rfl (x_pickT hst rfl c374 rfl) ?_; intro a hst
                  exact hj _ _ ⟨b_482, H, hst.keep _ ⟨rfl, rfl, rfl, rfl, rfl, rfl, rfl, rfl, trivial⟩, hsh.pick [0, 0, 0, 0]⟩
                · intro hj
                  by_cases c391 : (decide (r389 < r371)) = true
                  · rw [if_pos c391] at H
                    refine r_not hst 45 rfl rfl c391 rfl ?_; intro a hst
                    refine r_not hst 45 rfl rfl c391 rfl ?_; intro a hst
                    refine r_not hst 45 rfl rfl c391 rfl ?_; intro a hst
                    refine r_not hst 45 rfl rfl c391 rfl ?_; intro a hst
                    refine r_not hst 45 rfl rfl c391 rfl ?_; intro a hst
                    refine r_notU hst 50 rfl rfl rfl ?_; intro a hst
                    refine r_notU hst 50 rfl rfl rfl ?_; intro a hst
                    refine r_notU hst 50 rfl rfl rfl ?_; intro a hst
                    refine r_notU hst 50 rfl rfl rfl ?_; intro a hst
                    refine r_notU hst 50 rfl rfl rfl ?_; intro a hst
                    refine r_notU hst 50 rfl rfl rfl ?_; intro a hst
                    refine r_notU hst 50 rfl rfl rfl ?_; intro a hst
                    refine r_not hst 45 rfl rfl c391 rfl ?_; intro a hst
                    refine r_t hst (wt_of 37 rfl rfl c374) rfl (x_pickT hst rfl c391 rfl) ?_; intro a hst
                    exact hj _ _ ⟨true, H, hst.keep _ ⟨rfl, rfl, rfl, rfl, rfl, rfl, rfl, rfl, rfl, trivial⟩, hsh.pick [0, 0, 0, 0]⟩
                  · rw [if_neg c391] at H
                    replace c391 := Bool.eq_false_iff.2 c391
                    refine r_t hst (wt_of 45 rfl rfl c391) rfl (x_move hst rfl) ?_; intro a hst
                    refine r_t hst (wt_of 45 rfl rfl c391) rfl (x_fieldAddr (j' := 0) hst fa_33_0 rfl rfl) ?_; intro a hst
                    refine r_t hst (wt_of 45 rfl rfl c391) rfl (x_loadB (i := 1) hst hsh sc_3 rfl rfl rfl) ?_; intro a hst
                    refine r_t hst (wt_of 45 rfl rfl c391) rfl (x_cmpI (b := decide (i_329 < r9.1.Level)) hst rfl rfl rfl) ?_; intro a hst
                    refine r_t hst (wt_of 45 rfl rfl c391) rfl (x_move hst rfl) ?_; intro a hst
                    obtain ⟨J_489, hJ_489, H⟩ := Jn.elim H
                    refine wl_join 23 (fun a w' => ∃ (b_488 : Bool), J_489 b_488 = some r ∧ ST Try.f5.ntmps a [(0, va0), (4, .pointer (some ⟨g1, 0, none⟩)), (6, .bool false), (7, .pointer (some ⟨g15, 0, none⟩)), (8, .bool r9.2), (9, .bool (b_328 || (decide (1000 ≤ r371)))), (10, .int .i64 i_329), (37, .bool r9.2), (45, .bool (decide (r389 < r371))), (58, .bool b_488)] ∧ SH (fun _ => False) w w' [Box g1 [.int .i64 a1.Block, .int .i64 a1.Mem, .int .i64 a1.Frozen, .int .i64 a1.Shape.Page, .int .i64 a1.Shape.Restart, .int .i64 a1.Shape.Bits, .int .i64 a1.Cut, .int .i64 a1.Files0, .int .i64 a1.Stop0, .int .i64 a1.Base, .int .i64 a1.Ratio, .int .i64 a1.Levels, .int .i64 a1.Chunk, .int .i64 a1.Roll, .int .i64 a1.Clients, va1_0] 28, Box g15 [.int .i64 r9.1.Level, v11, v13, .bool r9.1.Trivial] 33, Row k_File 43 v11 r9.1.Upper, Row k_File 43 v13 r9.1.Lower]) ?_ ?_
                    · rintro a W_490 ⟨b_488, H, hst, hsh⟩
                      subst hJ_489
                      dsimp only at H
                      refine r_t hst (wt_of 37 rfl rfl c374) rfl (x_pickF hst rfl c391 rfl) ?_; intro a hst
                      exact hj _ _ ⟨b_488, H, hst.keep _ ⟨rfl, rfl, rfl, rfl, rfl, rfl, rfl, rfl, rfl, trivial⟩, hsh.pick [0, 0, 0, 0]⟩
                    · intro hj
                      by_cases c397 : (decide (i_329 < r9.1.Level)) = true
                      · rw [if_pos c397] at H
                        refine r_t hst (wt_of 50 rfl rfl c397) rfl (x_move hst rfl) ?_; intro a hst
                        refine r_t hst (wt_of 50 rfl rfl c397) rfl (x_move hst rfl) ?_; intro a hst
                        refine r_t hst (wt_of 50 rfl rfl c397) rfl (x_loadBs (i := 0) (ps := [.int .i64 a1.Block, .int .i64 a1.Mem, .int .i64 a1.Frozen, .int .i64 a1.Shape.Page, .int .i64 a1.Shape.Restart, .int .i64 a1.Shape.Bits, .int .i64 a1.Cut, .int .i64 a1.Files0, .int .i64 a1.Stop0, .int .i64 a1.Base, .int .i64 a1.Ratio, .int .i64 a1.Levels, .int .i64 a1.Chunk, .int .i64 a1.Roll, .int .i64 a1.Clients, va1_0]) hst hsh ag_28 rfl rfl rfl) ?_; intro a hst
                        refine r_t hst (wt_of 50 rfl rfl c397) rfl (x_fieldAddr (j' := 0) hst fa_33_0 rfl rfl) ?_; intro a hst
                        refine r_t hst (wt_of 50 rfl rfl c397) rfl (x_loadB (i := 1) hst hsh sc_3 rfl rfl rfl) ?_; intro a hst
                        obtain ⟨r400, hr400, H⟩ := Option.bind_eq_some_iff.1 H
                        refine r_callD hst (wt_of 50 rfl rfl c397) rfl fn_13 rfl (pick_Score.calls k_412 _ _ _ _ (Same.sh0 hsa0 hsh) _ hra0 a1 _ _ _ (Same.sh0 hsa1_0 hsh) hra1_0 r9.1.Level r400 hr400) ?_
                        rintro e w401 ⟨rfl, hc⟩
                        replace hsh := hsh.call0 hc
                        clear hc
                        refine ⟨_, rfl, fun a hst => ?_⟩
                        refine r_t hst (wt_of 50 rfl rfl c397) rfl (x_cmpI (b := (r371 == r400)) hst rfl rfl rfl) ?_; intro a hst
                        refine r_t hst (wt_of 45 rfl rfl c391) rfl (x_pickT hst rfl c397 rfl) ?_; intro a hst
                        exact hj _ _ ⟨(r371 == r400), H, hst.keep _ ⟨rfl, rfl, rfl, rfl, rfl, rfl, rfl, rfl, rfl, rfl, trivial⟩, hsh.pick [0, 0, 0, 0]⟩
                      · rw [if_neg c397] at H
                        replace c397 := Bool.eq_false_iff.2 c397
                        refine r_not hst 50 rfl rfl c397 rfl ?_; intro a hst
                        refine r_not hst 50 rfl rfl c397 rfl ?_; intro a hst
                        refine r_not hst 50 rfl rfl c397 rfl ?_; intro a hst
                        refine r_not hst 50 rfl rfl c397 rfl ?_; intro a hst
                        refine r_not hst 50 rfl rfl c397 rfl ?_; intro a hst
                        refine r_not hst 50 rfl rfl c397 rfl ?_; intro a hst
                        refine r_not hst 50 rfl rfl c397 rfl ?_; intro a hst
                        refine r_t hst (wt_of 45 rfl rfl c391) rfl (x_pickF hst rfl c397 rfl) ?_; intro a hst
                        exact hj _ _ ⟨false, H, hst.keep _ ⟨rfl, rfl, rfl, rfl, rfl, rfl, rfl, rfl, rfl, rfl, trivial⟩, hsh.pick [0, 0, 0, 0]⟩
              · rw [if_neg c374] at H
                replace c374 := Bool.eq_false_iff.2 c374
                refine r_not hst 37 rfl rfl c374 rfl ?_; intro a hst
                refine r_not hst 37 rfl rfl c374 rfl ?_; intro a hst
                refine r_not hst 37 rfl rfl c374 rfl ?_; intro a hst
                refine r_not hst 37 rfl rfl c374 rfl ?_; intro a hst
                refine r_not hst 37 rfl rfl c374 rfl ?_; intro a hst
                refine r_not hst 37 rfl rfl c374 rfl ?_; intro a hst
                refine r_not hst 37 rfl rfl c374 rfl ?_; intro a hst
                refine r_not hst 37 rfl rfl c374 rfl ?_; intro a hst
                refine r_notU hst 45 rfl rfl rfl ?_; intro a hst
                refine r_notU hst 45 rfl rfl rfl ?_; intro a hst
                refine r_notU hst 45 rfl rfl rfl ?_; intro a hst
                refine r_notU hst 45 rfl rfl rfl ?_; intro a hst
                refine r_notU hst 45 rfl rfl rfl ?_; intro a hst
                refine r_notU hst 50 rfl rfl rfl ?_; intro a hst
                refine r_notU hst 50 rfl rfl rfl ?_; intro a hst
                refine r_notU hst 50 rfl rfl rfl ?_; intro a hst
                refine r_notU hst 50 rfl rfl rfl ?_; intro a hst
                refine r_notU hst 50 rfl rfl rfl ?_; intro a hst
                refine r_notU hst 50 rfl rfl rfl ?_; intro a hst
                refine r_notU hst 50 rfl rfl rfl ?_; intro a hst
                refine r_notU hst 45 rfl rfl rfl ?_; intro a hst
                refine r_not hst 37 rfl rfl c374 rfl ?_; intro a hst
                refine r_t hst trivial rfl (x_pickF hst rfl c374 rfl) ?_; intro a hst
                exact hj _ _ ⟨false, H, hst.keep _ ⟨rfl, rfl, rfl, rfl, rfl, rfl, rfl, rfl, trivial⟩, hsh.pick [0, 0, 0, 0]⟩
          · intro hj
            by_cases c373 : b_328 = true
            · refine r_not hst 32 rfl rfl c373 rfl ?_; intro a hst
              refine r_not hst 32 rfl rfl c373 rfl ?_; intro a hst
              refine r_t hst trivial rfl (x_orT (decide (1000 ≤ r371)) hst rfl c373 rfl) ?_; intro a hst
              exact hj _ (hst.keep _ ⟨rfl, rfl, rfl, rfl, rfl, rfl, rfl, rfl, rfl, trivial⟩)
            · replace c373 := Bool.eq_false_iff.2 c373
              refine r_t hst (wt_of 32 rfl rfl c373) rfl (x_move hst rfl) ?_; intro a hst
              refine r_t hst (wt_of 32 rfl rfl c373) rfl (x_cmpI (b := decide (1000 ≤ r371)) hst rfl rfl rfl) ?_; intro a hst
              refine r_t hst trivial rfl (x_orF hst rfl c373 rfl) ?_; intro a hst
              exact hj _ (hst.keep _ ⟨rfl, rfl, rfl, rfl, rfl, rfl, rfl, rfl, rfl, trivial⟩)
        · rw [if_neg c339] at H
          replace c339 := Bool.eq_false_iff.2 c339
          refine wp_condF hst rfl c339 ?_
          refine wp_exit ?_
          refine then_exit ?_
          refine then_exit ?_
          refine block_hit ?_
          refine then_normal ?_
          refine wp_seq ?_
          refine wp_region_lit ?_
          refine r_t hst trivial rfl (x_move hst rfl) ?_; intro a hst
          refine r_t hst trivial rfl (x_move hst rfl) ?_; intro a hst
          refine r_t hst trivial rfl (x_eqB (b := (r9.2 == b_328)) hst Try.underlying4 rfl rfl rfl) ?_; intro a hst
          refine r_t hst trivial rfl (x_assign hst rfl) ?_; intro a hst
          refine wpList_nil ?_
          refine then_normal ?_
          refine wp_ret ?_
          obtain rfl := Option.some.inj H
          exact ret1 hst rfl rfl ⟨rfl, hsh.pick []⟩
end Go.Proofs.Ytckjpkecipgeiaa.Mo
