/- Printed by gen.py: contracts. -/
import Derived.Test.YtckjpkecipgeiaaPkCa0
set_option linter.unusedVariables false
set_option linter.unusedSimpArgs false
set_option maxRecDepth 100000
namespace Go.Proofs.Ytckjpkecipgeiaa.Mo
open Go Go.Proofs.Ytckjpkecipgeiaa.Sy
open Go.Proofs
set_option maxHeartbeats 4000000 in
set_option maxRecDepth 100000 in
theorem l22_works.calls (k : Nat) (w : World)  (r : Bool) (h : l22_works k = some r) :
    Calls Try.prog 10 ([] : List Value).toArray w fun e w' => e = .returned (.bool r) ∧ SH (fun _ => False) w w' [] := by
  have H := h
  clear h
  unfold l22_works at H
  refine calls_enter Try.func10 rfl rfl ?_
  intro a hst
  have hsh := SH.zero (fun _ => False) w
  refine wp_seq ?_
  refine wp_region_lit ?_
  refine r_t hst trivial rfl (x_assign hst rfl) ?_; intro a hst
  refine wpList_nil ?_
  refine then_normal ?_
  refine wp_seq ?_
  refine wp_region_lit ?_
  obtain ⟨r1, hr1, H⟩ := Option.bind_eq_some_iff.1 H
  refine r_callD hst trivial rfl fn_36 rfl (l22_file.calls _ 4 (ByteArray.mk #[97]) (ByteArray.mk #[99]) 10 r1 hr1) ?_
  rintro e w2 ⟨rfl, hc⟩
  replace hsh := hsh.call0 hc
  clear hc
  refine ⟨_, rfl, fun a hst => ?_⟩
  obtain ⟨r3, hr3, H⟩ := Option.bind_eq_some_iff.1 H
  refine r_callD hst trivial rfl fn_36 rfl (l22_file.calls _ 6 (ByteArray.mk #[100]) (ByteArray.mk #[101]) 10 r3 hr3) ?_
  rintro e w4 ⟨rfl, hc⟩
  replace hsh := hsh.call0 hc
  clear hc
  refine ⟨_, rfl, fun a hst => ?_⟩
  obtain ⟨r5, hr5, H⟩ := Option.bind_eq_some_iff.1 H
  refine r_callD hst trivial rfl fn_36 rfl (l22_file.calls _ 7 (ByteArray.mk #[98]) (ByteArray.mk #[100]) 10 r5 hr5) ?_
  rintro e w6 ⟨rfl, hc⟩
  replace hsh := hsh.call0 hc
  clear hc
  refine ⟨_, rfl, fun a hst => ?_⟩
  refine r_buildSlice (vs := [.agg #[.int .i64 r1.Number, .int .i64 r1.Size, .string r1.Least, .string r1.Limit, .int .u64 r1.Low, .int .u64 r1.High], .agg #[.int .i64 r3.Number, .int .i64 r3.Size, .string r3.Least, .string r3.Limit, .int .u64 r3.Low, .int .u64 r3.High], .agg #[.int .i64 r5.Number, .int .i64 r5.Size, .string r5.Least, .string r5.Limit, .int .u64 r5.Low, .int .u64 r5.High]]) (cs := [.int .i64 r1.Number, .int .i64 r1.Size, .string r1.Least, .string r1.Limit, .int .u64 r1.Low, .int .u64 r1.High, .int .i64 r3.Number, .int .i64 r3.Size, .string r3.Least, .string r3.Limit, .int .u64 r3.Low, .int .u64 r3.High, .int .i64 r5.Number, .int .i64 r5.Size, .string r5.Least, .string r5.Limit, .int .u64 r5.Low, .int .u64 r5.High]) hst hsh trivial rfl Try.underlying31 el_43 rfl rfl (by simp [Value.cells]) rfl rfl ?_
  intro g7 a w8 hgg7 hsh hst
  replace hsh := hsh.pick [0]
  replace hsh : SH (fun _ => False) w w8 [Row k_File 43 (.slice (some ⟨g7, 0, none⟩) 3 3) ([r1, r3, r5])] := SH.boxRow ([r1, r3, r5] : List File) hsh rfl rfl rfl
  obtain ⟨r10, hr10, H⟩ := Option.bind_eq_some_iff.1 H
  refine r_callD hst trivial rfl fn_36 rfl (l22_file.calls _ 2 (ByteArray.mk #[97]) (ByteArray.mk #[98]) 30 r10 hr10) ?_
  rintro e w11 ⟨rfl, hc⟩
  replace hsh := hsh.call0 hc
  clear hc
  refine ⟨_, rfl, fun a hst => ?_⟩
  obtain ⟨r12, hr12, H⟩ := Option.bind_eq_some_iff.1 H
  refine r_callD hst trivial rfl fn_36 rfl (l22_file.calls _ 3 (ByteArray.mk #[120]) (ByteArray.mk #[122]) 30 r12 hr12) ?_
  rintro e w13 ⟨rfl, hc⟩
  replace hsh := hsh.call0 hc
  clear hc
  refine ⟨_, rfl, fun a hst => ?_⟩
  refine r_buildSlice (vs := [.agg #[.int .i64 r10.Number, .int .i64 r10.Size, .string r10.Least, .string r10.Limit, .int .u64 r10.Low, .int .u64 r10.High], .agg #[.int .i64 r12.Number, .int .i64 r12.Size, .string r12.Least, .string r12.Limit, .int .u64 r12.Low, .int .u64 r12.High]]) (cs := [.int .i64 r10.Number, .int .i64 r10.Size, .string r10.Least, .string r10.Limit, .int .u64 r10.Low, .int .u64 r10.High, .int .i64 r12.Number, .int .i64 r12.Size, .string r12.Least, .string r12.Limit, .int .u64 r12.Low, .int .u64 r12.High]) hst hsh trivial rfl Try.underlying31 el_43 rfl rfl (by simp [Value.cells]) rfl rfl ?_
  intro g14 a w15 hgg14 hsh hst
  replace hsh := hsh.pick [0, 0]
  replace hsh : SH (fun _ => False) w w15 [Row k_File 43 (.slice (some ⟨g14, 0, none⟩) 2 2) ([r10, r12]), Row k_File 43 (.slice (some ⟨g7, 0, none⟩) 3 3) ([r1, r3, r5])] := SH.boxRow ([r10, r12] : List File) hsh rfl rfl rfl
  refine r_buildSlice (vs := [(.slice (some ⟨g7, 0, none⟩) 3 3), (.slice (some ⟨g14, 0, none⟩) 2 2), (.slice none 0 0)]) (cs := [(.slice (some ⟨g7, 0, none⟩) 3 3), (.slice (some ⟨g14, 0, none⟩) 2 2), (.slice none 0 0)]) hst hsh trivial rfl Try.underlying23 el_31 rfl rfl (by simp [cells_sl, cells_slen (hsh.row 1 rfl).slen, cells_slen (hsh.row 0 rfl).slen]) rfl (by simp [cells_sl, cells_slen (hsh.row 1 rfl).slen, cells_slen (hsh.row 0 rfl).slen]) ?_
  intro g17 a w18 hgg17 hsh hst
  replace hsh := hsh.pick [0, 1, 0]
  replace hsh : SH (fun _ => False) w w18 [Row (Kd.slice 43 k_File) 31 (.slice (some ⟨g17, 0, none⟩) 3 3) ([[r1, r3, r5], [r10, r12], []])] := SH.boxRowM (C := [Row k_File 43 (.slice (some ⟨g7, 0, none⟩) 3 3) ([r1, r3, r5]), Row k_File 43 (.slice (some ⟨g14, 0, none⟩) 2 2) ([r10, r12])]) ([[r1, r3, r5], [r10, r12], []] : List (List File)) hsh (ef_cons mf_slice (ef_cons mf_slice (ef_cons mf_nil ef_nil))) rfl rfl (by decide)
  refine r_t hst trivial rfl (x_assign hst rfl) ?_; intro a hst
  refine wpList_nil ?_
  refine then_normal ?_
  refine wp_seq ?_
  refine wp_region_lit ?_
  refine r_t hst trivial rfl (x_build (cs := [.int .i64 0, .int .i64 0, .int .i64 0, .int .i64 0, .int .i64 0, .int .i64 0, .int .i64 50, .int .i64 2, .int .i64 0, .int .i64 100, .int .i64 10, .int .i64 3, .int .i64 0, .int .i64 0, .int .i64 0, (.slice none 0 0)]) hst rfl (by kernel_rfl)) ?_; intro a hst
  refine r_alloc hst hsh trivial rfl zr_28 ?_
  intro g20 a w21 hgg20 hsh hst
  refine r_storeBs (i := 0) (cs' := [.int .i64 0, .int .i64 0, .int .i64 0, .int .i64 0, .int .i64 0, .int .i64 0, .int .i64 50, .int .i64 2, .int .i64 0, .int .i64 100, .int .i64 10, .int .i64 3, .int .i64 0, .int .i64 0, .int .i64 0, (.slice none 0 0)]) (vs := [.int .i64 0, .int .i64 0, .int .i64 0, .int .i64 0, .int .i64 0, .int .i64 0, .int .i64 50, .int .i64 2, .int .i64 0, .int .i64 100, .int .i64 10, .int .i64 3, .int .i64 0, .int .i64 0, .int .i64 0, (.slice none 0 0)]) hst hsh trivial ag_28 rfl rfl rfl rfl (one_cons rfl (one_cons rfl (one_cons rfl (one_cons rfl (one_cons rfl (one_cons rfl (one_cons rfl (one_cons rfl (one_cons rfl (one_cons rfl (one_cons rfl (one_cons rfl (one_cons rfl (one_cons rfl (one_cons rfl (one_cons rfl rfl)))))))))))))))) rfl ?_; intro a w22 hsh hst
  refine wpList_nil ?_
  refine then_normal ?_
  refine wp_seq ?_
  refine wp_region_lit ?_
  refine r_t hst trivial rfl (x_move hst rfl) ?_; intro a hst
  refine r_t hst trivial rfl (x_loadBs (i := 0) (ps := [.int .i64 0, .int .i64 0, .int .i64 0, .int .i64 0, .int .i64 0, .int .i64 0, .int .i64 50, .int .i64 2, .int .i64 0, .int .i64 100, .int .i64 10, .int .i64 3, .int .i64 0, .int .i64 0, .int .i64 0, (.slice none 0 0)]) hst hsh ag_28 rfl rfl rfl) ?_; intro a hst
  obtain ⟨r23, hr23, H⟩ := Option.bind_eq_some_iff.1 H
  refine r_callD hst trivial rfl fn_8 rfl (pick_Next.calls k _ _ _ _ (Same.refl _ _) _ (hsh.row 1 rfl) (⟨0, 0, 0, (⟨0, 0, 0⟩ : Shape), 50, 2, 0, 100, 10, 3, 0, 0, 0, []⟩ : Config) _ _ _ (Same.refl _ _) (RD.nil (Kd.int .i64) (fun _ => True) _) _ _ _ (Same.refl _ _) _ (RD.nil Kd.str (fun _ => True) _) r23 hr23) ?_
  rintro e w24 ⟨v25, v27, rfl, hc⟩
  replace hsh := hsh.call0 hc
  clear hc
  refine ⟨_, rfl, fun a hst => ?_⟩
  refine r_t hst trivial rfl (x_move hst rfl) ?_; intro a hst
  refine r_t hst trivial rfl (x_extract hst rfl rfl) ?_; intro a hst
  refine r_t hst trivial rfl (x_extract hst rfl rfl) ?_; intro a hst
  refine r_alloc hst hsh trivial rfl zr_33 ?_
  intro g29 a w30 hgg29 hsh hst
  refine r_storeBs (i := 0) (cs' := [.int .i64 r23.1.Level, v25, v27, .bool r23.1.Trivial]) (vs := [.int .i64 r23.1.Level, v25, v27, .bool r23.1.Trivial]) hst hsh trivial ag_33 rfl rfl rfl rfl (one_cons rfl (one_cons (one_slice (hsh.row 1 rfl).slen) (one_cons (one_slice (hsh.row 2 rfl).slen) (one_cons rfl rfl)))) rfl ?_; intro a w31 hsh hst
  refine r_t hst trivial rfl (x_assign hst rfl) ?_; intro a hst
  refine wpList_nil ?_
  refine then_normal ?_
  refine wp_seq ?_
  refine wp_region_lit ?_
  refine r_t hst trivial rfl (x_move hst rfl) ?_; intro a hst
  refine r_t hst trivial rfl (x_move hst rfl) ?_; intro a hst
  obtain ⟨J_2, hJ_2, H⟩ := Jn.elim H
  refine wl_join 7 (fun a w' => ∃ (b_1 : Bool), J_2 b_1 = some r ∧ ST Try.f10.ntmps a [(0, .bool false), (1, (.slice (some ⟨g17, 0, none⟩) 3 3)), (2, .pointer (some ⟨g20, 0, none⟩)), (3, .pointer (some ⟨g29, 0, none⟩)), (26, .bool b_1)] ∧ SH (fun _ => False) w w' [Row (Kd.slice 43 k_File) 31 (.slice (some ⟨g17, 0, none⟩) 3 3) ([[r1, r3, r5], [r10, r12], []]), Box g20 [.int .i64 0, .int .i64 0, .int .i64 0, .int .i64 0, .int .i64 0, .int .i64 0, .int .i64 50, .int .i64 2, .int .i64 0, .int .i64 100, .int .i64 10, .int .i64 3, .int .i64 0, .int .i64 0, .int .i64 0, (.slice none 0 0)] 28, Box g29 [.int .i64 r23.1.Level, v25, v27, .bool r23.1.Trivial] 33, Row k_File 43 v25 r23.1.Upper, Row k_File 43 v27 r23.1.Lower]) ?_ ?_
  · rintro a W_3 ⟨b_1, H, hst, hsh⟩
    subst hJ_2
    dsimp only at H
    refine r_t hst trivial rfl (x_move hst rfl) ?_; intro a hst
    obtain ⟨J_5, hJ_5, H⟩ := Jn.elim H
    refine wl_join 13 (fun a w' => ∃ (b_4 : Bool), J_5 b_4 = some r ∧ ST Try.f10.ntmps a [(0, .bool false), (3, .pointer (some ⟨g29, 0, none⟩)), (32, .bool b_4)] ∧ SH (fun _ => False) w w' [Box g29 [.int .i64 r23.1.Level, v25, v27, .bool r23.1.Trivial] 33, Row k_File 43 v25 r23.1.Upper, Row k_File 43 v27 r23.1.Lower]) ?_ ?_
    · rintro a W_6 ⟨b_4, H, hst, hsh⟩
      subst hJ_5
      dsimp only at H
      refine r_t hst trivial rfl (x_move hst rfl) ?_; intro a hst
      refine wl_join0 (N := Try.f10.ntmps) 18 [(0, .bool false), (3, .pointer (some ⟨g29, 0, none⟩)), (37, .bool (b_4 && (r23.1.Level == 0)))] ?_ ?_
      · intro a hst
        refine r_t hst trivial rfl (x_move hst rfl) ?_; intro a hst
        refine wl_join0 (N := Try.f10.ntmps) 24 [(0, .bool false), (3, .pointer (some ⟨g29, 0, none⟩)), (43, .bool ((b_4 && (r23.1.Level == 0)) && ((r23.1.Upper.length : Int) == 2)))] ?_ ?_
        · intro a hst
          refine r_t hst trivial rfl (x_move hst rfl) ?_; intro a hst
          obtain ⟨J_8, hJ_8, H⟩ := Jn.elim H
          refine wl_join 32 (fun a w' => ∃ (b_7 : Bool), J_8 b_7 = some r ∧ ST Try.f10.ntmps a [(0, .bool false), (3, .pointer (some ⟨g29, 0, none⟩)), (51, .bool b_7)] ∧ SH (fun _ => False) w w' [Box g29 [.int .i64 r23.1.Level, v25, v27, .bool r23.1.Trivial] 33, Row k_File 43 v25 r23.1.Upper, Row k_File 43 v27 r23.1.Lower]) ?_ ?_
          · rintro a W_9 ⟨b_7, H, hst, hsh⟩
            subst hJ_8
            dsimp only at H
            refine r_t hst trivial rfl (x_move hst rfl) ?_; intro a hst
            refine wl_join0 (N := Try.f10.ntmps) 38 [(0, .bool false), (3, .pointer (some ⟨g29, 0, none⟩)), (57, .bool (b_7 && ((r23.1.Lower.length : Int) == 1)))] ?_ ?_
            · intro a hst
              refine r_t hst trivial rfl (x_move hst rfl) ?_; intro a hst
              obtain ⟨J_11, hJ_11, H⟩ := Jn.elim H
              refine wl_join 46 (fun a w' => ∃ (b_10 : Bool), J_11 b_10 = some r ∧ ST Try.f10.ntmps a [(0, .bool false), (3, .pointer (some ⟨g29, 0, none⟩)), (65, .bool b_10)] ∧ SH (fun _ => False) w w' [Box g29 [.int .i64 r23.1.Level, v25, v27, .bool r23.1.Trivial] 33, Row k_File 43 v25 r23.1.Upper, Row k_File 43 v27 r23.1.Lower]) ?_ ?_
              · rintro a W_12 ⟨b_10, H, hst, hsh⟩
                subst hJ_11
                dsimp only at H
                refine r_t hst trivial rfl (x_move hst rfl) ?_; intro a hst
                refine wl_join0 (N := Try.f10.ntmps) 51 [(0, .bool false), (70, .bool (b_10 && (!r23.1.Trivial)))] ?_ ?_
                · intro a hst
                  refine r_t hst trivial rfl (x_assign hst rfl) ?_; intro a hst
                  refine wpList_nil ?_
                  refine then_normal ?_
                  refine wp_ret ?_
                  obtain rfl := Option.some.inj H
                  exact ret1 hst rfl rfl ⟨rfl, hsh.pick []⟩
                · intro hj
                  by_cases c45 : b_10 = true
                  · refine r_t hst (wt_of 66 rfl rfl c45) rfl (x_fieldAddr (j' := 3) hst fa_33_3 rfl rfl) ?_; intro a hst
                    refine r_t hst (wt_of 66 rfl rfl c45) rfl (x_loadB (i := 0) hst hsh sc_4 rfl rfl rfl) ?_; intro a hst
                    refine r_t hst (wt_of 66 rfl rfl c45) rfl (x_notB hst rfl) ?_; intro a hst
                    refine r_t hst trivial rfl (x_andT hst rfl c45 rfl) ?_; intro a hst
                    exact hj _ (hst.keep _ ⟨rfl, rfl, trivial⟩)
                  · replace c45 := Bool.eq_false_iff.2 c45
                    refine r_not hst 66 rfl rfl c45 rfl ?_; intro a hst
                    refine r_not hst 66 rfl rfl c45 rfl ?_; intro a hst
                    refine r_not hst 66 rfl rfl c45 rfl ?_; intro a hst
                    refine r_t hst trivial rfl (x_andF (!r23.1.Trivial) hst rfl c45 rfl) ?_; intro a hst
                    exact hj _ (hst.keep _ ⟨rfl, rfl, trivial⟩)
              · intro hj
                by_cases c43 : (b_7 && ((r23.1.Lower.length : Int) == 1)) = true
                · rw [if_pos c43] at H
                  refine r_t hst (wt_of 58 rfl rfl c43) rfl (x_fieldAddr (j' := 2) hst fa_33_2 rfl rfl) ?_; intro a hst
                  refine r_t hst (wt_of 58 rfl rfl c43) rfl (x_loadB (i := 0) hst hsh sc_31 rfl rfl rfl) ?_; intro a hst
                  obtain ⟨x46, hx46, H⟩ := Option.bind_eq_some_iff.1 H
                  refine r_t hst (wt_of 58 rfl rfl c43) rfl (x_indexAddr hst Try.underlying31 el_43 rfl rfl (hsh.row 2 rfl) hx46) ?_; intro a hst
                  refine r_t hst (wt_of 58 rfl rfl c43) rfl (x_fieldAddrE (n' := Int.toNat 0 * k_File.sz) hst fa_43_0 rfl rfl) ?_; intro a hst
                  refine r_t hst (wt_of 58 rfl rfl c43) rfl (x_loadEF (j := 0) (cs := [.int .i64 x46.Number, .int .i64 x46.Size, .string x46.Least, .string x46.Limit, .int .u64 x46.Low, .int .u64 x46.High]) hst sc_3 rfl (hsh.row 2 rfl) (Same.refl _ _) hx46 rfl (fun _ h => h) rfl) ?_; intro a hst
                  refine r_t hst (wt_of 58 rfl rfl c43) rfl (x_cmpI (b := (x46.Number == 2)) hst rfl rfl rfl) ?_; intro a hst
                  refine r_t hst trivial rfl (x_pickT hst rfl c43 rfl) ?_; intro a hst
                  exact hj _ _ ⟨(x46.Number == 2), H, hst.keep _ ⟨rfl, rfl, rfl, trivial⟩, hsh.pick [0, 0, 0]⟩
                · rw [if_neg c43] at H
                  replace c43 := Bool.eq_false_iff.2 c43
                  refine r_not hst 58 rfl rfl c43 rfl ?_; intro a hst
                  refine r_not hst 58 rfl rfl c43 rfl ?_; intro a hst
                  refine r_not hst 58 rfl rfl c43 rfl ?_; intro a hst
                  refine r_not hst 58 rfl rfl c43 rfl ?_; intro a hst
                  refine r_not hst 58 rfl rfl c43 rfl ?_; intro a hst
                  refine r_not hst 58 rfl rfl c43 rfl ?_; intro a hst
                  refine r_t hst trivial rfl (x_pickF hst rfl c43 rfl) ?_; intro a hst
                  exact hj _ _ ⟨false, H, hst.keep _ ⟨rfl, rfl, rfl, trivial⟩, hsh.pick [0, 0, 0]⟩
            · intro hj
              by_cases c42 : b_7 = true
              · refine r_t hst (wt_of 52 rfl rfl c42) rfl (x_fieldAddr (j' := 2) hst fa_33_2 rfl rfl) ?_; intro a hst
                refine r_t hst (wt_of 52 rfl rfl c42) rfl (x_loadB (i := 0) hst hsh sc_31 rfl rfl rfl) ?_; intro a hst
                refine r_t hst (wt_of 52 rfl rfl c42) rfl (x_lenSl hst Try.underlying31 rfl (hsh.row 2 rfl).slen) ?_; intro a hst
                refine r_t hst (wt_of 52 rfl rfl c42) rfl (x_cmpI (b := ((r23.1.Lower.length : Int) == 1)) hst rfl rfl rfl) ?_; intro a hst
                refine r_t hst trivial rfl (x_andT hst rfl c42 rfl) ?_; intro a hst
                exact hj _ (hst.keep _ ⟨rfl, rfl, rfl, trivial⟩)
              · replace c42 := Bool.eq_false_iff.2 c42
                refine r_not hst 52 rfl rfl c42 rfl ?_; intro a hst
                refine r_not hst 52 rfl rfl c42 rfl ?_; intro a hst
                refine r_not hst 52 rfl rfl c42 rfl ?_; intro a hst
                refine r_not hst 52 rfl rfl c42 rfl ?_; intro a hst
                refine r_t hst trivial rfl (x_andF ((r23.1.Lower.length : Int) == 1) hst rfl c42 rfl) ?_; intro a hst
                exact hj _ (hst.keep _ ⟨rfl, rfl, rfl, trivial⟩)
          · intro hj
            by_cases c40 : ((b_4 && (r23.1.Level == 0)) && ((r23.1.Upper.length : Int) == 2)) = true
            · rw [if_pos c40] at H
              refine r_t hst (wt_of 44 rfl rfl c40) rfl (x_fieldAddr (j' := 1) hst fa_33_1 rfl rfl) ?_; intro a hst
              refine r_t hst (wt_of 44 rfl rfl c40) rfl (x_loadB (i := 0) hst hsh sc_31 rfl rfl rfl) ?_; intro a hst
              obtain ⟨x47, hx47, H⟩ := Option.bind_eq_some_iff.1 H
              refine r_t hst (wt_of 44 rfl rfl c40) rfl (x_indexAddr hst Try.underlying31 el_43 rfl rfl (hsh.row 1 rfl) hx47) ?_; intro a hst
              refine r_t hst (wt_of 44 rfl rfl c40) rfl (x_fieldAddrE (n' := Int.toNat 1 * k_File.sz) hst fa_43_0 rfl rfl) ?_; intro a hst
              refine r_t hst (wt_of 44 rfl rfl c40) rfl (x_loadEF (j := 0) (cs := [.int .i64 x47.Number, .int .i64 x47.Size, .string x47.Least, .string x47.Limit, .int .u64 x47.Low, .int .u64 x47.High]) hst sc_3 rfl (hsh.row 1 rfl) (Same.refl _ _) hx47 rfl (fun _ h => h) rfl) ?_; intro a hst
              refine r_t hst (wt_of 44 rfl rfl c40) rfl (x_cmpI (b := (x47.Number == 7)) hst rfl rfl rfl) ?_; intro a hst
              refine r_t hst trivial rfl (x_pickT hst rfl c40 rfl) ?_; intro a hst
              exact hj _ _ ⟨(x47.Number == 7), H, hst.keep _ ⟨rfl, rfl, rfl, trivial⟩, hsh.pick [0, 0, 0]⟩
            · rw [if_neg c40] at H
              replace c40 := Bool.eq_false_iff.2 c40
              refine r_not hst 44 rfl rfl c40 rfl ?_; intro a hst
              refine r_not hst 44 rfl rfl c40 rfl ?_; intro a hst
              refine r_not hst 44 rfl rfl c40 rfl ?_; intro a hst
              refine r_not hst 44 rfl rfl c40 rfl ?_; intro a hst
              refine r_not hst 44 rfl rfl c40 rfl ?_; intro a hst
              refine r_not hst 44 rfl rfl c40 rfl ?_; intro a hst
              refine r_t hst trivial rfl (x_pickF hst rfl c40 rfl) ?_; intro a hst
              exact hj _ _ ⟨false, H, hst.keep _ ⟨rfl, rfl, rfl, trivial⟩, hsh.pick [0, 0, 0]⟩
        · intro hj
          by_cases c39 : (b_4 && (r23.1.Level == 0)) = true
          · refine r_t hst (wt_of 38 rfl rfl c39) rfl (x_fieldAddr (j' := 1) hst fa_33_1 rfl rfl) ?_; intro a hst
            refine r_t hst (wt_of 38 rfl rfl c39) rfl (x_loadB (i := 0) hst hsh sc_31 rfl rfl rfl) ?_; intro a hst
            refine r_t hst (wt_of 38 rfl rfl c39) rfl (x_lenSl hst Try.underlying31 rfl (hsh.row 1 rfl).slen) ?_; intro a hst
            refine r_t hst (wt_of 38 rfl rfl c39) rfl (x_cmpI (b := ((r23.1.Upper.length : Int) == 2)) hst rfl rfl rfl) ?_; intro a hst
            refine r_t hst trivial rfl (x_andT hst rfl c39 rfl) ?_; intro a hst
            exact hj _ (hst.keep _ ⟨rfl, rfl, rfl, trivial⟩)
          · replace c39 := Bool.eq_false_iff.2 c39
            refine r_not hst 38 rfl rfl c39 rfl ?_; intro a hst
            refine r_not hst 38 rfl rfl c39 rfl ?_; intro a hst
            refine r_not hst 38 rfl rfl c39 rfl ?_; intro a hst
            refine r_not hst 38 rfl rfl c39 rfl ?_; intro a hst
            refine r_t hst trivial rfl (x_andF ((r23.1.Upper.length : Int) == 2) hst rfl c39 rfl) ?_; intro a hst
            exact hj _ (hst.keep _ ⟨rfl, rfl, rfl, trivial⟩)
      · intro hj
        by_cases c38 : b_4 = true
        · refine r_t hst (wt_of 33 rfl rfl c38) rfl (x_fieldAddr (j' := 0) hst fa_33_0 rfl rfl) ?_; intro a hst
          refine r_t hst (wt_of 33 rfl rfl c38) rfl (x_loadB (i := 0) hst hsh sc_3 rfl rfl rfl) ?_; intro a hst
          refine r_t hst (wt_of 33 rfl rfl c38) rfl (x_cmpI (b := (r23.1.Level == 0)) hst rfl rfl rfl) ?_; intro a hst
          refine r_t hst trivial rfl (x_andT hst rfl c38 rfl) ?_; intro a hst
          exact hj _ (hst.keep _ ⟨rfl, rfl, rfl, trivial⟩)
        · replace c38 := Bool.eq_false_iff.2 c38
          refine r_not hst 33 rfl rfl c38 rfl ?_; intro a hst
          refine r_not hst 33 rfl rfl c38 rfl ?_; intro a hst
          refine r_not hst 33 rfl rfl c38 rfl ?_; intro a hst
          refine r_t hst trivial rfl (x_andF (r23.1.Level == 0) hst rfl c38 rfl) ?_; intro a hst
          exact hj _ (hst.keep _ ⟨rfl, rfl, rfl, trivial⟩)
    · intro hj
      by_cases c35 : b_1 = true
      · rw [if_pos c35] at H
        refine r_t hst (wt_of 27 rfl rfl c35) rfl (x_move hst rfl) ?_; intro a hst
        refine r_t hst (wt_of 27 rfl rfl c35) rfl (x_loadBs (i := 1) (ps := [.int .i64 0, .int .i64 0, .int .i64 0, .int .i64 0, .int .i64 0, .int .i64 0, .int .i64 50, .int .i64 2, .int .i64 0, .int .i64 100, .int .i64 10, .int .i64 3, .int .i64 0, .int .i64 0, .int .i64 0, (.slice none 0 0)]) hst hsh ag_28 rfl rfl rfl) ?_; intro a hst
        obtain ⟨r48, hr48, H⟩ := Option.bind_eq_some_iff.1 H
        refine r_callD hst (wt_of 27 rfl rfl c35) rfl fn_13 rfl (pick_Score.calls k _ _ _ _ (Same.refl _ _) _ (hsh.row 0 rfl) (⟨0, 0, 0, (⟨0, 0, 0⟩ : Shape), 50, 2, 0, 100, 10, 3, 0, 0, 0, []⟩ : Config) _ _ _ (Same.refl _ _) (RD.nil (Kd.int .i64) (fun _ => True) _) 1 r48 hr48) ?_
        rintro e w49 ⟨rfl, hc⟩
        replace hsh := hsh.call0 hc
        clear hc
        refine ⟨_, rfl, fun a hst => ?_⟩
        refine r_t hst (wt_of 27 rfl rfl c35) rfl (x_cmpI (b := (r48 == 600)) hst rfl rfl rfl) ?_; intro a hst
        refine r_t hst trivial rfl (x_pickT hst rfl c35 rfl) ?_; intro a hst
        exact hj _ _ ⟨(r48 == 600), H, hst.keep _ ⟨rfl, rfl, rfl, trivial⟩, hsh.pick [2, 2, 2]⟩
      · rw [if_neg c35] at H
        replace c35 := Bool.eq_false_iff.2 c35
        refine r_not hst 27 rfl rfl c35 rfl ?_; intro a hst
        refine r_not hst 27 rfl rfl c35 rfl ?_; intro a hst
        refine r_not hst 27 rfl rfl c35 rfl ?_; intro a hst
        refine r_not hst 27 rfl rfl c35 rfl ?_; intro a hst
        refine r_t hst trivial rfl (x_pickF hst rfl c35 rfl) ?_; intro a hst
        exact hj _ _ ⟨false, H, hst.keep _ ⟨rfl, rfl, rfl, trivial⟩, hsh.pick [2, 2, 2]⟩
  · intro hj
    by_cases c32 : r23.2 = true
    · rw [if_pos c32] at H
      refine r_t hst (wt_of 21 rfl rfl c32) rfl (x_move hst rfl) ?_; intro a hst
      refine r_t hst (wt_of 21 rfl rfl c32) rfl (x_loadBs (i := 3) (ps := [.int .i64 0, .int .i64 0, .int .i64 0, .int .i64 0, .int .i64 0, .int .i64 0, .int .i64 50, .int .i64 2, .int .i64 0, .int .i64 100, .int .i64 10, .int .i64 3, .int .i64 0, .int .i64 0, .int .i64 0, (.slice none 0 0)]) hst hsh ag_28 rfl rfl rfl) ?_; intro a hst
      obtain ⟨r50, hr50, H⟩ := Option.bind_eq_some_iff.1 H
      refine r_callD hst (wt_of 21 rfl rfl c32) rfl fn_13 rfl (pick_Score.calls k _ _ _ _ (Same.refl _ _) _ (hsh.row 4 rfl) (⟨0, 0, 0, (⟨0, 0, 0⟩ : Shape), 50, 2, 0, 100, 10, 3, 0, 0, 0, []⟩ : Config) _ _ _ (Same.refl _ _) (RD.nil (Kd.int .i64) (fun _ => True) _) 0 r50 hr50) ?_
      rintro e w51 ⟨rfl, hc⟩
      replace hsh := hsh.call0 hc
      clear hc
      refine ⟨_, rfl, fun a hst => ?_⟩
      refine r_t hst (wt_of 21 rfl rfl c32) rfl (x_cmpI (b := (r50 == 1500)) hst rfl rfl rfl) ?_; intro a hst
      refine r_t hst trivial rfl (x_pickT hst rfl c32 rfl) ?_; intro a hst
      exact hj _ _ ⟨(r50 == 1500), H, hst.keep _ ⟨rfl, rfl, rfl, rfl, rfl, trivial⟩, hsh.pick [4, 3, 0, 0, 0]⟩
    · rw [if_neg c32] at H
      replace c32 := Bool.eq_false_iff.2 c32
      refine r_not hst 21 rfl rfl c32 rfl ?_; intro a hst
      refine r_not hst 21 rfl rfl c32 rfl ?_; intro a hst
      refine r_not hst 21 rfl rfl c32 rfl ?_; intro a hst
      refine r_not hst 21 rfl rfl c32 rfl ?_; intro a hst
      refine r_t hst trivial rfl (x_pickF hst rfl c32 rfl) ?_; intro a hst
      exact hj _ _ ⟨false, H, hst.keep _ ⟨rfl, rfl, rfl, rfl, rfl, trivial⟩, hsh.pick [4, 3, 0, 0, 0]⟩

set_option maxHeartbeats 4000000 in
set_option maxRecDepth 100000 in
theorem l22_in.calls (k : Nat) (w : World) (va0 : Value) (Za0 : Nat → Prop) (wra0 : World) (hsa0 : Same Za0 wra0 w) (a0 : (List File)) (hra0 : RD k_File Za0 wra0 va0 a0) (a1 : File) (r : Bool) (h : l22_in k a0 a1 = some r) :
    Calls Try.prog 15 ([va0, .agg #[.int .i64 a1.Number, .int .i64 a1.Size, .string a1.Least, .string a1.Limit, .int .u64 a1.Low, .int .u64 a1.High]] : List Value).toArray w fun e w' => e = .returned (.bool r) ∧ SH (fun _ => False) w w' [] := by
  have H := h
  clear h
  unfold l22_in at H
  refine calls_enter Try.func15 rfl rfl ?_
  intro a hst
  have hsh := SH.zero (fun _ => False) w
  refine wp_seq ?_
  refine wp_region_lit ?_
  refine r_box hst hsh trivial rfl rfl rfl ?_
  intro g1 a w2 hgg1 hsh hst
  refine r_t hst trivial rfl (x_assign hst rfl) ?_; intro a hst
  refine wpList_nil ?_
  refine then_normal ?_
  refine wp_seq ?_
  refine wp_seq ?_
  refine wp_region_lit ?_
  refine r_t hst trivial rfl (x_assign hst rfl) ?_; intro a hst
  refine wpList_nil ?_
  refine then_normal ?_
  refine wp_block ?_
  refine wp_loop_fuel (fun k_16 a w' => ∃ (i_12 : Int), l22_in.l0 a0 a1 k_16 i_12 = some r ∧ ST Try.f15.ntmps a [(0, va0), (3, .pointer (some ⟨g1, 0, none⟩)), (4, .bool false), (5, .int .i64 i_12)] ∧ SH (fun _ => False) w w' [Box g1 [.int .i64 a1.Number, .int .i64 a1.Size, .string a1.Least, .string a1.Limit, .int .u64 a1.Low, .int .u64 a1.High] 43]) k ?_ ?_
  · exact ⟨0, H, hst.keep _ ⟨rfl, rfl, rfl, rfl, trivial⟩, hsh.pick [0]⟩
  · rintro k_16 a W_13 ⟨i_12, H, hst, hsh⟩
    cases k_16 with
    | zero => rw [l22_in.l0] at H; cases H
    | succ k_16 =>
      rw [l22_in.l0] at H
      refine wp_seq ?_
      refine wp_seq ?_
      refine wp_region_lit ?_
      refine r_t hst trivial rfl (x_move hst rfl) ?_; intro a hst
      refine r_t hst trivial rfl (x_move hst rfl) ?_; intro a hst
      refine r_t hst trivial rfl (x_lenSl hst Try.underlying31 rfl hra0.slen) ?_; intro a hst
      refine r_t hst trivial rfl (x_cmpI (b := decide (i_12 < (a0.length : Int))) hst rfl rfl rfl) ?_; intro a hst
      refine wpList_nil ?_
      refine then_normal ?_
      by_cases c44 : (decide (i_12 < (a0.length : Int))) = true
      · rw [if_pos c44] at H
        refine wp_condT hst rfl c44 ?_
        refine wp_skip ?_
        refine then_normal ?_
        refine wp_seq ?_
        refine wp_block ?_
        refine wp_seq ?_
        refine wp_region_q (fun w' => SH (fun _ => False) w w' [Box g1 [.int .i64 a1.Number, .int .i64 a1.Size, .string a1.Least, .string a1.Limit, .int .u64 a1.Low, .int .u64 a1.High] 43]) hsh.drew fo (by kernel_rfl) ?_
        refine q_t hst trivial rfl (fun _ hsh => x_move hst rfl) ?_; intro a hst
        refine q_t hst trivial rfl (fun _ hsh => x_move hst rfl) ?_; intro a hst
        obtain ⟨x48, hx48, H⟩ := Option.bind_eq_some_iff.1 H
        refine q_t hst trivial rfl (fun _ hsh => x_indexAddr hst Try.underlying31 el_43 rfl rfl hra0 hx48) ?_; intro a hst
        refine q_t hst trivial rfl (fun _ hsh => x_loadEsF (j := 0) (cs := [.int .i64 x48.Number, .int .i64 x48.Size, .string x48.Least, .string x48.Limit, .int .u64 x48.Low, .int .u64 x48.High]) (ps := [.int .i64 x48.Number, .int .i64 x48.Size, .string x48.Least, .string x48.Limit, .int .u64 x48.Low, .int .u64 x48.High]) hst ag_43 rfl hra0 (Same.sh0 hsa0 hsh) hx48 rfl (fun _ h => h) rfl) ?_; intro a hst
        refine q_t hst trivial rfl (fun _ hsh => x_loadBs (i := 0) (ps := [.int .i64 a1.Number, .int .i64 a1.Size, .string a1.Least, .string a1.Limit, .int .u64 a1.Low, .int .u64 a1.High]) hst hsh ag_43 rfl rfl rfl) ?_; intro a hst
        refine q_t hst trivial rfl (fun _ hsh => x_eqS (b := File.eqb x48 a1) (x0 := x48) (y0 := a1) hst eqof_43 rfl rfl rfl) ?_; intro a hst
        refine q_nil ?_
        intro w49 hsh
        refine then_normal ?_
        by_cases c50 : (File.eqb x48 a1) = true
        · rw [if_pos c50] at H
          refine wp_condT hst rfl c50 ?_
          refine wp_seq ?_
          refine wp_region_lit ?_
          refine r_t hst trivial rfl (x_assign hst rfl) ?_; intro a hst
          refine wpList_nil ?_
          refine then_normal ?_
          refine wp_ret ?_
          refine block_ret ?_
          refine then_ret ?_
          refine then_ret ?_
          refine block_ret ?_
          refine then_ret ?_
          obtain rfl := Option.some.inj H
          exact ret1 hst rfl rfl ⟨rfl, hsh.pick []⟩
        · rw [if_neg c50] at H
          replace c50 := Bool.eq_false_iff.2 c50
          refine wp_condF hst rfl c50 ?_
          refine wp_skip ?_
          refine block_normal ?_
          refine then_normal ?_
          refine wp_region_lit ?_
          refine r_t hst trivial rfl (x_move hst rfl) ?_; intro a hst
          refine r_t hst trivial rfl (x_arI (r := w64 (i_12 + 1)) hst rfl rfl rfl) ?_; intro a hst
          refine r_t hst trivial rfl (x_assign hst rfl) ?_; intro a hst
          refine wpList_nil ?_
          refine then_normal ?_
          exact ⟨k_16, Nat.lt_succ_self _, (w64 (i_12 + 1)), H, hst.keep _ ⟨rfl, rfl, rfl, rfl, trivial⟩, hsh.pick [0]⟩
      · rw [if_neg c44] at H
        replace c44 := Bool.eq_false_iff.2 c44
        refine wp_condF hst rfl c44 ?_
        refine wp_exit ?_
        refine then_exit ?_
        refine then_exit ?_
        refine block_hit ?_
        refine then_normal ?_
        refine wp_seq ?_
        refine wp_region_lit ?_
        refine r_t hst trivial rfl (x_assign hst rfl) ?_; intro a hst
        refine wpList_nil ?_
        refine then_normal ?_
        refine wp_ret ?_
        obtain rfl := Option.some.inj H
        exact ret1 hst rfl rfl ⟨rfl, hsh.pick []⟩

set_option maxHeartbeats 4000000 in
set_option maxRecDepth 100000 in
theorem l22_meets.calls (w : World) (a0 : File) (a1 : ByteArray) (a2 : ByteArray) (r : Bool) (h : l22_meets a0 a1 a2 = some r) :
    Calls Try.prog 16 ([.agg #[.int .i64 a0.Number, .int .i64 a0.Size, .string a0.Least, .string a0.Limit, .int .u64 a0.Low, .int .u64 a0.High], .string a1, .string a2] : List Value).toArray w fun e w' => e = .returned (.bool r) ∧ SH (fun _ => False) w w' [] := by
  have H := h
  clear h
  unfold l22_meets at H
  refine calls_enter Try.func16 rfl rfl ?_
  intro a hst
  have hsh := SH.zero (fun _ => False) w
  refine wp_seq ?_
  refine wp_region_lit ?_
  refine r_box hst hsh trivial rfl rfl rfl ?_
  intro g1 a w2 hgg1 hsh hst
  refine r_t hst trivial rfl (x_assign hst rfl) ?_; intro a hst
  refine wpList_nil ?_
  refine then_normal ?_
  refine wp_seq ?_
  refine wp_region_lit ?_
  refine r_t hst trivial rfl (x_fieldAddr (j' := 3) hst fa_43_3 rfl rfl) ?_; intro a hst
  refine r_t hst trivial rfl (x_loadB (i := 0) hst hsh sc_9 rfl rfl rfl) ?_; intro a hst
  refine r_t hst trivial rfl (x_move hst rfl) ?_; intro a hst
  refine r_t hst trivial rfl (x_cmpS (b := (!(sLt a0.Limit a1 || sEq a0.Limit a1))) hst rfl rfl rfl) ?_; intro a hst
  refine r_t hst trivial rfl (x_move hst rfl) ?_; intro a hst
  refine wl_join0 (N := Try.f16.ntmps) 10 [(6, .bool false), (16, .bool ((!(sLt a0.Limit a1 || sEq a0.Limit a1)) && (sLt a0.Least a2)))] ?_ ?_
  · intro a hst
    refine r_t hst trivial rfl (x_assign hst rfl) ?_; intro a hst
    refine wpList_nil ?_
    refine then_normal ?_
    refine wp_ret ?_
    obtain rfl := Option.some.inj H
    exact ret1 hst rfl rfl ⟨rfl, hsh.pick []⟩
  · intro hj
    by_cases c3 : (!(sLt a0.Limit a1 || sEq a0.Limit a1)) = true
    · refine r_t hst (wt_of 11 rfl rfl c3) rfl (x_fieldAddr (j' := 2) hst fa_43_2 rfl rfl) ?_; intro a hst
      refine r_t hst (wt_of 11 rfl rfl c3) rfl (x_loadB (i := 0) hst hsh sc_9 rfl rfl rfl) ?_; intro a hst
      refine r_t hst (wt_of 11 rfl rfl c3) rfl (x_move hst rfl) ?_; intro a hst
      refine r_t hst (wt_of 11 rfl rfl c3) rfl (x_cmpS (b := sLt a0.Least a2) hst rfl rfl rfl) ?_; intro a hst
      refine r_t hst trivial rfl (x_andT hst rfl c3 rfl) ?_; intro a hst
      exact hj _ (hst.keep _ ⟨rfl, rfl, trivial⟩)
    · replace c3 := Bool.eq_false_iff.2 c3
      refine r_not hst 11 rfl rfl c3 rfl ?_; intro a hst
      refine r_not hst 11 rfl rfl c3 rfl ?_; intro a hst
      refine r_not hst 11 rfl rfl c3 rfl ?_; intro a hst
      refine r_not hst 11 rfl rfl c3 rfl ?_; intro a hst
      refine r_t hst trivial rfl (x_andF (sLt a0.Least a2) hst rfl c3 rfl) ?_; intro a hst
      exact hj _ (hst.keep _ ⟨rfl, rfl, trivial⟩)

set_option maxHeartbeats 4000000 in
set_option maxRecDepth 100000 in
theorem l22_PickWhole.calls (k : Nat) (w : World) (va0 : Value) (Za0 : Nat → Prop) (wra0 : World) (hsa0 : Same Za0 wra0 w) (a0 : (List (List File))) (hra0 : RD (Kd.slice 43 k_File) Za0 wra0 va0 a0) (a1 : Config) (va1_0 : Value) (Za1_0 : Nat → Prop) (wra1_0 : World) (hsa1_0 : Same Za1_0 wra1_0 w) (hra1_0 : RD (Kd.int .i64) Za1_0 wra1_0 va1_0 a1.Heights) (va2 : Value) (Za2 : Nat → Prop) (wra2 : World) (hsa2 : Same Za2 wra2 w) (a2 : (List ByteArray)) (hra2 : RD Kd.str Za2 wra2 va2 a2) (r : Bool) (h : l22_PickWhole k a0 a1 a2 = some r) :
    Calls Try.prog 4 ([va0, .agg #[.int .i64 a1.Block, .int .i64 a1.Mem, .int .i64 a1.Frozen, .int .i64 a1.Shape.Page, .int .i64 a1.Shape.Restart, .int .i64 a1.Shape.Bits, .int .i64 a1.Cut, .int .i64 a1.Files0, .int .i64 a1.Stop0, .int .i64 a1.Base, .int .i64 a1.Ratio, .int .i64 a1.Levels, .int .i64 a1.Chunk, .int .i64 a1.Roll, .int .i64 a1.Clients, va1_0], va2] : List Value).toArray w fun e w' => e = .returned (.bool r) ∧ SH (fun _ => False) w w' [] := by
  have H := h
  clear h
  unfold l22_PickWhole at H
  refine calls_enter Try.func4 rfl rfl ?_
  intro a hst
  have hsh := SH.zero (fun _ => False) w
  refine wp_seq ?_
  refine wp_region_lit ?_
  refine r_box hst hsh trivial rfl rfl rfl ?_
  intro g1 a w2 hgg1 hsh hst
  refine r_t hst trivial rfl (x_assign hst rfl) ?_; intro a hst
  refine wpList_nil ?_
  refine then_normal ?_
  refine wp_seq ?_
  refine wp_seq ?_
  refine wp_region_lit ?_
  obtain ⟨r6, hr6, H⟩ := Option.bind_eq_some_iff.1 H
  refine r_callD hst trivial rfl fn_10 rfl (l22_works.calls k _ r6 hr6) ?_
  rintro e w7 ⟨rfl, hc⟩
  replace hsh := hsh.call0 hc
  clear hc
  refine ⟨_, rfl, fun a hst => ?_⟩
  refine r_t hst trivial rfl (x_notB hst rfl) ?_; intro a hst
  refine wpList_nil ?_
  refine then_normal ?_
  by_cases c8 : (!r6) = true
  · rw [if_pos c8] at H
    refine wp_condT hst rfl c8 ?_
    refine wp_seq ?_
    refine wp_region_lit ?_
    refine r_t hst trivial rfl (x_assign hst rfl) ?_; intro a hst
    refine wpList_nil ?_
    refine then_normal ?_
    refine wp_ret ?_
    refine then_ret ?_
    obtain rfl := Option.some.inj H
    exact ret1 hst rfl rfl ⟨rfl, hsh.pick []⟩
  · rw [if_neg c8] at H
    replace c8 := Bool.eq_false_iff.2 c8
    refine wp_condF hst rfl c8 ?_
    refine wp_skip ?_
    refine then_normal ?_
    refine wp_seq ?_
    refine wp_region_lit ?_
    refine r_t hst trivial rfl (x_move hst rfl) ?_; intro a hst
    refine r_t hst trivial rfl (x_loadBs (i := 0) (ps := [.int .i64 a1.Block, .int .i64 a1.Mem, .int .i64 a1.Frozen, .int .i64 a1.Shape.Page, .int .i64 a1.Shape.Restart, .int .i64 a1.Shape.Bits, .int .i64 a1.Cut, .int .i64 a1.Files0, .int .i64 a1.Stop0, .int .i64 a1.Base, .int .i64 a1.Ratio, .int .i64 a1.Levels, .int .i64 a1.Chunk, .int .i64 a1.Roll, .int .i64 a1.Clients, va1_0]) hst hsh ag_28 rfl rfl rfl) ?_; intro a hst
    refine r_t hst trivial rfl (x_move hst rfl) ?_; intro a hst
    obtain ⟨r9, hr9, H⟩ := Option.bind_eq_some_iff.1 H
    refine r_callD hst trivial rfl fn_8 rfl (pick_Next.calls k _ _ _ _ (Same.sh0 hsa0 hsh) _ hra0 a1 _ _ _ (Same.sh0 hsa1_0 hsh) hra1_0 _ _ _ (Same.sh0 hsa2 hsh) _ hra2 r9 hr9) ?_
    rintro e w10 ⟨v11, v13, rfl, hc⟩
    replace hsh := hsh.call0 hc
    clear hc
    refine ⟨_, rfl, fun a hst => ?_⟩
    refine r_t hst trivial rfl (x_move hst rfl) ?_; intro a hst
    refine r_t hst trivial rfl (x_extract hst rfl rfl) ?_; intro a hst
    refine r_t hst trivial rfl (x_extract hst rfl rfl) ?_; intro a hst
    refine r_alloc hst hsh trivial rfl zr_33 ?_
    intro g15 a w16 hgg15 hsh hst
    refine r_storeBs (i := 0) (cs' := [.int .i64 r9.1.Level, v11, v13, .bool r9.1.Trivial]) (vs := [.int .i64 r9.1.Level, v11, v13, .bool r9.1.Trivial]) hst hsh trivial ag_33 rfl rfl rfl rfl (one_cons rfl (one_cons (one_slice (hsh.row 1 rfl).slen) (one_cons (one_slice (hsh.row 2 rfl).slen) (one_cons rfl rfl)))) rfl ?_; intro a w17 hsh hst
    refine r_t hst trivial rfl (x_assign hst rfl) ?_; intro a hst
    refine wpList_nil ?_
    refine then_normal ?_
    refine wp_seq ?_
    refine wp_seq ?_
    refine wp_region_lit ?_
    refine r_t hst trivial rfl (x_move hst rfl) ?_; intro a hst
    refine r_t hst trivial rfl (x_notB hst rfl) ?_; intro a hst
    refine wpList_nil ?_
    refine then_normal ?_
    by_cases c20 : (!r9.2) = true
    · rw [if_pos c20] at H
      refine wp_condT hst rfl c20 ?_
      refine wp_seq ?_
      refine wp_region_lit ?_
      refine r_t hst trivial rfl (x_fieldAddr (j' := 1) hst fa_33_1 rfl rfl) ?_; intro a hst
      refine r_t hst trivial rfl (x_loadB (i := 0) hst hsh sc_31 rfl rfl rfl) ?_; intro a hst
      refine r_t hst trivial rfl (x_lenSl hst Try.underlying31 rfl (hsh.row 1 rfl).slen) ?_; intro a hst
      refine r_t hst trivial rfl (x_cmpI (b := ((r9.1.Upper.length : Int) == 0)) hst rfl rfl rfl) ?_; intro a hst
      refine r_t hst trivial rfl (x_move hst rfl) ?_; intro a hst
      refine wl_join0 (N := Try.f4.ntmps) 10 [(0, va0), (4, .pointer (some ⟨g1, 0, none⟩)), (6, .bool false), (7, .pointer (some ⟨g15, 0, none⟩)), (39, .bool (((r9.1.Upper.length : Int) == 0) && ((r9.1.Lower.length : Int) == 0)))] ?_ ?_
      · intro a hst
        refine r_t hst trivial rfl (x_assign hst rfl) ?_; intro a hst
        refine wpList_nil ?_
        refine then_normal ?_
        refine wp_ret ?_
        refine then_ret ?_
        obtain rfl := Option.some.inj H
        exact ret1 hst rfl rfl ⟨rfl, hsh.pick []⟩
      · intro hj
        by_cases c21 : ((r9.1.Upper.length : Int) == 0) = true
        · refine r_t hst (wt_of 34 rfl rfl c21) rfl (x_fieldAddr (j' := 2) hst fa_33_2 rfl rfl) ?_; intro a hst
          refine r_t hst (wt_of 34 rfl rfl c21) rfl (x_loadB (i := 0) hst hsh sc_31 rfl rfl rfl) ?_; intro a hst
          refine r_t hst (wt_of 34 rfl rfl c21) rfl (x_lenSl hst Try.underlying31 rfl (hsh.row 2 rfl).slen) ?_; intro a hst
          refine r_t hst (wt_of 34 rfl rfl c21) rfl (x_cmpI (b := ((r9.1.Lower.length : Int) == 0)) hst rfl rfl rfl) ?_; intro a hst
          refine r_t hst trivial rfl (x_andT hst rfl c21 rfl) ?_; intro a hst
          exact hj _ (hst.keep _ ⟨rfl, rfl, rfl, rfl, rfl, trivial⟩)
        · replace c21 := Bool.eq_false_iff.2 c21
          refine r_not hst 34 rfl rfl c21 rfl ?_; intro a hst
          refine r_not hst 34 rfl rfl c21 rfl ?_; intro a hst
          refine r_not hst 34 rfl rfl c21 rfl ?_; intro a hst
          refine r_not hst 34 rfl rfl c21 rfl ?_; intro a hst
          refine r_t hst trivial rfl (x_andF ((r9.1.Lower.length : Int) == 0) hst rfl c21 rfl) ?_; intro a hst
          exact hj _ (hst.keep _ ⟨rfl, rfl, rfl, rfl, rfl, trivial⟩)
    · rw [if_neg c20] at H
      replace c20 := Bool.eq_false_iff.2 c20
      refine wp_condF hst rfl c20 ?_
      refine wp_skip ?_
      refine then_normal ?_
      refine wp_seq ?_
      refine wp_seq ?_
      refine wp_region_lit ?_
      refine r_t hst trivial rfl (x_fieldAddr (j' := 0) hst fa_33_0 rfl rfl) ?_; intro a hst
      refine r_t hst trivial rfl (x_loadB (i := 0) hst hsh sc_3 rfl rfl rfl) ?_; intro a hst
      refine r_t hst trivial rfl (x_cmpI (b := decide (r9.1.Level < 0)) hst rfl rfl rfl) ?_; intro a hst
      refine r_t hst trivial rfl (x_move hst rfl) ?_; intro a hst
      refine wl_join0 (N := Try.f4.ntmps) 11 [(0, va0), (4, .pointer (some ⟨g1, 0, none⟩)), (6, .bool false), (7, .pointer (some ⟨g15, 0, none⟩)), (50, .bool ((decide (r9.1.Level < 0)) || (decide ((a0.length : Int) ≤ (w64 (r9.1.Level + 1))))))] ?_ ?_
      · intro a hst
        refine r_t hst trivial rfl (x_move hst rfl) ?_; intro a hst
        refine wl_join0 (N := Try.f4.ntmps) 17 [(0, va0), (4, .pointer (some ⟨g1, 0, none⟩)), (6, .bool false), (7, .pointer (some ⟨g15, 0, none⟩)), (56, .bool (((decide (r9.1.Level < 0)) || (decide ((a0.length : Int) ≤ (w64 (r9.1.Level + 1))))) || ((r9.1.Upper.length : Int) == 0)))] ?_ ?_
        · intro a hst
          refine r_t hst trivial rfl (x_move hst rfl) ?_; intro a hst
          obtain ⟨J_5, hJ_5, H⟩ := Jn.elim H
          refine wl_join 25 (fun a w' => ∃ (b_4 : Bool), J_5 b_4 = some r ∧ ST Try.f4.ntmps a [(0, va0), (6, .bool false), (7, .pointer (some ⟨g15, 0, none⟩)), (64, .bool b_4)] ∧ SH (fun _ => False) w w' [Box g15 [.int .i64 r9.1.Level, v11, v13, .bool r9.1.Trivial] 33, Row k_File 43 v11 r9.1.Upper, Row k_File 43 v13 r9.1.Lower]) ?_ ?_
          · rintro a W_6 ⟨b_4, H, hst, hsh⟩
            subst hJ_5
            dsimp only at H
            refine wpList_nil ?_
            refine then_normal ?_
            by_cases c35 : b_4 = true
            · rw [if_pos c35] at H
              refine wp_condT hst rfl c35 ?_
              refine wp_seq ?_
              refine wp_region_lit ?_
              refine r_t hst trivial rfl (x_assign hst rfl) ?_; intro a hst
              refine wpList_nil ?_
              refine then_normal ?_
              refine wp_ret ?_
              refine then_ret ?_
              obtain rfl := Option.some.inj H
              exact ret1 hst rfl rfl ⟨rfl, hsh.pick []⟩
            · rw [if_neg c35] at H
              replace c35 := Bool.eq_false_iff.2 c35
              refine wp_condF hst rfl c35 ?_
              refine wp_skip ?_
              refine then_normal ?_
              refine wp_seq ?_
              have hw35_1 := hsh.row 1 rfl
              have hw35_2 := hsh.row 2 rfl
              refine wp_region_t (.fin [(3, 1), (0, 2), (3, 4), (0, 5), (1, 0), (1, 3), (1, 6), (0, 7), (3, 8), (3, 9), (3, 10), (3, 11), (3, 12), (3, 13), (3, 14)]) (fun w' => SH (fun _ => False) w w' [Box g15 [.int .i64 r9.1.Level, v11, v13, .bool r9.1.Trivial] 33, Row k_File 43 v11 r9.1.Upper, Row k_File 43 v13 r9.1.Lower]) (fun w' => SH (fun _ => False) w w' [Box g15 [.int .i64 r9.1.Level, v11, v13, .bool r9.1.Trivial] 33, Row k_File 43 v11 r9.1.Upper, Row k_File 43 v13 r9.1.Lower]) (shut_sh _ _ _) (shut_sh _ _ _) (sub_sh [0, 0, 0] rfl) hsh.drew fo (by kernel_rfl) ?_
              refine t_fin ?_
              refine m_p hst trivial rfl (fun _ => x_fieldAddr (j' := 1) hst fa_33_1 rfl rfl) ?_; intro a hst
              refine m_t hst trivial rfl (fun _ hsh => x_loadB (i := 0) hst hsh sc_31 rfl rfl rfl) ?_; intro a hst
              refine m_p hst trivial rfl (fun _ => x_fieldAddr (j' := 2) hst fa_33_2 rfl rfl) ?_; intro a hst
              refine m_t hst trivial rfl (fun _ hsh => x_loadB (i := 0) hst hsh sc_31 rfl rfl rfl) ?_; intro a hst
              refine m_loud (.inl rfl) ?_
              intro w36 hsh
              refine r_buildSlice (vs := []) (cs := []) hst hsh trivial rfl Try.underlying31 el_43 rfl rfl (by simp [Value.cells]) rfl rfl ?_
              intro g37 a w38 hgg37 hsh hst
              replace hsh := hsh.pick [0, 0, 0, 0]
              replace hsh : SH (fun _ => False) w w38 [Row k_File 43 (.slice (some ⟨g37, 0, none⟩) 0 0) ([]), Box g15 [.int .i64 r9.1.Level, v11, v13, .bool r9.1.Trivial] 33, Row k_File 43 v11 r9.1.Upper, Row k_File 43 v13 r9.1.Lower] := SH.boxRow ([] : List File) hsh rfl rfl rfl
              refine m_on (MB := [Box g15 [.int .i64 r9.1.Level, v11, v13, .bool r9.1.Trivial] 33, Row k_File 43 v11 r9.1.Upper, Row k_File 43 v13 r9.1.Lower]) [1, 1, 1] [0, 0, 0] rfl rfl hsh rfl ?_
              refine m_loud (.inl rfl) ?_
              intro w40 hsh
              replace hsh := hsh.pick [0, 0, 0, 0]
              obtain ⟨l41, hl41, H⟩ := Option.bind_eq_some_iff.1 H
              refine r_appendN (M := [Box g15 [.int .i64 r9.1.Level, v11, v13, .bool r9.1.Trivial] 33, Row k_File 43 v11 r9.1.Upper, Row k_File 43 v13 r9.1.Lower]) hst hsh trivial rfl Try.underlying31 el_43 (by decide) (by decide) (by decide) rfl rfl (flat_flat _ _ _ _) (hsh.row 2 rfl) (Same.refl _ _) hl41 ?_
              intro v42 a w43 hsh hst
              refine m_on (MB := [Box g15 [.int .i64 r9.1.Level, v11, v13, .bool r9.1.Trivial] 33, Row k_File 43 v11 r9.1.Upper, Row k_File 43 v13 r9.1.Lower]) [1, 1, 1] [0, 0, 0] rfl rfl hsh rfl ?_
              refine m_loud (.inl rfl) ?_
              intro w44 hsh
              replace hsh := hsh.pick [0, 0, 0, 0]
              obtain ⟨l45, hl45, H⟩ := Option.bind_eq_some_iff.1 H
              refine r_appendN (M := [Box g15 [.int .i64 r9.1.Level, v11, v13, .bool r9.1.Trivial] 33, Row k_File 43 v11 r9.1.Upper, Row k_File 43 v13 r9.1.Lower]) hst hsh trivial rfl Try.underlying31 el_43 (by decide) (by decide) (by decide) rfl rfl (flat_flat _ _ _ _) (hsh.row 3 rfl) (Same.refl _ _) hl45 ?_
              intro v46 a w47 hsh hst
              refine m_on (MB := [Row k_File 43 v46 l45, Box g15 [.int .i64 r9.1.Level, v11, v13, .bool r9.1.Trivial] 33, Row k_File 43 v11 r9.1.Upper, Row k_File 43 v13 r9.1.Lower]) [0, 0, 0, 0] [1, 1, 1] rfl rfl hsh rfl ?_
              obtain ⟨r48, hr48, H⟩ := Option.bind_eq_some_iff.1 H
              refine m_call hst trivial rfl fn_14 rfl (fun w9 hsh => version_Span.calls k _ _ _ _ (Same.refl _ _) _ (hsh.row 0 rfl) r48 hr48) ?_; intro a hst
              refine m_p hst trivial rfl (fun _ => x_move hst rfl) ?_; intro a hst
              refine m_p hst trivial rfl (fun _ => x_extract hst rfl rfl) ?_; intro a hst
              refine m_p hst trivial rfl (fun _ => x_extract hst rfl rfl) ?_; intro a hst
              refine m_p hst trivial rfl (fun _ => x_extract hst rfl rfl) ?_; intro a hst
              refine m_p hst trivial rfl (fun _ => x_assign hst rfl) ?_; intro a hst
              refine m_p hst trivial rfl (fun _ => x_assign hst rfl) ?_; intro a hst
              refine m_p hst trivial rfl (fun _ => x_assign hst rfl) ?_; intro a hst
              refine m_nil ?_
              intro w50 hsh
              refine qn_normal ?_
              refine then_normal ?_
              refine wp_seq ?_
              refine wp_seq ?_
              refine wp_region_lit ?_
              refine r_t hst trivial rfl (x_assign hst rfl) ?_; intro a hst
              refine wpList_nil ?_
              refine then_normal ?_
              refine wp_block ?_
              refine wp_loop_fuel (fun k_292 a w' => ∃ (i_234 : Int), l22_PickWhole.l0 a0 r9 r48 k_292 i_234 = some r ∧ ST Try.f4.ntmps a [(0, va0), (6, .bool false), (7, .pointer (some ⟨g15, 0, none⟩)), (9, .string r48.1), (10, .string r48.2.1), (12, .int .i64 i_234)] ∧ SH (fun _ => False) w w' [Box g15 [.int .i64 r9.1.Level, v11, v13, .bool r9.1.Trivial] 33, Row k_File 43 v11 r9.1.Upper, Row k_File 43 v13 r9.1.Lower]) k ?_ ?_
              · exact ⟨0, H, hst.keep _ ⟨rfl, rfl, rfl, rfl, rfl, rfl, trivial⟩, hsh.pick [1, 1, 1]⟩
              · rintro k_292 a W_235 ⟨i_234, H, hst, hsh⟩
                cases k_292 with
                | zero => rw [l22_PickWhole.l0] at H; cases H
                | succ k_292 =>
                  rw [l22_PickWhole.l0] at H
                  refine wp_seq ?_
                  refine wp_seq ?_
                  refine wp_region_lit ?_
                  refine r_t hst trivial rfl (x_move hst rfl) ?_; intro a hst
                  refine r_t hst trivial rfl (x_move hst rfl) ?_; intro a hst
                  refine r_t hst trivial rfl (x_fieldAddr (j' := 0) hst fa_33_0 rfl rfl) ?_; intro a hst
                  refine r_t hst trivial rfl (x_loadB (i := 0) hst hsh sc_3 rfl rfl rfl) ?_; intro a hst
                  obtain ⟨x927, hx927, H⟩ := Option.bind_eq_some_iff.1 H
                  refine r_t hst trivial rfl (x_indexAddr hst Try.underlying23 el_31 rfl rfl hra0 hx927) ?_; intro a hst
                  obtain ⟨_, hk928, hc929⟩ := RD.cells2 hra0 hx927
                  obtain ⟨v930, rfl, hr931⟩ := hk928
                  refine r_t hst trivial rfl (x_loadC hst sc_31 rfl (hc929 _ (Same.sh0 hsa0 hsh) 0 _ rfl)) ?_; intro a hst
                  refine r_t hst trivial rfl (x_lenSl hst Try.underlying31 rfl hr931.slen) ?_; intro a hst
                  refine r_t hst trivial rfl (x_cmpI (b := decide (i_234 < (x927.length : Int))) hst rfl rfl rfl) ?_; intro a hst
                  refine wpList_nil ?_
                  refine then_normal ?_
                  by_cases c932 : (decide (i_234 < (x927.length : Int))) = true
                  · rw [if_pos c932] at H
                    refine wp_condT hst rfl c932 ?_
                    refine wp_skip ?_
                    refine then_normal ?_
                    obtain ⟨J_320, hJ_320, H⟩ := Jn.elim H
                    refine wp_cut (fun a w' => J_320 = some r ∧ ST Try.f4.ntmps a [(0, va0), (6, .bool false), (7, .pointer (some ⟨g15, 0, none⟩)), (9, .string r48.1), (10, .string r48.2.1), (12, .int .i64 i_234)] ∧ SH (fun _ => False) w w' [Box g15 [.int .i64 r9.1.Level, v11, v13, .bool r9.1.Trivial] 33, Row k_File 43 v11 r9.1.Upper, Row k_File 43 v13 r9.1.Lower]) ?_ ?_
                    · rintro a W_319 ⟨H, hst, hsh⟩
                      subst hJ_320
                      refine wp_region_lit ?_
                      refine r_t hst trivial rfl (x_move hst rfl) ?_; intro a hst
                      refine r_t hst trivial rfl (x_arI (r := w64 (i_234 + 1)) hst rfl rfl rfl) ?_; intro a hst
                      refine r_t hst trivial rfl (x_assign hst rfl) ?_; intro a hst
                      refine wpList_nil ?_
                      refine then_normal ?_
                      exact ⟨k_292, Nat.lt_succ_self _, (w64 (i_234 + 1)), H, hst.keep _ ⟨rfl, rfl, rfl, rfl, rfl, rfl, trivial⟩, hsh.pick [0, 0, 0]⟩
                    · refine wp_block ?_
                      refine wp_seq ?_
                      refine wp_region_lit ?_
                      refine r_t hst trivial rfl (x_move hst rfl) ?_; intro a hst
                      refine r_t hst trivial rfl (x_fieldAddr (j' := 0) hst fa_33_0 rfl rfl) ?_; intro a hst
                      refine r_t hst trivial rfl (x_loadB (i := 0) hst hsh sc_3 rfl rfl rfl) ?_; intro a hst
                      obtain ⟨x1014, hx1014, H⟩ := Option.bind_eq_some_iff.1 H
                      refine r_t hst trivial rfl (x_indexAddr hst Try.underlying23 el_31 rfl rfl hra0 hx1014) ?_; intro a hst
                      obtain ⟨_, hk1015, hc1016⟩ := RD.cells2 hra0 hx1014
                      obtain ⟨v1017, rfl, hr1018⟩ := hk1015
                      refine r_t hst trivial rfl (x_loadC hst sc_31 rfl (hc1016 _ (Same.sh0 hsa0 hsh) 0 _ rfl)) ?_; intro a hst
                      refine r_t hst trivial rfl (x_move hst rfl) ?_; intro a hst
                      obtain ⟨x1019, hx1019, H⟩ := Option.bind_eq_some_iff.1 H
                      refine r_t hst trivial rfl (x_indexAddr hst Try.underlying31 el_43 rfl rfl hr1018 hx1019) ?_; intro a hst
                      refine r_t hst trivial rfl (x_loadEsF (j := 0) (cs := [.int .i64 x1019.Number, .int .i64 x1019.Size, .string x1019.Least, .string x1019.Limit, .int .u64 x1019.Low, .int .u64 x1019.High]) (ps := [.int .i64 x1019.Number, .int .i64 x1019.Size, .string x1019.Least, .string x1019.Limit, .int .u64 x1019.Low, .int .u64 x1019.High]) hst ag_43 rfl hr1018 (Same.sh0 hsa0 hsh) hx1019 rfl (fun _ h => h) rfl) ?_; intro a hst
                      refine r_alloc hst hsh trivial rfl zr_43 ?_
                      intro g1020 a w1021 hgg1020 hsh hst
                      refine r_storeBs (i := 0) (cs' := [.int .i64 x1019.Number, .int .i64 x1019.Size, .string x1019.Least, .string x1019.Limit, .int .u64 x1019.Low, .int .u64 x1019.High]) (vs := [.int .i64 x1019.Number, .int .i64 x1019.Size, .string x1019.Least, .string x1019.Limit, .int .u64 x1019.Low, .int .u64 x1019.High]) hst hsh trivial ag_43 rfl rfl rfl rfl rfl rfl ?_; intro a w1022 hsh hst
                      refine wpList_nil ?_
                      refine then_normal ?_
                      refine wp_seq ?_
                      refine wp_region_lit ?_
                      refine r_t hst trivial rfl (x_assign hst rfl) ?_; intro a hst
                      refine wpList_nil ?_
                      refine then_normal ?_
                      refine wp_block ?_
                      refine wp_loop_fuel (fun k_340 a w' => ∃ (i_330 : Int), l22_PickWhole.l1 r9 J_320 x1019 k_340 i_330 = some r ∧ ST Try.f4.ntmps a [(0, va0), (6, .bool false), (7, .pointer (some ⟨g15, 0, none⟩)), (9, .string r48.1), (10, .string r48.2.1), (12, .int .i64 i_234), (13, .pointer (some ⟨g1020, 0, none⟩)), (14, .int .i64 i_330)] ∧ SH (fun _ => False) w w' [Box g15 [.int .i64 r9.1.Level, v11, v13, .bool r9.1.Trivial] 33, Row k_File 43 v11 r9.1.Upper, Row k_File 43 v13 r9.1.Lower, Box g1020 [.int .i64 x1019.Number, .int .i64 x1019.Size, .string x1019.Least, .string x1019.Limit, .int .u64 x1019.Low, .int .u64 x1019.High] 43]) k_292 ?_ ?_
                      · exact ⟨0, H, hst.keep _ ⟨rfl, rfl, rfl, rfl, rfl, rfl, rfl, rfl, trivial⟩, hsh.pick [1, 1, 1, 0]⟩
                      · rintro k_340 a W_331 ⟨i_330, H, hst, hsh⟩
                        cases k_340 with
                        | zero => rw [l22_PickWhole.l1] at H; cases H
                        | succ k_340 =>
                          rw [l22_PickWhole.l1] at H
                          refine wp_seq ?_
                          refine wp_seq ?_
                          refine wp_region_lit ?_
                          refine r_t hst trivial rfl (x_move hst rfl) ?_; intro a hst
                          refine r_t hst trivial rfl (x_fieldAddr (j' := 1) hst fa_33_1 rfl rfl) ?_; intro a hst
                          refine r_t hst trivial rfl (x_loadB (i := 0) hst hsh sc_31 rfl rfl rfl) ?_; intro a hst
                          refine r_t hst trivial rfl (x_lenSl hst Try.underlying31 rfl (hsh.row 1 rfl).slen) ?_; intro a hst
                          refine r_t hst trivial rfl (x_cmpI (b := decide (i_330 < (r9.1.Upper.length : Int))) hst rfl rfl rfl) ?_; intro a hst
                          refine r_t hst trivial rfl (x_move hst rfl) ?_; intro a hst
                          obtain ⟨J_345, hJ_345, H⟩ := Jn.elim H
                          refine wl_join 12 (fun a w' => ∃ (b_344 : Bool), J_345 b_344 = some r ∧ ST Try.f4.ntmps a [(0, va0), (6, .bool false), (7, .pointer (some ⟨g15, 0, none⟩)), (9, .string r48.1), (10, .string r48.2.1), (12, .int .i64 i_234), (13, .pointer (some ⟨g1020, 0, none⟩)), (14, .int .i64 i_330), (106, .bool b_344)] ∧ SH (fun _ => False) w w' [Box g15 [.int .i64 r9.1.Level, v11, v13, .bool r9.1.Trivial] 33, Row k_File 43 v11 r9.1.Upper, Row k_File 43 v13 r9.1.Lower, Box g1020 [.int .i64 x1019.Number, .int .i64 x1019.Size, .string x1019.Least, .string x1019.Limit, .int .u64 x1019.Low, .int .u64 x1019.High] 43]) ?_ ?_
                          · rintro a W_346 ⟨b_344, H, hst, hsh⟩
                            subst hJ_345
                            dsimp only at H
                            refine wpList_nil ?_
                            refine then_normal ?_
                            by_cases c1080 : b_344 = true
                            · rw [if_pos c1080] at H
                              refine wp_condT hst rfl c1080 ?_
                              refine wp_skip ?_
                              refine then_normal ?_
                              refine wp_seq ?_
                              refine wp_block ?_
                              refine wp_seq ?_
                              refine wp_region_q (fun w' => SH (fun _ => False) w w' [Box g15 [.int .i64 r9.1.Level, v11, v13, .bool r9.1.Trivial] 33, Row k_File 43 v11 r9.1.Upper, Row k_File 43 v13 r9.1.Lower, Box g1020 [.int .i64 x1019.Number, .int .i64 x1019.Size, .string x1019.Least, .string x1019.Limit, .int .u64 x1019.Low, .int .u64 x1019.High] 43]) hsh.drew fo (by kernel_rfl) ?_
                              refine q_t hst trivial rfl (fun _ hsh => x_loadBs (i := 3) (ps := [.int .i64 x1019.Number, .int .i64 x1019.Size, .string x1019.Least, .string x1019.Limit, .int .u64 x1019.Low, .int .u64 x1019.High]) hst hsh ag_43 rfl rfl rfl) ?_; intro a hst
                              refine q_t hst trivial rfl (fun _ hsh => x_fieldAddr (j' := 1) hst fa_33_1 rfl rfl) ?_; intro a hst
                              refine q_t hst trivial rfl (fun _ hsh => x_loadB (i := 0) hst hsh sc_31 rfl rfl rfl) ?_; intro a hst
                              refine q_t hst trivial rfl (fun _ hsh => x_move hst rfl) ?_; intro a hst
                              obtain ⟨x1087, hx1087, H⟩ := Option.bind_eq_some_iff.1 H
                              refine q_t hst trivial rfl (fun _ hsh => x_indexAddr hst Try.underlying31 el_43 rfl rfl (hsh.row 1 rfl) hx1087) ?_; intro a hst
                              refine q_t hst trivial rfl (fun _ hsh => x_fieldAddrE (n' := Int.toNat i_330 * k_File.sz + 2) hst fa_43_2 rfl rfl) ?_; intro a hst
                              refine q_t hst trivial rfl (fun _ hsh => x_loadEF (j := 2) (cs := [.int .i64 x1087.Number, .int .i64 x1087.Size, .string x1087.Least, .string x1087.Limit, .int .u64 x1087.Low, .int .u64 x1087.High]) hst sc_9 rfl (hsh.row 1 rfl) (Same.refl _ _) hx1087 rfl (fun _ h => h) rfl) ?_; intro a hst
                              refine q_t hst trivial rfl (fun _ hsh => x_fieldAddr (j' := 1) hst fa_33_1 rfl rfl) ?_; intro a hst
                              refine q_t hst trivial rfl (fun _ hsh => x_loadB (i := 0) hst hsh sc_31 rfl rfl rfl) ?_; intro a hst
                              refine q_t hst trivial rfl (fun _ hsh => x_move hst rfl) ?_; intro a hst
                              obtain ⟨x1088, hx1088, H⟩ := Option.bind_eq_some_iff.1 H
                              refine q_t hst trivial rfl (fun _ hsh => x_indexAddr hst Try.underlying31 el_43 rfl rfl (hsh.row 1 rfl) hx1088) ?_; intro a hst
                              refine q_t hst trivial rfl (fun _ hsh => x_fieldAddrE (n' := Int.toNat i_330 * k_File.sz + 3) hst fa_43_3 rfl rfl) ?_; intro a hst
                              refine q_t hst trivial rfl (fun _ hsh => x_loadEF (j := 3) (cs := [.int .i64 x1088.Number, .int .i64 x1088.Size, .string x1088.Least, .string x1088.Limit, .int .u64 x1088.Low, .int .u64 x1088.High]) hst sc_9 rfl (hsh.row 1 rfl) (Same.refl _ _) hx1088 rfl (fun _ h => h) rfl) ?_; intro a hst
                              obtain ⟨r1089, hr1089, H⟩ := Option.bind_eq_some_iff.1 H
                              refine q_call hst trivial rfl fn_16 rfl (fun w9 hsh => q_calls hsh (l22_meets.calls _ x1019 x1087.Least x1088.Limit r1089 hr1089)) ?_; intro a hst
                              refine q_nil ?_
                              intro w1091 hsh
                              refine then_normal ?_
                              by_cases c1092 : r1089 = true
                              · rw [if_pos c1092] at H
                                refine wp_condT hst rfl c1092 ?_
                                refine wp_seq ?_
                                refine wp_region_lit ?_
                                refine r_t hst trivial rfl (x_assign hst rfl) ?_; intro a hst
                                refine wpList_nil ?_
                                refine then_normal ?_
                                refine wp_ret ?_
                                refine block_ret ?_
                                refine then_ret ?_
                                refine then_ret ?_
                                refine block_ret ?_
                                refine block_ret ?_
                                refine then_ret ?_
                                refine then_ret ?_
                                refine block_ret ?_
                                refine then_ret ?_
                                obtain rfl := Option.some.inj H
                                exact ret1 hst rfl rfl ⟨rfl, hsh.pick []⟩
                              · rw [if_neg c1092] at H
                                replace c1092 := Bool.eq_false_iff.2 c1092
                                refine wp_condF hst rfl c1092 ?_
                                refine wp_skip ?_
                                refine block_normal ?_
                                refine then_normal ?_
                                refine wp_region_lit ?_
                                refine r_t hst trivial rfl (x_move hst rfl) ?_; intro a hst
                                refine r_t hst trivial rfl (x_arI (r := w64 (i_330 + 1)) hst rfl rfl rfl) ?_; intro a hst
                                refine r_t hst trivial rfl (x_assign hst rfl) ?_; intro a hst
                                refine wpList_nil ?_
                                refine then_normal ?_
                                exact ⟨k_340, Nat.lt_succ_self _, (w64 (i_330 + 1)), H, hst.keep _ ⟨rfl, rfl, rfl, rfl, rfl, rfl, rfl, rfl, trivial⟩, hsh.pick [0, 0, 0, 0]⟩
                            · rw [if_neg c1080] at H
                              replace c1080 := Bool.eq_false_iff.2 c1080
                              refine wp_condF hst rfl c1080 ?_
                              refine wp_exit ?_
                              refine then_exit ?_
                              refine then_exit ?_
                              refine block_hit ?_
                              refine block_normal ?_
                              refine then_normal ?_
                              exact ⟨H, hst.keep _ ⟨rfl, rfl, rfl, rfl, rfl, rfl, trivial⟩, hsh.pick [0, 0, 0]⟩
                          · intro hj
                            by_cases c1077 : (decide (i_330 < (r9.1.Upper.length : Int))) = true
                            · rw [if_pos c1077] at H
                              refine r_t hst (wt_of 100 rfl rfl c1077) rfl (x_fieldAddr (j' := 1) hst fa_33_1 rfl rfl) ?_; intro a hst
                              refine r_t hst (wt_of 100 rfl rfl c1077) rfl (x_loadB (i := 0) hst hsh sc_31 rfl rfl rfl) ?_; intro a hst
                              refine r_t hst (wt_of 100 rfl rfl c1077) rfl (x_loadBs (i := 3) (ps := [.int .i64 x1019.Number, .int .i64 x1019.Size, .string x1019.Least, .string x1019.Limit, .int .u64 x1019.Low, .int .u64 x1019.High]) hst hsh ag_43 rfl rfl rfl) ?_; intro a hst
                              obtain ⟨r1093, hr1093, H⟩ := Option.bind_eq_some_iff.1 H
                              refine r_callD hst (wt_of 100 rfl rfl c1077) rfl fn_15 rfl (l22_in.calls k_340 _ _ _ _ (Same.refl _ _) _ (hsh.row 1 rfl) x1019 r1093 hr1093) ?_
                              rintro e w1094 ⟨rfl, hc⟩
                              replace hsh := hsh.call0 hc
                              clear hc
                              refine ⟨_, rfl, fun a hst => ?_⟩
                              refine r_t hst (wt_of 100 rfl rfl c1077) rfl (x_notB hst rfl) ?_; intro a hst
                              refine r_t hst trivial rfl (x_pickT hst rfl c1077 rfl) ?_; intro a hst
                              exact hj _ _ ⟨(!r1093), H, hst.keep _ ⟨rfl, rfl, rfl, rfl, rfl, rfl, rfl, rfl, rfl, trivial⟩, hsh.pick [0, 0, 0, 0]⟩
                            · rw [if_neg c1077] at H
                              replace c1077 := Bool.eq_false_iff.2 c1077
                              refine r_not hst 100 rfl rfl c1077 rfl ?_; intro a hst
                              refine r_not hst 100 rfl rfl c1077 rfl ?_; intro a hst
                              refine r_not hst 100 rfl rfl c1077 rfl ?_; intro a hst
                              refine r_not hst 100 rfl rfl c1077 rfl ?_; intro a hst
                              refine r_not hst 100 rfl rfl c1077 rfl ?_; intro a hst
                              refine r_t hst trivial rfl (x_pickF hst rfl c1077 rfl) ?_; intro a hst
                              exact hj _ _ ⟨false, H, hst.keep _ ⟨rfl, rfl, rfl, rfl, rfl, rfl, rfl, rfl, rfl, trivial⟩, hsh.pick [0, 0, 0, 0]⟩
                  · rw [if_neg c932] at H
                    replace c932 := Bool.eq_false_iff.2 c932
                    refine wp_condF hst rfl c932 ?_
                    refine wp_exit ?_
                    refine then_exit ?_
                    refine then_exit ?_
                    refine block_hit ?_
                    refine then_normal ?_
                    obtain ⟨J_374, hJ_374, H⟩ := Jn.elim H
                    refine wp_cut (fun a w' => J_374 = some r ∧ ST Try.f4.ntmps a [(0, va0), (6, .bool false), (7, .pointer (some ⟨g15, 0, none⟩))] ∧ SH (fun _ => False) w w' [Box g15 [.int .i64 r9.1.Level, v11, v13, .bool r9.1.Trivial] 33, Row k_File 43 v11 r9.1.Upper, Row k_File 43 v13 r9.1.Lower]) ?_ ?_
                    · rintro a W_373 ⟨H, hst, hsh⟩
                      subst hJ_374
                      obtain ⟨J_384, hJ_384, H⟩ := Jn.elim H
                      refine wp_cut (fun a w' => J_384 = some r ∧ ST Try.f4.ntmps a [(0, va0), (6, .bool false), (7, .pointer (some ⟨g15, 0, none⟩))] ∧ SH (fun _ => False) w w' [Box g15 [.int .i64 r9.1.Level, v11, v13, .bool r9.1.Trivial] 33, Row k_File 43 v11 r9.1.Upper, Row k_File 43 v13 r9.1.Lower]) ?_ ?_
                      · rintro a W_383 ⟨H, hst, hsh⟩
                        subst hJ_384
                        obtain ⟨J_394, hJ_394, H⟩ := Jn.elim H
                        refine wp_cut (fun a w' => J_394 = some r ∧ ST Try.f4.ntmps a [(6, .bool false)] ∧ SH (fun _ => False) w w' []) ?_ ?_
                        · rintro a W_393 ⟨H, hst, hsh⟩
                          subst hJ_394
                          refine wp_seq ?_
                          refine wp_region_lit ?_
                          refine r_t hst trivial rfl (x_assign hst rfl) ?_; intro a hst
                          refine wpList_nil ?_
                          refine then_normal ?_
                          refine wp_ret ?_
                          obtain rfl := Option.some.inj H
                          exact ret1 hst rfl rfl ⟨rfl, hsh.pick []⟩
                        · refine wp_seq ?_
                          refine wp_region_lit ?_
                          refine r_t hst trivial rfl (x_assign hst rfl) ?_; intro a hst
                          refine wpList_nil ?_
                          refine then_normal ?_
                          refine wp_block ?_
                          refine wp_loop_fuel (fun k_402 a w' => ∃ (i_398 : Int), l22_PickWhole.l2 a0 r9 J_394 k_402 i_398 = some r ∧ ST Try.f4.ntmps a [(0, va0), (6, .bool false), (7, .pointer (some ⟨g15, 0, none⟩)), (18, .int .i64 i_398)] ∧ SH (fun _ => False) w w' [Box g15 [.int .i64 r9.1.Level, v11, v13, .bool r9.1.Trivial] 33, Row k_File 43 v11 r9.1.Upper, Row k_File 43 v13 r9.1.Lower]) k_292 ?_ ?_
                          · exact ⟨0, H, hst.keep _ ⟨rfl, rfl, rfl, rfl, trivial⟩, hsh.pick [0, 0, 0]⟩
                          · rintro k_402 a W_399 ⟨i_398, H, hst, hsh⟩
                            cases k_402 with
                            | zero => rw [l22_PickWhole.l2] at H; cases H
                            | succ k_402 =>
                              rw [l22_PickWhole.l2] at H
                              refine wp_seq ?_
                              refine wp_seq ?_
                              refine wp_region_lit ?_
                              refine r_t hst trivial rfl (x_move hst rfl) ?_; intro a hst
                              refine r_t hst trivial rfl (x_fieldAddr (j' := 2) hst fa_33_2 rfl rfl) ?_; intro a hst
                              refine r_t hst trivial rfl (x_loadB (i := 0) hst hsh sc_31 rfl rfl rfl) ?_; intro a hst
                              refine r_t hst trivial rfl (x_lenSl hst Try.underlying31 rfl (hsh.row 2 rfl).slen) ?_; intro a hst
                              refine r_t hst trivial rfl (x_cmpI (b := decide (i_398 < (r9.1.Lower.length : Int))) hst rfl rfl rfl) ?_; intro a hst
                              refine wpList_nil ?_
                              refine then_normal ?_
                              by_cases c1410 : (decide (i_398 < (r9.1.Lower.length : Int))) = true
                              · rw [if_pos c1410] at H
                                refine wp_condT hst rfl c1410 ?_
                                refine wp_skip ?_
                                refine then_normal ?_
                                refine wp_seq ?_
                                refine wp_block ?_
                                refine wp_seq ?_
                                refine wp_region_q (fun w' => SH (fun _ => False) w w' [Box g15 [.int .i64 r9.1.Level, v11, v13, .bool r9.1.Trivial] 33, Row k_File 43 v11 r9.1.Upper, Row k_File 43 v13 r9.1.Lower]) hsh.drew fo (by kernel_rfl) ?_
                                refine q_t hst trivial rfl (fun _ hsh => x_move hst rfl) ?_; intro a hst
                                refine q_t hst trivial rfl (fun _ hsh => x_fieldAddr (j' := 0) hst fa_33_0 rfl rfl) ?_; intro a hst
                                refine q_t hst trivial rfl (fun _ hsh => x_loadB (i := 0) hst hsh sc_3 rfl rfl rfl) ?_; intro a hst
                                refine q_t hst trivial rfl (fun _ hsh => x_arI (r := w64 (r9.1.Level + 1)) hst rfl rfl rfl) ?_; intro a hst
                                obtain ⟨x1421, hx1421, H⟩ := Option.bind_eq_some_iff.1 H
                                refine q_t hst trivial rfl (fun _ hsh => x_indexAddr hst Try.underlying23 el_31 rfl rfl hra0 hx1421) ?_; intro a hst
                                obtain ⟨_, hk1422, hc1423⟩ := RD.cells2 hra0 hx1421
                                obtain ⟨v1424, rfl, hr1425⟩ := hk1422
                                refine q_t hst trivial rfl (fun _ hsh => x_loadC hst sc_31 rfl (hc1423 _ (Same.sh0 hsa0 hsh) 0 _ rfl)) ?_; intro a hst
                                refine q_t hst trivial rfl (fun _ hsh => x_fieldAddr (j' := 2) hst fa_33_2 rfl rfl) ?_; intro a hst
                                refine q_t hst trivial rfl (fun _ hsh => x_loadB (i := 0) hst hsh sc_31 rfl rfl rfl) ?_; intro a hst
                                refine q_t hst trivial rfl (fun _ hsh => x_move hst rfl) ?_; intro a hst
                                obtain ⟨x1426, hx1426, H⟩ := Option.bind_eq_some_iff.1 H
                                refine q_t hst trivial rfl (fun _ hsh => x_indexAddr hst Try.underlying31 el_43 rfl rfl (hsh.row 2 rfl) hx1426) ?_; intro a hst
                                refine q_t hst trivial rfl (fun _ hsh => x_loadEsF (j := 0) (cs := [.int .i64 x1426.Number, .int .i64 x1426.Size, .string x1426.Least, .string x1426.Limit, .int .u64 x1426.Low, .int .u64 x1426.High]) (ps := [.int .i64 x1426.Number, .int .i64 x1426.Size, .string x1426.Least, .string x1426.Limit, .int .u64 x1426.Low, .int .u64 x1426.High]) hst ag_43 rfl (hsh.row 2 rfl) (Same.refl _ _) hx1426 rfl (fun _ h => h) rfl) ?_; intro a hst
                                obtain ⟨r1427, hr1427, H⟩ := Option.bind_eq_some_iff.1 H
                                refine q_call hst trivial rfl fn_15 rfl (fun w9 hsh => q_calls hsh (l22_in.calls k_402 _ _ _ _ (Same.sh0 hsa0 hsh) _ hr1425 x1426 r1427 hr1427)) ?_; intro a hst
                                refine q_t hst trivial rfl (fun _ hsh => x_notB hst rfl) ?_; intro a hst
                                refine q_nil ?_
                                intro w1429 hsh
                                refine then_normal ?_
                                by_cases c1430 : (!r1427) = true
                                · rw [if_pos c1430] at H
                                  refine wp_condT hst rfl c1430 ?_
                                  refine wp_seq ?_
                                  refine wp_region_lit ?_
                                  refine r_t hst trivial rfl (x_assign hst rfl) ?_; intro a hst
                                  refine wpList_nil ?_
                                  refine then_normal ?_
                                  refine wp_ret ?_
                                  refine block_ret ?_
                                  refine then_ret ?_
                                  refine then_ret ?_
                                  refine block_ret ?_
                                  refine then_ret ?_
                                  obtain rfl := Option.some.inj H
                                  exact ret1 hst rfl rfl ⟨rfl, hsh.pick []⟩
                                · rw [if_neg c1430] at H
                                  replace c1430 := Bool.eq_false_iff.2 c1430
                                  refine wp_condF hst rfl c1430 ?_
                                  refine wp_skip ?_
                                  refine block_normal ?_
                                  refine then_normal ?_
                                  refine wp_region_lit ?_
                                  refine r_t hst trivial rfl (x_move hst rfl) ?_; intro a hst
                                  refine r_t hst trivial rfl (x_arI (r := w64 (i_398 + 1)) hst rfl rfl rfl) ?_; intro a hst
                                  refine r_t hst trivial rfl (x_assign hst rfl) ?_; intro a hst
                                  refine wpList_nil ?_
                                  refine then_normal ?_
                                  exact ⟨k_402, Nat.lt_succ_self _, (w64 (i_398 + 1)), H, hst.keep _ ⟨rfl, rfl, rfl, rfl, trivial⟩, hsh.pick [0, 0, 0]⟩
                              · rw [if_neg c1410] at H
                                replace c1410 := Bool.eq_false_iff.2 c1410
                                refine wp_condF hst rfl c1410 ?_
                                refine wp_exit ?_
                                refine then_exit ?_
                                refine then_exit ?_
                                refine block_hit ?_
                                refine then_normal ?_
                                exact ⟨H, hst.keep _ ⟨rfl, trivial⟩, hsh.pick []⟩
                      · refine wp_seq ?_
                        refine wp_region_lit ?_
                        refine r_t hst trivial rfl (x_assign hst rfl) ?_; intro a hst
                        refine wpList_nil ?_
                        refine then_normal ?_
                        refine wp_block ?_
                        refine wp_loop_fuel (fun k_410 a w' => ∃ (i_406 : Int), l22_PickWhole.l3 a0 r9 J_384 k_410 i_406 = some r ∧ ST Try.f4.ntmps a [(0, va0), (6, .bool false), (7, .pointer (some ⟨g15, 0, none⟩)), (17, .int .i64 i_406)] ∧ SH (fun _ => False) w w' [Box g15 [.int .i64 r9.1.Level, v11, v13, .bool r9.1.Trivial] 33, Row k_File 43 v11 r9.1.Upper, Row k_File 43 v13 r9.1.Lower]) k_292 ?_ ?_
                        · exact ⟨0, H, hst.keep _ ⟨rfl, rfl, rfl, rfl, trivial⟩, hsh.pick [0, 0, 0]⟩
                        · rintro k_410 a W_407 ⟨i_406, H, hst, hsh⟩
                          cases k_410 with
                          | zero => rw [l22_PickWhole.l3] at H; cases H
                          | succ k_410 =>
                            rw [l22_PickWhole.l3] at H
                            refine wp_seq ?_
                            refine wp_seq ?_
                            refine wp_region_lit ?_
                            refine r_t hst trivial rfl (x_move hst rfl) ?_; intro a hst
                            refine r_t hst trivial rfl (x_fieldAddr (j' := 1) hst fa_33_1 rfl rfl) ?_; intro a hst
                            refine r_t hst trivial rfl (x_loadB (i := 0) hst hsh sc_31 rfl rfl rfl) ?_; intro a hst
                            refine r_t hst trivial rfl (x_lenSl hst Try.underlying31 rfl (hsh.row 1 rfl).slen) ?_; intro a hst
                            refine r_t hst trivial rfl (x_cmpI (b := decide (i_406 < (r9.1.Upper.length : Int))) hst rfl rfl rfl) ?_; intro a hst
                            refine wpList_nil ?_
                            refine then_normal ?_
                            by_cases c1476 : (decide (i_406 < (r9.1.Upper.length : Int))) = true
                            · rw [if_pos c1476] at H
                              refine wp_condT hst rfl c1476 ?_
                              refine wp_skip ?_
                              refine then_normal ?_
                              refine wp_seq ?_
                              refine wp_block ?_
                              refine wp_seq ?_
                              refine wp_region_q (fun w' => SH (fun _ => False) w w' [Box g15 [.int .i64 r9.1.Level, v11, v13, .bool r9.1.Trivial] 33, Row k_File 43 v11 r9.1.Upper, Row k_File 43 v13 r9.1.Lower]) hsh.drew fo (by kernel_rfl) ?_
                              refine q_t hst trivial rfl (fun _ hsh => x_move hst rfl) ?_; intro a hst
                              refine q_t hst trivial rfl (fun _ hsh => x_fieldAddr (j' := 0) hst fa_33_0 rfl rfl) ?_; intro a hst
                              refine q_t hst trivial rfl (fun _ hsh => x_loadB (i := 0) hst hsh sc_3 rfl rfl rfl) ?_; intro a hst
                              obtain ⟨x1487, hx1487, H⟩ := Option.bind_eq_some_iff.1 H
                              refine q_t hst trivial rfl (fun _ hsh => x_indexAddr hst Try.underlying23 el_31 rfl rfl hra0 hx1487) ?_; intro a hst
                              obtain ⟨_, hk1488, hc1489⟩ := RD.cells2 hra0 hx1487
                              obtain ⟨v1490, rfl, hr1491⟩ := hk1488
                              refine q_t hst trivial rfl (fun _ hsh => x_loadC hst sc_31 rfl (hc1489 _ (Same.sh0 hsa0 hsh) 0 _ rfl)) ?_; intro a hst
                              refine q_t hst trivial rfl (fun _ hsh => x_fieldAddr (j' := 1) hst fa_33_1 rfl rfl) ?_; intro a hst
                              refine q_t hst trivial rfl (fun _ hsh => x_loadB (i := 0) hst hsh sc_31 rfl rfl rfl) ?_; intro a hst
                              refine q_t hst trivial rfl (fun _ hsh => x_move hst rfl) ?_; intro a hst
                              obtain ⟨x1492, hx1492, H⟩ := Option.bind_eq_some_iff.1 H
                              refine q_t hst trivial rfl (fun _ hsh => x_indexAddr hst Try.underlying31 el_43 rfl rfl (hsh.row 1 rfl) hx1492) ?_; intro a hst
                              refine q_t hst trivial rfl (fun _ hsh => x_loadEsF (j := 0) (cs := [.int .i64 x1492.Number, .int .i64 x1492.Size, .string x1492.Least, .string x1492.Limit, .int .u64 x1492.Low, .int .u64 x1492.High]) (ps := [.int .i64 x1492.Number, .int .i64 x1492.Size, .string x1492.Least, .string x1492.Limit, .int .u64 x1492.Low, .int .u64 x1492.High]) hst ag_43 rfl (hsh.row 1 rfl) (Same.refl _ _) hx1492 rfl (fun _ h => h) rfl) ?_; intro a hst
                              obtain ⟨r1493, hr1493, H⟩ := Option.bind_eq_some_iff.1 H
                              refine q_call hst trivial rfl fn_15 rfl (fun w9 hsh => q_calls hsh (l22_in.calls k_410 _ _ _ _ (Same.sh0 hsa0 hsh) _ hr1491 x1492 r1493 hr1493)) ?_; intro a hst
                              refine q_t hst trivial rfl (fun _ hsh => x_notB hst rfl) ?_; intro a hst
                              refine q_nil ?_
                              intro w1495 hsh
                              refine then_normal ?_
                              by_cases c1496 : (!r1493) = true
                              · rw [if_pos c1496] at H
                                refine wp_condT hst rfl c1496 ?_
                                refine wp_seq ?_
                                refine wp_region_lit ?_
                                refine r_t hst trivial rfl (x_assign hst rfl) ?_; intro a hst
                                refine wpList_nil ?_
                                refine then_normal ?_
                                refine wp_ret ?_
                                refine block_ret ?_
                                refine then_ret ?_
                                refine then_ret ?_
                                refine block_ret ?_
                                refine then_ret ?_
                                obtain rfl := Option.some.inj H
                                exact ret1 hst rfl rfl ⟨rfl, hsh.pick []⟩
                              · rw [if_neg c1496] at H
                                replace c1496 := Bool.eq_false_iff.2 c1496
                                refine wp_condF hst rfl c1496 ?_
                                refine wp_skip ?_
                                refine block_normal ?_
                                refine then_normal ?_
                                refine wp_region_lit ?_
                                refine r_t hst trivial rfl (x_move hst rfl) ?_; intro a hst
                                refine r_t hst trivial rfl (x_arI (r := w64 (i_406 + 1)) hst rfl rfl rfl) ?_; intro a hst
                                refine r_t hst trivial rfl (x_assign hst rfl) ?_; intro a hst
                                refine wpList_nil ?_
                                refine then_normal ?_
                                exact ⟨k_410, Nat.lt_succ_self _, (w64 (i_406 + 1)), H, hst.keep _ ⟨rfl, rfl, rfl, rfl, trivial⟩, hsh.pick [0, 0, 0]⟩
                            · rw [if_neg c1476] at H
                              replace c1476 := Bool.eq_false_iff.2 c1476
                              refine wp_condF hst rfl c1476 ?_
                              refine wp_exit ?_
                              refine then_exit ?_
                              refine then_exit ?_
                              refine block_hit ?_
                              refine then_normal ?_
                              exact ⟨H, hst.keep _ ⟨rfl, rfl, rfl, trivial⟩, hsh.pick [0, 0, 0]⟩
                    · refine wp_seq ?_
                      refine wp_region_lit ?_
                      refine r_t hst trivial rfl (x_assign hst rfl) ?_; intro a hst
                      refine wpList_nil ?_
                      refine then_normal ?_
                      refine wp_block ?_
                      refine wp_loop_fuel (fun k_430 a w' => ∃ (i_420 : Int), l22_PickWhole.l4 a0 r9 r48 J_374 k_430 i_420 = some r ∧ ST Try.f4.ntmps a [(0, va0), (6, .bool false), (7, .pointer (some ⟨g15, 0, none⟩)), (9, .string r48.1), (10, .string r48.2.1), (15, .int .i64 i_420)] ∧ SH (fun _ => False) w w' [Box g15 [.int .i64 r9.1.Level, v11, v13, .bool r9.1.Trivial] 33, Row k_File 43 v11 r9.1.Upper, Row k_File 43 v13 r9.1.Lower]) k_292 ?_ ?_
                      · exact ⟨0, H, hst.keep _ ⟨rfl, rfl, rfl, rfl, rfl, rfl, trivial⟩, hsh.pick [0, 0, 0]⟩
                      · rintro k_430 a W_421 ⟨i_420, H, hst, hsh⟩
                        cases k_430 with
                        | zero => rw [l22_PickWhole.l4] at H; cases H
                        | succ k_430 =>
                          rw [l22_PickWhole.l4] at H
                          refine wp_seq ?_
                          refine wp_seq ?_
                          refine wp_region_lit ?_
                          refine r_t hst trivial rfl (x_move hst rfl) ?_; intro a hst
                          refine r_t hst trivial rfl (x_move hst rfl) ?_; intro a hst
                          refine r_t hst trivial rfl (x_fieldAddr (j' := 0) hst fa_33_0 rfl rfl) ?_; intro a hst
                          refine r_t hst trivial rfl (x_loadB (i := 0) hst hsh sc_3 rfl rfl rfl) ?_; intro a hst
                          refine r_t hst trivial rfl (x_arI (r := w64 (r9.1.Level + 1)) hst rfl rfl rfl) ?_; intro a hst
                          obtain ⟨x1595, hx1595, H⟩ := Option.bind_eq_some_iff.1 H
                          refine r_t hst trivial rfl (x_indexAddr hst Try.underlying23 el_31 rfl rfl hra0 hx1595) ?_; intro a hst
                          obtain ⟨_, hk1596, hc1597⟩ := RD.cells2 hra0 hx1595
                          obtain ⟨v1598, rfl, hr1599⟩ := hk1596
                          refine r_t hst trivial rfl (x_loadC hst sc_31 rfl (hc1597 _ (Same.sh0 hsa0 hsh) 0 _ rfl)) ?_; intro a hst
                          refine r_t hst trivial rfl (x_lenSl hst Try.underlying31 rfl hr1599.slen) ?_; intro a hst
                          refine r_t hst trivial rfl (x_cmpI (b := decide (i_420 < (x1595.length : Int))) hst rfl rfl rfl) ?_; intro a hst
                          refine wpList_nil ?_
                          refine then_normal ?_
                          by_cases c1600 : (decide (i_420 < (x1595.length : Int))) = true
                          · rw [if_pos c1600] at H
                            refine wp_condT hst rfl c1600 ?_
                            refine wp_skip ?_
                            refine then_normal ?_
                            refine wp_seq ?_
                            refine wp_block ?_
                            refine wp_seq ?_
                            refine wp_region_lit ?_
                            refine r_t hst trivial rfl (x_move hst rfl) ?_; intro a hst
                            refine r_t hst trivial rfl (x_fieldAddr (j' := 0) hst fa_33_0 rfl rfl) ?_; intro a hst
                            refine r_t hst trivial rfl (x_loadB (i := 0) hst hsh sc_3 rfl rfl rfl) ?_; intro a hst
                            refine r_t hst trivial rfl (x_arI (r := w64 (r9.1.Level + 1)) hst rfl rfl rfl) ?_; intro a hst
                            obtain ⟨x1618, hx1618, H⟩ := Option.bind_eq_some_iff.1 H
                            refine r_t hst trivial rfl (x_indexAddr hst Try.underlying23 el_31 rfl rfl hra0 hx1618) ?_; intro a hst
                            obtain ⟨_, hk1619, hc1620⟩ := RD.cells2 hra0 hx1618
                            obtain ⟨v1621, rfl, hr1622⟩ := hk1619
                            refine r_t hst trivial rfl (x_loadC hst sc_31 rfl (hc1620 _ (Same.sh0 hsa0 hsh) 0 _ rfl)) ?_; intro a hst
                            refine r_t hst trivial rfl (x_move hst rfl) ?_; intro a hst
                            obtain ⟨x1623, hx1623, H⟩ := Option.bind_eq_some_iff.1 H
                            refine r_t hst trivial rfl (x_indexAddr hst Try.underlying31 el_43 rfl rfl hr1622 hx1623) ?_; intro a hst
                            refine r_t hst trivial rfl (x_loadEsF (j := 0) (cs := [.int .i64 x1623.Number, .int .i64 x1623.Size, .string x1623.Least, .string x1623.Limit, .int .u64 x1623.Low, .int .u64 x1623.High]) (ps := [.int .i64 x1623.Number, .int .i64 x1623.Size, .string x1623.Least, .string x1623.Limit, .int .u64 x1623.Low, .int .u64 x1623.High]) hst ag_43 rfl hr1622 (Same.sh0 hsa0 hsh) hx1623 rfl (fun _ h => h) rfl) ?_; intro a hst
                            refine r_alloc hst hsh trivial rfl zr_43 ?_
                            intro g1624 a w1625 hgg1624 hsh hst
                            refine r_storeBs (i := 0) (cs' := [.int .i64 x1623.Number, .int .i64 x1623.Size, .string x1623.Least, .string x1623.Limit, .int .u64 x1623.Low, .int .u64 x1623.High]) (vs := [.int .i64 x1623.Number, .int .i64 x1623.Size, .string x1623.Least, .string x1623.Limit, .int .u64 x1623.Low, .int .u64 x1623.High]) hst hsh trivial ag_43 rfl rfl rfl rfl rfl rfl ?_; intro a w1626 hsh hst
                            refine wpList_nil ?_
                            refine then_normal ?_
                            refine wp_seq ?_
                            refine wp_region_lit ?_
                            refine r_t hst trivial rfl (x_fieldAddr (j' := 2) hst fa_33_2 rfl rfl) ?_; intro a hst
                            refine r_t hst trivial rfl (x_loadB (i := 1) hst hsh sc_31 rfl rfl rfl) ?_; intro a hst
                            refine r_t hst trivial rfl (x_loadBs (i := 0) (ps := [.int .i64 x1623.Number, .int .i64 x1623.Size, .string x1623.Least, .string x1623.Limit, .int .u64 x1623.Low, .int .u64 x1623.High]) hst hsh ag_43 rfl rfl rfl) ?_; intro a hst
                            obtain ⟨r1627, hr1627, H⟩ := Option.bind_eq_some_iff.1 H
                            refine r_callD hst trivial rfl fn_15 rfl (l22_in.calls k_430 _ _ _ _ (Same.refl _ _) _ (hsh.row 3 rfl) x1623 r1627 hr1627) ?_
                            rintro e w1628 ⟨rfl, hc⟩
                            replace hsh := hsh.call0 hc
                            clear hc
                            refine ⟨_, rfl, fun a hst => ?_⟩
                            refine r_t hst trivial rfl (x_notB hst rfl) ?_; intro a hst
                            refine r_t hst trivial rfl (x_move hst rfl) ?_; intro a hst
                            obtain ⟨J_435, hJ_435, H⟩ := Jn.elim H
                            refine wl_join 11 (fun a w' => ∃ (b_434 : Bool), J_435 b_434 = some r ∧ ST Try.f4.ntmps a [(0, va0), (6, .bool false), (7, .pointer (some ⟨g15, 0, none⟩)), (9, .string r48.1), (10, .string r48.2.1), (15, .int .i64 i_420), (153, .bool b_434)] ∧ SH (fun _ => False) w w' [Box g15 [.int .i64 r9.1.Level, v11, v13, .bool r9.1.Trivial] 33, Row k_File 43 v11 r9.1.Upper, Row k_File 43 v13 r9.1.Lower]) ?_ ?_
                            · rintro a W_436 ⟨b_434, H, hst, hsh⟩
                              subst hJ_435
                              dsimp only at H
                              refine wpList_nil ?_
                              refine then_normal ?_
                              by_cases c1632 : b_434 = true
                              · rw [if_pos c1632] at H
                                refine wp_condT hst rfl c1632 ?_
                                refine wp_seq ?_
                                refine wp_region_lit ?_
                                refine r_t hst trivial rfl (x_assign hst rfl) ?_; intro a hst
                                refine wpList_nil ?_
                                refine then_normal ?_
                                refine wp_ret ?_
                                refine block_ret ?_
                                refine then_ret ?_
                                refine then_ret ?_
                                refine block_ret ?_
                                refine then_ret ?_
                                obtain rfl := Option.some.inj H
                                exact ret1 hst rfl rfl ⟨rfl, hsh.pick []⟩
                              · rw [if_neg c1632] at H
                                replace c1632 := Bool.eq_false_iff.2 c1632
                                refine wp_condF hst rfl c1632 ?_
                                refine wp_skip ?_
                                refine block_normal ?_
                                refine then_normal ?_
                                refine wp_region_lit ?_
                                refine r_t hst trivial rfl (x_move hst rfl) ?_; intro a hst
                                refine r_t hst trivial rfl (x_arI (r := w64 (i_420 + 1)) hst rfl rfl rfl) ?_; intro a hst
                                refine r_t hst trivial rfl (x_assign hst rfl) ?_; intro a hst
                                refine wpList_nil ?_
                                refine then_normal ?_
                                exact ⟨k_430, Nat.lt_succ_self _, (w64 (i_420 + 1)), H, hst.keep _ ⟨rfl, rfl, rfl, rfl, rfl, rfl, trivial⟩, hsh.pick [0, 0, 0]⟩
                            · intro hj
                              by_cases c1629 : (!r1627) = true
                              · rw [if_pos c1629] at H
                                refine r_t hst (wt_of 148 rfl rfl c1629) rfl (x_loadBs (i := 0) (ps := [.int .i64 x1623.Number, .int .i64 x1623.Size, .string x1623.Least, .string x1623.Limit, .int .u64 x1623.Low, .int .u64 x1623.High]) hst hsh ag_43 rfl rfl rfl) ?_; intro a hst
                                refine r_t hst (wt_of 148 rfl rfl c1629) rfl (x_move hst rfl) ?_; intro a hst
                                refine r_t hst (wt_of 148 rfl rfl c1629) rfl (x_move hst rfl) ?_; intro a hst
                                obtain ⟨r1633, hr1633, H⟩ := Option.bind_eq_some_iff.1 H
                                refine r_callD hst (wt_of 148 rfl rfl c1629) rfl fn_16 rfl (l22_meets.calls _ x1623 r48.1 r48.2.1 r1633 hr1633) ?_
                                rintro e w1634 ⟨rfl, hc⟩
                                replace hsh := hsh.call0 hc
                                clear hc
                                refine ⟨_, rfl, fun a hst => ?_⟩
                                refine r_t hst trivial rfl (x_pickT hst rfl c1629 rfl) ?_; intro a hst
                                exact hj _ _ ⟨r1633, H, hst.keep _ ⟨rfl, rfl, rfl, rfl, rfl, rfl, rfl, trivial⟩, hsh.pick [1, 1, 1]⟩
                              · rw [if_neg c1629] at H
                                replace c1629 := Bool.eq_false_iff.2 c1629
                                refine r_not hst 148 rfl rfl c1629 rfl ?_; intro a hst
                                refine r_not hst 148 rfl rfl c1629 rfl ?_; intro a hst
                                refine r_not hst 148 rfl rfl c1629 rfl ?_; intro a hst
                                refine r_not hst 148 rfl rfl c1629 rfl ?_; intro a hst
                                refine r_t hst trivial rfl (x_pickF hst rfl c1629 rfl) ?_; intro a hst
                                exact hj _ _ ⟨false, H, hst.keep _ ⟨rfl, rfl, rfl, rfl, rfl, rfl, rfl, trivial⟩, hsh.pick [1, 1, 1]⟩
                          · rw [if_neg c1600] at H
                            replace c1600 := Bool.eq_false_iff.2 c1600
                            refine wp_condF hst rfl c1600 ?_
                            refine wp_exit ?_
                            refine then_exit ?_
                            refine then_exit ?_
                            refine block_hit ?_
                            refine then_normal ?_
                            exact ⟨H, hst.keep _ ⟨rfl, rfl, rfl, trivial⟩, hsh.pick [0, 0, 0]⟩
          · intro hj
            by_cases c32 : (((decide (r9.1.Level < 0)) || (decide ((a0.length : Int) ≤ (w64 (r9.1.Level + 1))))) || ((r9.1.Upper.length : Int) == 0)) = true
            · rw [if_pos c32] at H
              refine r_not hst 57 rfl rfl c32 rfl ?_; intro a hst
              refine r_not hst 57 rfl rfl c32 rfl ?_; intro a hst
              refine r_not hst 57 rfl rfl c32 rfl ?_; intro a hst
              refine r_not hst 57 rfl rfl c32 rfl ?_; intro a hst
              refine r_not hst 57 rfl rfl c32 rfl ?_; intro a hst
              refine r_not hst 57 rfl rfl c32 rfl ?_; intro a hst
              refine r_t hst trivial rfl (x_pickT hst rfl c32 rfl) ?_; intro a hst
              exact hj _ _ ⟨true, H, hst.keep _ ⟨rfl, rfl, rfl, rfl, trivial⟩, hsh.pick [0, 0, 0]⟩
            · rw [if_neg c32] at H
              replace c32 := Bool.eq_false_iff.2 c32
              refine r_t hst (wt_of 57 rfl rfl c32) rfl (x_move hst rfl) ?_; intro a hst
              refine r_t hst (wt_of 57 rfl rfl c32) rfl (x_loadBs (i := 3) (ps := [.int .i64 a1.Block, .int .i64 a1.Mem, .int .i64 a1.Frozen, .int .i64 a1.Shape.Page, .int .i64 a1.Shape.Restart, .int .i64 a1.Shape.Bits, .int .i64 a1.Cut, .int .i64 a1.Files0, .int .i64 a1.Stop0, .int .i64 a1.Base, .int .i64 a1.Ratio, .int .i64 a1.Levels, .int .i64 a1.Chunk, .int .i64 a1.Roll, .int .i64 a1.Clients, va1_0]) hst hsh ag_28 rfl rfl rfl) ?_; intro a hst
              refine r_t hst (wt_of 57 rfl rfl c32) rfl (x_fieldAddr (j' := 0) hst fa_33_0 rfl rfl) ?_; intro a hst
              refine r_t hst (wt_of 57 rfl rfl c32) rfl (x_loadB (i := 0) hst hsh sc_3 rfl rfl rfl) ?_; intro a hst
              obtain ⟨r1635, hr1635, H⟩ := Option.bind_eq_some_iff.1 H
              refine r_callD hst (wt_of 57 rfl rfl c32) rfl fn_13 rfl (pick_Score.calls k _ _ _ _ (Same.sh0 hsa0 hsh) _ hra0 a1 _ _ _ (Same.sh0 hsa1_0 hsh) hra1_0 r9.1.Level r1635 hr1635) ?_
              rintro e w1636 ⟨rfl, hc⟩
              replace hsh := hsh.call0 hc
              clear hc
              refine ⟨_, rfl, fun a hst => ?_⟩
              refine r_t hst (wt_of 57 rfl rfl c32) rfl (x_cmpI (b := decide (r1635 < 1000)) hst rfl rfl rfl) ?_; intro a hst
              refine r_t hst trivial rfl (x_pickF hst rfl c32 rfl) ?_; intro a hst
              exact hj _ _ ⟨(decide (r1635 < 1000)), H, hst.keep _ ⟨rfl, rfl, rfl, rfl, trivial⟩, hsh.pick [0, 0, 0]⟩
        · intro hj
          by_cases c31 : ((decide (r9.1.Level < 0)) || (decide ((a0.length : Int) ≤ (w64 (r9.1.Level + 1))))) = true
          · refine r_not hst 51 rfl rfl c31 rfl ?_; intro a hst
            refine r_not hst 51 rfl rfl c31 rfl ?_; intro a hst
            refine r_not hst 51 rfl rfl c31 rfl ?_; intro a hst
            refine r_not hst 51 rfl rfl c31 rfl ?_; intro a hst
            refine r_t hst trivial rfl (x_orT ((r9.1.Upper.length : Int) == 0) hst rfl c31 rfl) ?_; intro a hst
            exact hj _ (hst.keep _ ⟨rfl, rfl, rfl, rfl, rfl, trivial⟩)
          · replace c31 := Bool.eq_false_iff.2 c31
            refine r_t hst (wt_of 51 rfl rfl c31) rfl (x_fieldAddr (j' := 1) hst fa_33_1 rfl rfl) ?_; intro a hst
            refine r_t hst (wt_of 51 rfl rfl c31) rfl (x_loadB (i := 0) hst hsh sc_31 rfl rfl rfl) ?_; intro a hst
            refine r_t hst (wt_of 51 rfl rfl c31) rfl (x_lenSl hst Try.underlying31 rfl (hsh.row 1 rfl).slen) ?_; intro a hst
            refine r_t hst (wt_of 51 rfl rfl c31) rfl (x_cmpI (b := ((r9.1.Upper.length : Int) == 0)) hst rfl rfl rfl) ?_; intro a hst
            refine r_t hst trivial rfl (x_orF hst rfl c31 rfl) ?_; intro a hst
            exact hj _ (hst.keep _ ⟨rfl, rfl, rfl, rfl, rfl, trivial⟩)
      · intro hj
        by_cases c30 : (decide (r9.1.Level < 0)) = true
        · refine r_not hst 43 rfl rfl c30 rfl ?_; intro a hst
          refine r_not hst 43 rfl rfl c30 rfl ?_; intro a hst
          refine r_not hst 43 rfl rfl c30 rfl ?_; intro a hst
          refine r_not hst 43 rfl rfl c30 rfl ?_; intro a hst
          refine r_not hst 43 rfl rfl c30 rfl ?_; intro a hst
          refine r_not hst 43 rfl rfl c30 rfl ?_; intro a hst
          refine r_t hst trivial rfl (x_orT (decide ((a0.length : Int) ≤ (w64 (r9.1.Level + 1)))) hst rfl c30 rfl) ?_; intro a hst
          exact hj _ (hst.keep _ ⟨rfl, rfl, rfl, rfl, rfl, trivial⟩)
        · replace c30 := Bool.eq_false_iff.2 c30
          refine r_t hst (wt_of 43 rfl rfl c30) rfl (x_fieldAddr (j' := 0) hst fa_33_0 rfl rfl) ?_; intro a hst
          refine r_t hst (wt_of 43 rfl rfl c30) rfl (x_loadB (i := 0) hst hsh sc_3 rfl rfl rfl) ?_; intro a hst
          refine r_t hst (wt_of 43 rfl rfl c30) rfl (x_arI (r := w64 (r9.1.Level + 1)) hst rfl rfl rfl) ?_; intro a hst
          refine r_t hst (wt_of 43 rfl rfl c30) rfl (x_move hst rfl) ?_; intro a hst
          refine r_t hst (wt_of 43 rfl rfl c30) rfl (x_lenSl hst Try.underlying23 rfl hra0.slen) ?_; intro a hst
          refine r_t hst (wt_of 43 rfl rfl c30) rfl (x_cmpI (b := decide ((a0.length : Int) ≤ (w64 (r9.1.Level + 1)))) hst rfl rfl rfl) ?_; intro a hst
          refine r_t hst trivial rfl (x_orF hst rfl c30 rfl) ?_; intro a hst
          exact hj _ (hst.keep _ ⟨rfl, rfl, rfl, rfl, rfl, trivial⟩)
end Go.Proofs.Ytckjpkecipgeiaa.Mo
