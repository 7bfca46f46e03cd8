/- Printed by gen.py: contracts. -/
import Derived.Test.YtckjpkecipgeiaaPkCa1
set_option linter.unusedVariables false
set_option linter.unusedSimpArgs false
set_option maxRecDepth 100000
namespace Go.Proofs.Ytckjpkecipgeiaa.Mo
open Go Go.Proofs.Ytckjpkecipgeiaa.Sy
open Go.Proofs
set_option maxHeartbeats 4000000 in
set_option maxRecDepth 100000 in
theorem l22_works.calls (k : Nat) (w : World)  (r : Bool) (h : l22_works k = some r) :
    Calls Try.prog 10 ([] : List Value).toArray w fun e w' => e = .returned (.bool r) ∧ SH (fun _ => False) w w' [] := by
  have H := h
  clear h
  unfold l22_works at H
  refine calls_enter Try.func10 rfl rfl ?_
  intro a hst
  have hsh := SH.zero (fun _ => False) w
  refine wp_seq ?_
  refine wp_region_lit ?_
  refine r_t hst trivial rfl (x_assign hst rfl) ?_; intro a hst
  refine wpList_nil ?_
  refine then_normal ?_
  refine wp_seq ?_
  refine wp_region_lit ?_
  obtain ⟨r1, hr1, H⟩ := Option.bind_eq_some_iff.1 H
  refine r_callD hst trivial rfl fn_36 rfl (l22_file.calls _ 4 (ByteArray.mk #[97]) (ByteArray.mk #[99]) 10 r1 hr1) ?_
  rintro e w2 ⟨rfl, hc⟩
  replace hsh := hsh.call0 hc
  clear hc
  refine ⟨_, rfl, fun a hst => ?_⟩
  obtain ⟨r3, hr3, H⟩ := Option.bind_eq_some_iff.1 H
  refine r_callD hst trivial rfl fn_36 rfl (l22_file.calls _ 6 (ByteArray.mk #[100]) (ByteArray.mk #[101]) 10 r3 hr3) ?_
  rintro e w4 ⟨rfl, hc⟩
  replace hsh := hsh.call0 hc
  clear hc
  refine ⟨_, rfl, fun a hst => ?_⟩
  obtain ⟨r5, hr5, H⟩ := Option.bind_eq_some_iff.1 H
  refine r_callD hst trivial rfl fn_36 rfl (l22_file.calls _ 7 (ByteArray.mk #[98]) (ByteArray.mk #[100]) 10 r5 hr5) ?_
  rintro e w6 ⟨rfl, hc⟩
  replace hsh := hsh.call0 hc
  clear hc
  refine ⟨_, rfl, fun a hst => ?_⟩
  refine r_buildSlice (vs := [.agg #[.int .i64 r1.Number, .int .i64 r1.Size, .string r1.Least, .string r1.Limit, .int .u64 r1.Low, .int .u64 r1.High], .agg #[.int .i64 r3.Number, .int .i64 r3.Size, .string r3.Least, .string r3.Limit, .int .u64 r3.Low, .int .u64 r3.High], .agg #[.int .i64 r5.Number, .int .i64 r5.Size, .string r5.Least, .string r5.Limit, .int .u64 r5.Low, .int .u64 r5.High]]) (cs := [.int .i64 r1.Number, .int .i64 r1.Size, .string r1.Least, .string r1.Limit, .int .u64 r1.Low, .int .u64 r1.High, .int .i64 r3.Number, .int .i64 r3.Size, .string r3.Least, .string r3.Limit, .int .u64 r3.Low, .int .u64 r3.High, .int .i64 r5.Number, .int .i64 r5.Size, .string r5.Least, .string r5.Limit, .int .u64 r5.Low, .int .u64 r5.High]) hst hsh trivial rfl Try.underlying31 el_43 rfl rfl (by simp [Value.cells]) rfl rfl ?_
  intro g7 a w8 hgg7 hsh hst
  replace hsh := hsh.pick [0]
  replace hsh : SH (fun _ => False) w w8 [Row k_File 43 (.slice (some ⟨g7, 0, none⟩) 3 3) ([r1, r3, r5])] := SH.boxRow ([r1, r3, r5] : List File) hsh rfl rfl rfl
  obtain ⟨r10, hr10, H⟩ := Option.bind_eq_some_iff.1 H
  refine r_callD hst trivial rfl fn_36 rfl (l22_file.calls _ 2 (ByteArray.mk #[97]) (ByteArray.mk #[98]) 30 r10 hr10) ?_
  rintro e w11 ⟨rfl, hc⟩
  replace hsh := hsh.call0 hc
  clear hc
  refine ⟨_, rfl, fun a hst => ?_⟩
  obtain ⟨r12, hr12, H⟩ := Option.bind_eq_some_iff.1 H
  refine r_callD hst trivial rfl fn_36 rfl (l22_file.calls _ 3 (ByteArray.mk #[120]) (ByteArray.mk #[122]) 30 r12 hr12) ?_
  rintro e w13 ⟨rfl, hc⟩
  replace hsh := hsh.call0 hc
  clear hc
  refine ⟨_, rfl, fun a hst => ?_⟩
  refine r_buildSlice (vs := [.agg #[.int .i64 r10.Number, .int .i64 r10.Size, .string r10.Least, .string r10.Limit, .int .u64 r10.Low, .int .u64 r10.High], .agg #[.int .i64 r12.Number, .int .i64 r12.Size, .string r12.Least, .string r12.Limit, .int .u64 r12.Low, .int .u64 r12.High]]) (cs := [.int .i64 r10.Number, .int .i64 r10.Size, .string r10.Least, .string r10.Limit, .int .u64 r10.Low, .int .u64 r10.High, .int .i64 r12.Number, .int .i64 r12.Size, .string r12.Least, .string r12.Limit, .int .u64 r12.Low, .int .u64 r12.High]) hst hsh trivial rfl Try.underlying31 el_43 rfl rfl (by simp [Value.cells]) rfl rfl ?_
  intro g14 a w15 hgg14 hsh hst
  replace hsh := hsh.pick [0, 0]
  replace hsh : SH (fun _ => False) w w15 [Row k_File 43 (.slice (some ⟨g14, 0, none⟩) 2 2) ([r10, r12]), Row k_File 43 (.slice (some ⟨g7, 0, none⟩) 3 3) ([r1, r3, r5])] := SH.boxRow ([r10, r12] : List File) hsh rfl rfl rfl
  refine r_buildSlice (vs := [(.slice (some ⟨g7, 0, none⟩) 3 3), (.slice (some ⟨g14, 0, none⟩) 2 2), (.slice none 0 0)]) (cs := [(.slice (some ⟨g7, 0, none⟩) 3 3), (.slice (some ⟨g14, 0, none⟩) 2 2), (.slice none 0 0)]) hst hsh trivial rfl Try.underlying23 el_31 rfl rfl (by simp [cells_sl, cells_slen (hsh.row 1 rfl).slen, cells_slen (hsh.row 0 rfl).slen]) rfl (by simp [cells_sl, cells_slen (hsh.row 1 rfl).slen, cells_slen (hsh.row 0 rfl).slen]) ?_
  intro g17 a w18 hgg17 hsh hst
  replace hsh := hsh.pick [0, 1, 0]
  replace hsh : SH (fun _ => False) w w18 [Row (Kd.slice 43 k_File) 31 (.slice (some ⟨g17, 0, none⟩) 3 3) ([[r1, r3, r5], [r10, r12], []])] := SH.boxRowM (C := [Row k_File 43 (.slice (some ⟨g7, 0, none⟩) 3 3) ([r1, r3, r5]), Row k_File 43 (.slice (some ⟨g14, 0, none⟩) 2 2) ([r10, r12])]) ([[r1, r3, r5], [r10, r12], []] : List (List File)) hsh (ef_cons mf_slice (ef_cons mf_slice (ef_cons mf_nil ef_nil))) rfl rfl (by decide)
  refine r_t hst trivial rfl (x_assign hst rfl) ?_; intro a hst
  refine wpList_nil ?_
  refine then_normal ?_
  refine wp_seq ?_
  refine wp_region_lit ?_
  refine r_t hst trivial rfl (x_build (cs := [.int .i64 0, .int .i64 0, .int .i64 0, .int .i64 0, .int .i64 0, .int .i64 0, .int .i64 50, .int .i64 2, .int .i64 0, .int .i64 100, .int .i64 10, .int .i64 3, .int .i64 0, .int .i64 0, .int .i64 0, (.slice none 0 0)]) hst rfl (by kernel_rfl)) ?_; intro a hst
  refine r_alloc hst hsh trivial rfl zr_28 ?_
  intro g20 a w21 hgg20 hsh hst
  refine r_storeBs (i := 0) (cs' := [.int .i64 0, .int .i64 0, .int .i64 0, .int .i64 0, .int .i64 0, .int .i64 0, .int .i64 50, .int .i64 2, .int .i64 0, .int .i64 100, .int .i64 10, .int .i64 3, .int .i64 0, .int .i64 0, .int .i64 0, (.slice none 0 0)]) (vs := [.int .i64 0, .int .i64 0, .int .i64 0, .int .i64 0, .int .i64 0, .int .i64 0, .int .i64 50, .int .i64 2, .int .i64 0, .int .i64 100, .int .i64 10, .int .i64 3, .int .i64 0, .int .i64 0, .int .i64 0, (.slice none 0 0)]) hst hsh trivial ag_28 rfl rfl rfl rfl (one_cons rfl (one_cons rfl (one_cons rfl (one_cons rfl (one_cons rfl (one_cons rfl (one_cons rfl (one_cons rfl (one_cons rfl (one_cons rfl (one_cons rfl (one_cons rfl (one_cons rfl (one_cons rfl (one_cons rfl (one_cons rfl rfl)))))))))))))))) rfl ?_; intro a w22 hsh hst
  refine wpList_nil ?_
  refine then_normal ?_
  refine wp_seq ?_
  refine wp_region_lit ?_
  refine r_t hst trivial rfl (x_move hst rfl) ?_; intro a hst
  refine r_t hst trivial rfl (x_loadBs (i := 0) (ps := [.int .i64 0, .int .i64 0, .int .i64 0, .int .i64 0, .int .i64 0, .int .i64 0, .int .i64 50, .int .i64 2, .int .i64 0, .int .i64 100, .int .i64 10, .int .i64 3, .int .i64 0, .int .i64 0, .int .i64 0, (.slice none 0 0)]) hst hsh ag_28 rfl rfl rfl) ?_; intro a hst
  obtain ⟨r23, hr23, H⟩ := Option.bind_eq_some_iff.1 H
  refine r_callD hst trivial rfl fn_8 rfl (pick_Next.calls k _ _ _ _ (Same.refl _ _) _ (hsh.row 1 rfl) (⟨0, 0, 0, (⟨0, 0, 0⟩ : Shape), 50, 2, 0, 100, 10, 3, 0, 0, 0, []⟩ : Config) _ _ _ (Same.refl _ _) (RD.nil (Kd.int .i64) (fun _ => True) _) _ _ _ (Same.refl _ _) _ (RD.nil Kd.str (fun _ => True) _) r23 hr23) ?_
  rintro e w24 ⟨v25, v27, rfl, hc⟩
  replace hsh := hsh.call0 hc
  clear hc
  refine ⟨_, rfl, fun a hst => ?_⟩
  refine r_t hst trivial rfl (x_move hst rfl) ?_; intro a hst
  refine r_t hst trivial rfl (x_extract hst rfl rfl) ?_; intro a hst
  refine r_t hst trivial rfl (x_extract hst rfl rfl) ?_; intro a hst
  refine r_alloc hst hsh trivial rfl zr_33 ?_
  intro g29 a w30 hgg29 hsh hst
  refine r_storeBs (i := 0) (cs' := [.int .i64 r23.1.Level, v25, v27, .bool r23.1.Trivial]) (vs := [.int .i64 r23.1.Level, v25, v27, .bool r23.1.Trivial]) hst hsh trivial ag_33 rfl rfl rfl rfl (one_cons rfl (one_cons (one_slice (hsh.row 1 rfl).slen) (one_cons (one_slice (hsh.row 2 rfl).slen) (one_cons rfl rfl)))) rfl ?_; intro a w31 hsh hst
  refine r_t hst trivial rfl (x_assign hst rfl) ?_; intro a hst
  refine wpList_nil ?_
  refine then_normal ?_
  refine wp_seq ?_
  refine wp_region_lit ?_
  refine r_t hst trivial rfl (x_move hst rfl) ?_; intro a hst
  refine r_t hst trivial rfl (x_move hst rfl) ?_; intro a hst
  obtain ⟨J_2, hJ_2, H⟩ := Jn.elim H
  refine wl_join 7 (fun a w' => ∃ (b_1 : Bool), J_2 b_1 = some r ∧ ST Try.f10.ntmps a [(0, .bool false), (1, (.slice (some ⟨g17, 0, none⟩) 3 3)), (2, .pointer (some ⟨g20, 0, none⟩)), (3, .pointer (some ⟨g29, 0, none⟩)), (26, .bool b_1)] ∧ SH (fun _ => False) w w' [Row (Kd.slice 43 k_File) 31 (.slice (some ⟨g17, 0, none⟩) 3 3) ([[r1, r3, r5], [r10, r12], []]), Box g20 [.int .i64 0, .int .i64 0, .int .i64 0, .int .i64 0, .int .i64 0, .int .i64 0, .int .i64 50, .int .i64 2, .int .i64 0, .int .i64 100, .int .i64 10, .int .i64 3, .int .i64 0, .int .i64 0, .int .i64 0, (.slice none 0 0)] 28, Box g29 [.int .i64 r23.1.Level, v25, v27, .bool r23.1.Trivial] 33, Row k_File 43 v25 r23.1.Upper, Row k_File 43 v27 r23.1.Lower]) ?_ ?_
  · rintro a W_3 ⟨b_1, H, hst, hsh⟩
    subst hJ_2
    dsimp only at H
    refine r_t hst trivial rfl (x_move hst rfl) ?_; intro a hst
    obtain ⟨J_5, hJ_5, H⟩ := Jn.elim H
    refine wl_join 13 (fun a w' => ∃ (b_4 : Bool), J_5 b_4 = some r ∧ ST Try.f10.ntmps a [(0, .bool false), (3, .pointer (some ⟨g29, 0, none⟩)), (32, .bool b_4)] ∧ SH (fun _ => False) w w' [Box g29 [.int .i64 r23.1.Level, v25, v27, .bool r23.1.Trivial] 33, Row k_File 43 v25 r23.1.Upper, Row k_File 43 v27 r23.1.Lower]) ?_ ?_
    · rintro a W_6 ⟨b_4, H, hst, hsh⟩
      subst hJ_5
      dsimp only at H
      refine r_t hst trivial rfl (x_move hst rfl) ?_; intro a hst
      refine wl_join0 (N := Try.f10.ntmps) 18 [(0, .bool false), (3, .pointer (some ⟨g29, 0, none⟩)), (37, .bool (b_4 && (r23.1.Level == 0)))] ?_ ?_
      · intro a hst
        refine r_t hst trivial rfl (x_move hst rfl) ?_; intro a hst
        refine wl_join0 (N := Try.f10.ntmps) 24 [(0, .bool false), (3, .pointer (some ⟨g29, 0, none⟩)), (43, .bool ((b_4 && (r23.1.Level == 0)) && ((r23.1.Upper.length : Int) == 2)))] ?_ ?_
        · intro a hst
          refine r_t hst trivial rfl (x_move hst rfl) ?_; intro a hst
          obtain ⟨J_8, hJ_8, H⟩ := Jn.elim H
          refine wl_join 32 (fun a w' => ∃ (b_7 : Bool), J_8 b_7 = some r ∧ ST Try.f10.ntmps a [(0, .bool false), (3, .pointer (some ⟨g29, 0, none⟩)), (51, .bool b_7)] ∧ SH (fun _ => False) w w' [Box g29 [.int .i64 r23.1.Level, v25, v27, .bool r23.1.Trivial] 33, Row k_File 43 v25 r23.1.Upper, Row k_File 43 v27 r23.1.Lower]) ?_ ?_
          · rintro a W_9 ⟨b_7, H, hst, hsh⟩
            subst hJ_8
            dsimp only at H
            refine r_t hst trivial rfl (x_move hst rfl) ?_; intro a hst
            refine wl_join0 (N := Try.f10.ntmps) 38 [(0, .bool false), (3, .pointer (some ⟨g29, 0, none⟩)), (57, .bool (b_7 && ((r23.1.Lower.length : Int) == 1)))] ?_ ?_
            · intro a hst
              refine r_t hst trivial rfl (x_move hst rfl) ?_; intro a hst
              obtain ⟨J_11, hJ_11, H⟩ := Jn.elim H
              refine wl_join 46 (fun a w' => ∃ (b_10 : Bool), J_11 b_10 = some r ∧ ST Try.f10.ntmps a [(0, .bool false), (3, .pointer (some ⟨g29, 0, none⟩)), (65, .bool b_10)] ∧ SH (fun _ => False) w w' [Box g29 [.int .i64 r23.1.Level, v25, v27, .bool r23.1.Trivial] 33, Row k_File 43 v25 r23.1.Upper, Row k_File 43 v27 r23.1.Lower]) ?_ ?_
              · rintro a W_12 ⟨b_10, H, hst, hsh⟩
                subst hJ_11
                dsimp only at H
                refine r_t hst trivial rfl (x_move hst rfl) ?_; intro a hst
                refine wl_join0 (N := Try.f10.ntmps) 51 [(0, .bool false), (70, .bool (b_10 && (!r23.1.Trivial)))] ?_ ?_
                · intro a hst
                  refine r_t hst trivial rfl (x_assign hst rfl) ?_; intro a hst
                  refine wpList_nil ?_
                  refine then_normal ?_
                  refine wp_ret ?_
                  obtain rfl := Option.some.inj H
                  exact ret1 hst rfl rfl ⟨rfl, hsh.pick []⟩
                · intro hj
                  by_cases c45 : b_10 = true
                  · refine r_t hst (wt_of 66 rfl rfl c45) rfl (x_fieldAddr (j' := 3) hst fa_33_3 rfl rfl) ?_; intro a hst
                    refine r_t hst (wt_of 66 rfl rfl c45) rfl (x_loadB (i := 0) hst hsh sc_4 rfl rfl rfl) ?_; intro a hst
                    refine r_t hst (wt_of 66 rfl rfl c45) rfl (x_notB hst rfl) ?_; intro a hst
                    refine r_t hst trivial rfl (x_andT hst rfl c45 rfl) ?_; intro a hst
                    exact hj _ (hst.keep _ ⟨rfl, rfl, trivial⟩)
                  · replace c45 := Bool.eq_false_iff.2 c45
                    refine r_not hst 66 rfl rfl c45 rfl ?_; intro a hst
                    refine r_not hst 66 rfl rfl c45 rfl ?_; intro a hst
                    refine r_not hst 66 rfl rfl c45 rfl ?_; intro a hst
                    refine r_t hst trivial rfl (x_andF (!r23.1.Trivial) hst rfl c45 rfl) ?_; intro a hst
                    exact hj _ (hst.keep _ ⟨rfl, rfl, trivial⟩)
              · intro hj
                by_cases c43 : (b_7 && ((r23.1.Lower.length : Int) == 1)) = true
                · rw [if_pos c43] at H
                  refine r_t hst (wt_of 58 rfl rfl c43) rfl (x_fieldAddr (j' := 2) hst fa_33_2 rfl rfl) ?_; intro a hst
                  refine r_t hst (wt_of 58 rfl rfl c43) rfl (x_loadB (i := 0) hst hsh sc_31 rfl rfl rfl) ?_; intro a hst
                  obtain ⟨x46, hx46, H⟩ := Option.bind_eq_some_iff.1 H
                  refine r_t hst (wt_of 58 rfl rfl c43) rfl (x_indexAddr hst Try.underlying31 el_43 rfl rfl (hsh.row 2 rfl) hx46) ?_; intro a hst
                  refine r_t hst (wt_of 58 rfl rfl c43) rfl (x_fieldAddrE (n' := Int.toNat 0 * k_File.sz) hst fa_43_0 rfl rfl) ?_; intro a hst
                  refine r_t hst (wt_of 58 rfl rfl c43) rfl (x_loadEF (j := 0) (cs := [.int .i64 x46.Number, .int .i64 x46.Size, .string x46.Least, .string x46.Limit, .int .u64 x46.Low, .int .u64 x46.High]) hst sc_3 rfl (hsh.row 2 rfl) (Same.refl _ _) hx46 rfl (fun _ h => h) rfl) ?_; intro a hst
                  refine r_t hst (wt_of 58 rfl rfl c43) rfl (x_cmpI (b := (x46.Number == 2)) hst rfl rfl rfl) ?_; intro a hst
                  refine r_t hst trivial rfl (x_pickT hst rfl c43 rfl) ?_; intro a hst
                  exact hj _ _ ⟨(x46.Number == 2), H, hst.keep _ ⟨rfl, rfl, rfl, trivial⟩, hsh.pick [0, 0, 0]⟩
                · rw [if_neg c43] at H
                  replace c43 := Bool.eq_false_iff.2 c43
                  refine r_not hst 58 rfl rfl c43 rfl ?_; intro a hst
                  refine r_not hst 58 rfl rfl c43 rfl ?_; intro a hst
                  refine r_not hst 58 rfl rfl c43 rfl ?_; intro a hst
                  refine r_not hst 58 rfl rfl c43 rfl ?_; intro a hst
                  refine r_not hst 58 rfl rfl c43 rfl ?_; intro a hst
                  refine r_not hst 58 rfl rfl c43 rfl ?_; intro a hst
                  refine r_t hst trivial rfl (x_pickF hst rfl c43 rfl) ?_; intro a hst
                  exact hj _ _ ⟨false, H, hst.keep _ ⟨rfl, rfl, rfl, trivial⟩, hsh.pick [0, 0, 0]⟩
            · intro hj
              by_cases c42 : b_7 = true
              · refine r_t hst (wt_of 52 rfl rfl c42) rfl (x_fieldAddr (j' := 2) hst fa_33_2 rfl rfl) ?_; intro a hst
                refine r_t hst (wt_of 52 rfl rfl c42) rfl (x_loadB (i := 0) hst hsh sc_31 rfl rfl rfl) ?_; intro a hst
                refine r_t hst (wt_of 52 rfl rfl c42) rfl (x_lenSl hst Try.underlying31 rfl (hsh.row 2 rfl).slen) ?_; intro a hst
                refine r_t hst (wt_of 52 rfl rfl c42) rfl (x_cmpI (b := ((r23.1.Lower.length : Int) == 1)) hst rfl rfl rfl) ?_; intro a hst
                refine r_t hst trivial rfl (x_andT hst rfl c42 rfl) ?_; intro a hst
                exact hj _ (hst.keep _ ⟨rfl, rfl, rfl, trivial⟩)
              · replace c42 := Bool.eq_false_iff.2 c42
                refine r_not hst 52 rfl rfl c42 rfl ?_; intro a hst
                refine r_not hst 52 rfl rfl c42 rfl ?_; intro a hst
                refine r_not hst 52 rfl rfl c42 rfl ?_; intro a hst
                refine r_not hst 52 rfl rfl c42 rfl ?_; intro a hst
                refine r_t hst trivial rfl (x_andF ((r23.1.Lower.length : Int) == 1) hst rfl c42 rfl) ?_; intro a hst
                exact hj _ (hst.keep _ ⟨rfl, rfl, rfl, trivial⟩)
          · intro hj
            by_cases c40 : ((b_4 && (r23.1.Level == 0)) && ((r23.1.Upper.length : Int) == 2)) = true
            · rw [if_pos c40] at H
              refine r_t hst (wt_of 44 rfl rfl c40) rfl (x_fieldAddr (j' := 1) hst fa_33_1 rfl rfl) ?_; intro a hst
              refine r_t hst (wt_of 44 rfl rfl c40) rfl (x_loadB (i := 0) hst hsh sc_31 rfl rfl rfl) ?_; intro a hst
              obtain ⟨x47, hx47, H⟩ := Option.bind_eq_some_iff.1 H
              refine r_t hst (wt_of 44 rfl rfl c40) rfl (x_indexAddr hst Try.underlying31 el_43 rfl rfl (hsh.row 1 rfl) hx47) ?_; intro a hst
              refine r_t hst (wt_of 44 rfl rfl c40) rfl (x_fieldAddrE (n' := Int.toNat 1 * k_File.sz) hst fa_43_0 rfl rfl) ?_; intro a hst
              refine r_t hst (wt_of 44 rfl rfl c40) rfl (x_loadEF (j := 0) (cs := [.int .i64 x47.Number, .int .i64 x47.Size, .string x47.Least, .string x47.Limit, .int .u64 x47.Low, .int .u64 x47.High]) hst sc_3 rfl (hsh.row 1 rfl) (Same.refl _ _) hx47 rfl (fun _ h => h) rfl) ?_; intro a hst
              refine r_t hst (wt_of 44 rfl rfl c40) rfl (x_cmpI (b := (x47.Number == 7)) hst rfl rfl rfl) ?_; intro a hst
              refine r_t hst trivial rfl (x_pickT hst rfl c40 rfl) ?_; intro a hst
              exact hj _ _ ⟨(x47.Number == 7), H, hst.keep _ ⟨rfl, rfl, rfl, trivial⟩, hsh.pick [0, 0, 0]⟩
            · rw [if_neg c40] at H
              replace c40 := Bool.eq_false_iff.2 c40
              refine r_not hst 44 rfl rfl c40 rfl ?_; intro a hst
              refine r_not hst 44 rfl rfl c40 rfl ?_; intro a hst
              refine r_not hst 44 rfl rfl c40 rfl ?_; intro a hst
              refine r_not hst 44 rfl rfl c40 rfl ?_; intro a hst
              refine r_not hst 44 rfl rfl c40 rfl ?_; intro a hst
              refine r_not hst 44 rfl rfl c40 rfl ?_; intro a hst
              refine r_t hst trivial rfl (x_pickF hst rfl c40 rfl) ?_; intro a hst
              exact hj _ _ ⟨false, H, hst.keep _ ⟨rfl, rfl, rfl, trivial⟩, hsh.pick [0, 0, 0]⟩
        · intro hj
          by_cases c39 : (b_4 && (r23.1.Level == 0)) = true
          · refine r_t hst (wt_of 38 rfl rfl c39) rfl (x_fieldAddr (j' := 1) hst fa_33_1 rfl rfl) ?_; intro a hst
            refine r_t hst (wt_of 38 rfl rfl c39) rfl (x_loadB (i := 0) hst hsh sc_31 rfl rfl rfl) ?_; intro a hst
            refine r_t hst (wt_of 38 rfl rfl c39) rfl (x_lenSl hst Try.underlying31 rfl (hsh.row 1 rfl).slen) ?_; intro a hst
            refine r_t hst (wt_of 38 rfl rfl c39) rfl (x_cmpI (b := ((r23.1.Upper.length : Int) == 2)) hst rfl rfl rfl) ?_; intro a hst
            refine r_t hst trivial rfl (x_andT hst rfl c39 rfl) ?_; intro a hst
            exact hj _ (hst.keep _ ⟨rfl, rfl, rfl, trivial⟩)
          · replace c39 := Bool.eq_false_iff.2 c39
            refine r_not hst 38 rfl rfl c39 rfl ?_; intro a hst
            refine r_not hst 38 rfl rfl c39 rfl ?_; intro a hst
            refine r_not hst 38 rfl rfl c39 rfl ?_; intro a hst
            refine r_not hst 38 rfl rfl c39 rfl ?_; intro a hst
            refine r_t hst trivial rfl (x_andF ((r23.1.Upper.length : Int) == 2) hst rfl c39 rfl) ?_; intro a hst
            exact hj _ (hst.keep _ ⟨rfl, rfl, rfl, trivial⟩)
      · intro hj
        by_cases c38 : b_4 = true
        · refine r_t hst (wt_of 33 rfl rfl c38) rfl (x_fieldAddr (j' := 0) hst fa_33_0 rfl rfl) ?_; intro a hst
          refine r_t hst (wt_of 33 rfl rfl c38) rfl (x_loadB (i := 0) hst hsh sc_3 rfl rfl rfl) ?_; intro a hst
          refine r_t hst (wt_of 33 rfl rfl c38) rfl (x_cmpI (b := (r23.1.Level == 0)) hst rfl rfl rfl) ?_; intro a hst
          refine r_t hst trivial rfl (x_andT hst rfl c38 rfl) ?_; intro a hst
          exact hj _ (hst.keep _ ⟨rfl, rfl, rfl, trivial⟩)
        · replace c38 := Bool.eq_false_iff.2 c38
          refine r_not hst 33 rfl rfl c38 rfl ?_; intro a hst
          refine r_not hst 33 rfl rfl c38 rfl ?_; intro a hst
          refine r_not hst 33 rfl rfl c38 rfl ?_; intro a hst
          refine r_t hst trivial rfl (x_andF (r23.1.Level == 0) hst rfl c38 rfl) ?_; intro a hst
          exact hj _ (hst.keep _ ⟨rfl, rfl, rfl, trivial⟩)
    · intro hj
      by_cases c35 : b_1 = true
      · rw [if_pos c35] at H
        refine r_t hst (wt_of 27 rfl rfl c35) rfl (x_move hst rfl) ?_; intro a hst
        refine r_t hst (wt_of 27 rfl rfl c35) rfl (x_loadBs (i := 1) (ps := [.int .i64 0, .int .i64 0, .int .i64 0, .int .i64 0, .int .i64 0, .int .i64 0, .int .i64 50, .int .i64 2, .int .i64 0, .int .i64 100, .int .i64 10, .int .i64 3, .int .i64 0, .int .i64 0, .int .i64 0, (.slice none 0 0)]) hst hsh ag_28 rfl rfl rfl) ?_; intro a hst
        obtain ⟨r48, hr48, H⟩ := Option.bind_eq_some_iff.1 H
        refine r_callD hst (wt_of 27 rfl rfl c35) rfl fn_13 rfl (pick_Score.calls k _ _ _ _ (Same.refl _ _) _ (hsh.row 0 rfl) (⟨0, 0, 0, (⟨0, 0, 0⟩ : Shape), 50, 2, 0, 100, 10, 3, 0, 0, 0, []⟩ : Config) _ _ _ (Same.refl _ _) (RD.nil (Kd.int .i64) (fun _ => True) _) 1 r48 hr48) ?_
        rintro e w49 ⟨rfl, hc⟩
        replace hsh := hsh.call0 hc
        clear hc
        refine ⟨_, rfl, fun a hst => ?_⟩
        refine r_t hst (wt_of 27 rfl rfl c35) rfl (x_cmpI (b := (r48 == 600)) hst rfl rfl rfl) ?_; intro a hst
        refine r_t hst trivial rfl (x_pickT hst rfl c35 rfl) ?_; intro a hst
        exact hj _ _ ⟨(r48 == 600), H, hst.keep _ ⟨rfl, rfl, rfl, trivial⟩, hsh.pick [2, 2, 2]⟩
      · rw [if_neg c35] at H
        replace c35 := Bool.eq_false_iff.2 c35
        refine r_not hst 27 rfl rfl c35 rfl ?_; intro a hst
        refine r_not hst 27 rfl rfl c35 rfl ?_; intro a hst
        refine r_not hst 27 rfl rfl c35 rfl ?_; intro a hst
        refine r_not hst 27 rfl rfl c35 rfl ?_; intro a hst
        refine r_t hst trivial rfl (x_pickF hst rfl c35 rfl) ?_; intro a hst
        exact hj _ _ ⟨false, H, hst.keep _ ⟨rfl, rfl, rfl, trivial⟩, hsh.pick [2, 2, 2]⟩
  · intro hj
    by_cases c32 : r23.2 = true
    · rw [if_pos c32] at H
      refine r_t hst (wt_of 21 rfl rfl c32) rfl (x_move hst rfl) ?_; intro a hst
      refine r_t hst (wt_of 21 rfl rfl c32) rfl (x_loadBs (i := 3) (ps := [.int .i64 0, .int .i64 0, .int .i64 0, .int .i64 0, .int .i64 0, .int .i64 0, .int .i64 50, .int .i64 2, .int .i64 0, .int .i64 100, .int .i64 10, .int .i64 3, .int .i64 0, .int .i64 0, .int .i64 0, (.slice none 0 0)]) hst hsh ag_28 rfl rfl rfl) ?_; intro a hst
      obtain ⟨r50, hr50, H⟩ := Option.bind_eq_some_iff.1 H
      refine r_callD hst (wt_of 21 rfl rfl c32) rfl fn_13 rfl (pick_Score.calls k _ _ _ _ (Same.refl _ _) _ (hsh.row 4 rfl) (⟨0, 0, 0, (⟨0, 0, 0⟩ : Shape), 50, 2, 0, 100, 10, 3, 0, 0, 0, []⟩ : Config) _ _ _ (Same.refl _ _) (RD.nil (Kd.int .i64) (fun _ => True) _) 0 r50 hr50) ?_
      rintro e w51 ⟨rfl, hc⟩
      replace hsh := hsh.call0 hc
      clear hc
      refine ⟨_, rfl, fun a hst => ?_⟩
      refine r_t hst (wt_of 21 rfl rfl c32) rfl (x_cmpI (b := (r50 == 1500)) hst rfl rfl rfl) ?_; intro a hst
      refine r_t hst trivial rfl (x_pickT hst rfl c32 rfl) ?_; intro a hst
      exact hj _ _ ⟨(r50 == 1500), H, hst.keep _ ⟨rfl, rfl, rfl, rfl, rfl, trivial⟩, hsh.pick [4, 3, 0, 0, 0]⟩
    · rw [if_neg c32] at H
      replace c32 := Bool.eq_false_iff.2 c32
      refine r_not hst 21 rfl rfl c32 rfl ?_; intro a hst
      refine r_not hst 21 rfl rfl c32 rfl ?_; intro a hst
      refine r_not hst 21 rfl rfl c32 rfl ?_; intro a hst
      refine r_not hst 21 rfl rfl c32 rfl ?_; intro a hst
      refine r_t hst trivial rfl (x_pickF hst rfl c32 rfl) ?_; intro a hst
      exact hj _ _ ⟨false, H, hst.keep _ ⟨rfl, rfl, rfl, rfl, rfl, trivial⟩, hsh.pick [4, 3, 0, 0, 0]⟩

set_option maxHeartbeats 4000000 in
set_option maxRecDepth 100000 in
theorem l22_files.calls (k : Nat) (w : World) (va0 : Value) (Za0 : Nat → Prop) (wra0 : World) (hsa0 : Same Za0 wra0 w) (a0 : (List File)) (hra0 : RD k_File Za0 wra0 va0 a0) (va1 : Value) (Za1 : Nat → Prop) (wra1 : World) (hsa1 : Same Za1 wra1 w) (a1 : (List File)) (hra1 : RD k_File Za1 wra1 va1 a1) (r : Bool) (h : l22_files k a0 a1 = some r) :
    Calls Try.prog 11 ([va0, va1] : List Value).toArray w fun e w' => e = .returned (.bool r) ∧ SH (fun _ => False) w w' [] := by
  have H := h
  clear h
  unfold l22_files at H
  refine calls_enter Try.func11 rfl rfl ?_
  intro a hst
  have hsh := SH.zero (fun _ => False) w
  refine wp_seq ?_
  refine wp_region_lit ?_
  refine r_t hst trivial rfl (x_assign hst rfl) ?_; intro a hst
  refine wpList_nil ?_
  refine then_normal ?_
  refine wp_seq ?_
  refine wp_seq ?_
  refine wp_region_lit ?_
  refine r_t hst trivial rfl (x_move hst rfl) ?_; intro a hst
  refine r_t hst trivial rfl (x_lenSl hst Try.underlying31 rfl hra0.slen) ?_; intro a hst
  refine r_t hst trivial rfl (x_move hst rfl) ?_; intro a hst
  refine r_t hst trivial rfl (x_lenSl hst Try.underlying31 rfl hra1.slen) ?_; intro a hst
  refine r_t hst trivial rfl (x_cmpI (b := ((a0.length : Int) != (a1.length : Int))) hst rfl rfl rfl) ?_; intro a hst
  refine wpList_nil ?_
  refine then_normal ?_
  by_cases c2 : ((a0.length : Int) != (a1.length : Int)) = true
  · rw [if_pos c2] at H
    refine wp_condT hst rfl c2 ?_
    refine wp_seq ?_
    refine wp_region_lit ?_
    refine r_t hst trivial rfl (x_assign hst rfl) ?_; intro a hst
    refine wpList_nil ?_
    refine then_normal ?_
    refine wp_ret ?_
    refine then_ret ?_
    obtain rfl := Option.some.inj H
    exact ret1 hst rfl rfl ⟨rfl, hsh.pick []⟩
  · rw [if_neg c2] at H
    replace c2 := Bool.eq_false_iff.2 c2
    refine wp_condF hst rfl c2 ?_
    refine wp_skip ?_
    refine then_normal ?_
    refine wp_seq ?_
    refine wp_seq ?_
    refine wp_region_lit ?_
    refine r_t hst trivial rfl (x_assign hst rfl) ?_; intro a hst
    refine wpList_nil ?_
    refine then_normal ?_
    refine wp_block ?_
    refine wp_loop_fuel (fun k_16 a w' => ∃ (i_12 : Int), l22_files.l0 a0 a1 k_16 i_12 = some r ∧ ST Try.f11.ntmps a [(0, va0), (1, va1), (4, .bool false), (5, .int .i64 i_12)] ∧ SH (fun _ => False) w w' []) k ?_ ?_
    · exact ⟨0, H, hst.keep _ ⟨rfl, rfl, rfl, rfl, trivial⟩, hsh.pick []⟩
    · rintro k_16 a W_13 ⟨i_12, H, hst, hsh⟩
      cases k_16 with
      | zero => rw [l22_files.l0] at H; cases H
      | succ k_16 =>
        rw [l22_files.l0] at H
        refine wp_seq ?_
        refine wp_seq ?_
        refine wp_region_lit ?_
        refine r_t hst trivial rfl (x_move hst rfl) ?_; intro a hst
        refine r_t hst trivial rfl (x_move hst rfl) ?_; intro a hst
        refine r_t hst trivial rfl (x_lenSl hst Try.underlying31 rfl hra0.slen) ?_; intro a hst
        refine r_t hst trivial rfl (x_cmpI (b := decide (i_12 < (a0.length : Int))) hst rfl rfl rfl) ?_; intro a hst
        refine wpList_nil ?_
        refine then_normal ?_
        by_cases c54 : (decide (i_12 < (a0.length : Int))) = true
        · rw [if_pos c54] at H
          refine wp_condT hst rfl c54 ?_
          refine wp_skip ?_
          refine then_normal ?_
          refine wp_seq ?_
          refine wp_block ?_
          refine wp_seq ?_
          refine wp_region_q (fun w' => SH (fun _ => False) w w' []) hsh.drew fo (by kernel_rfl) ?_
          refine q_t hst trivial rfl (fun _ hsh => x_move hst rfl) ?_; intro a hst
          refine q_t hst trivial rfl (fun _ hsh => x_move hst rfl) ?_; intro a hst
          obtain ⟨x59, hx59, H⟩ := Option.bind_eq_some_iff.1 H
          refine q_t hst trivial rfl (fun _ hsh => x_indexAddr hst Try.underlying31 el_43 rfl rfl hra0 hx59) ?_; intro a hst
          refine q_t hst trivial rfl (fun _ hsh => x_loadEsF (j := 0) (cs := [.int .i64 x59.Number, .int .i64 x59.Size, .string x59.Least, .string x59.Limit, .int .u64 x59.Low, .int .u64 x59.High]) (ps := [.int .i64 x59.Number, .int .i64 x59.Size, .string x59.Least, .string x59.Limit, .int .u64 x59.Low, .int .u64 x59.High]) hst ag_43 rfl hra0 (Same.sh0 hsa0 hsh) hx59 rfl (fun _ h => h) rfl) ?_; intro a hst
          refine q_t hst trivial rfl (fun _ hsh => x_move hst rfl) ?_; intro a hst
          refine q_t hst trivial rfl (fun _ hsh => x_move hst rfl) ?_; intro a hst
          obtain ⟨x60, hx60, H⟩ := Option.bind_eq_some_iff.1 H
          refine q_t hst trivial rfl (fun _ hsh => x_indexAddr hst Try.underlying31 el_43 rfl rfl hra1 hx60) ?_; intro a hst
          refine q_t hst trivial rfl (fun _ hsh => x_loadEsF (j := 0) (cs := [.int .i64 x60.Number, .int .i64 x60.Size, .string x60.Least, .string x60.Limit, .int .u64 x60.Low, .int .u64 x60.High]) (ps := [.int .i64 x60.Number, .int .i64 x60.Size, .string x60.Least, .string x60.Limit, .int .u64 x60.Low, .int .u64 x60.High]) hst ag_43 rfl hra1 (Same.sh0 hsa1 hsh) hx60 rfl (fun _ h => h) rfl) ?_; intro a hst
          refine q_t hst trivial rfl (fun _ hsh => x_eqSn (b := File.eqb x59 x60) (x0 := x59) (y0 := x60) hst eqof_43 rfl rfl rfl) ?_; intro a hst
          refine q_nil ?_
          intro w61 hsh
          refine then_normal ?_
          by_cases c62 : (!File.eqb x59 x60) = true
          · rw [if_pos c62] at H
            refine wp_condT hst rfl c62 ?_
            refine wp_seq ?_
            refine wp_region_lit ?_
            refine r_t hst trivial rfl (x_assign hst rfl) ?_; intro a hst
            refine wpList_nil ?_
            refine then_normal ?_
            refine wp_ret ?_
            refine block_ret ?_
            refine then_ret ?_
            refine then_ret ?_
            refine block_ret ?_
            refine then_ret ?_
            obtain rfl := Option.some.inj H
            exact ret1 hst rfl rfl ⟨rfl, hsh.pick []⟩
          · rw [if_neg c62] at H
            replace c62 := Bool.eq_false_iff.2 c62
            refine wp_condF hst rfl c62 ?_
            refine wp_skip ?_
            refine block_normal ?_
            refine then_normal ?_
            refine wp_region_lit ?_
            refine r_t hst trivial rfl (x_move hst rfl) ?_; intro a hst
            refine r_t hst trivial rfl (x_arI (r := w64 (i_12 + 1)) hst rfl rfl rfl) ?_; intro a hst
            refine r_t hst trivial rfl (x_assign hst rfl) ?_; intro a hst
            refine wpList_nil ?_
            refine then_normal ?_
            exact ⟨k_16, Nat.lt_succ_self _, (w64 (i_12 + 1)), H, hst.keep _ ⟨rfl, rfl, rfl, rfl, trivial⟩, hsh.pick []⟩
        · rw [if_neg c54] at H
          replace c54 := Bool.eq_false_iff.2 c54
          refine wp_condF hst rfl c54 ?_
          refine wp_exit ?_
          refine then_exit ?_
          refine then_exit ?_
          refine block_hit ?_
          refine then_normal ?_
          refine wp_seq ?_
          refine wp_region_lit ?_
          refine r_t hst trivial rfl (x_assign hst rfl) ?_; intro a hst
          refine wpList_nil ?_
          refine then_normal ?_
          refine wp_ret ?_
          obtain rfl := Option.some.inj H
          exact ret1 hst rfl rfl ⟨rfl, hsh.pick []⟩

set_option maxHeartbeats 4000000 in
set_option maxRecDepth 100000 in
theorem r16_Same.calls (k : Nat) (w : World) (va0 : Value) (Za0 : Nat → Prop) (wra0 : World) (hsa0 : Same Za0 wra0 w) (a0 : (List (List File))) (hra0 : RD (Kd.slice 43 k_File) Za0 wra0 va0 a0) (va1 : Value) (Za1 : Nat → Prop) (wra1 : World) (hsa1 : Same Za1 wra1 w) (a1 : (List (List File))) (hra1 : RD (Kd.slice 43 k_File) Za1 wra1 va1 a1) (r : Bool) (h : r16_Same k a0 a1 = some r) :
    Calls Try.prog 12 ([va0, va1] : List Value).toArray w fun e w' => e = .returned (.bool r) ∧ SH (fun _ => False) w w' [] := by
  have H := h
  clear h
  unfold r16_Same at H
  refine calls_enter Try.func12 rfl rfl ?_
  intro a hst
  have hsh := SH.zero (fun _ => False) w
  refine wp_seq ?_
  refine wp_region_lit ?_
  refine r_t hst trivial rfl (x_assign hst rfl) ?_; intro a hst
  refine wpList_nil ?_
  refine then_normal ?_
  refine wp_seq ?_
  refine wp_seq ?_
  refine wp_region_lit ?_
  refine r_t hst trivial rfl (x_move hst rfl) ?_; intro a hst
  refine r_t hst trivial rfl (x_lenSl hst Try.underlying23 rfl hra0.slen) ?_; intro a hst
  refine r_t hst trivial rfl (x_move hst rfl) ?_; intro a hst
  refine r_t hst trivial rfl (x_lenSl hst Try.underlying23 rfl hra1.slen) ?_; intro a hst
  refine r_t hst trivial rfl (x_cmpI (b := ((a0.length : Int) != (a1.length : Int))) hst rfl rfl rfl) ?_; intro a hst
  refine wpList_nil ?_
  refine then_normal ?_
  by_cases c2 : ((a0.length : Int) != (a1.length : Int)) = true
  · rw [if_pos c2] at H
    refine wp_condT hst rfl c2 ?_
    refine wp_seq ?_
    refine wp_region_lit ?_
    refine r_t hst trivial rfl (x_assign hst rfl) ?_; intro a hst
    refine wpList_nil ?_
    refine then_normal ?_
    refine wp_ret ?_
    refine then_ret ?_
    obtain rfl := Option.some.inj H
    exact ret1 hst rfl rfl ⟨rfl, hsh.pick []⟩
  · rw [if_neg c2] at H
    replace c2 := Bool.eq_false_iff.2 c2
    refine wp_condF hst rfl c2 ?_
    refine wp_skip ?_
    refine then_normal ?_
    refine wp_seq ?_
    refine wp_seq ?_
    refine wp_region_lit ?_
    refine r_t hst trivial rfl (x_assign hst rfl) ?_; intro a hst
    refine wpList_nil ?_
    refine then_normal ?_
    refine wp_block ?_
    refine wp_loop_fuel (fun k_106 a w' => ∃ (i_84 : Int), r16_Same.l0 a0 a1 k_106 i_84 = some r ∧ ST Try.f12.ntmps a [(0, va0), (1, va1), (4, .bool false), (5, .int .i64 i_84)] ∧ SH (fun _ => False) w w' []) k ?_ ?_
    · exact ⟨0, H, hst.keep _ ⟨rfl, rfl, rfl, rfl, trivial⟩, hsh.pick []⟩
    · rintro k_106 a W_85 ⟨i_84, H, hst, hsh⟩
      cases k_106 with
      | zero => rw [r16_Same.l0] at H; cases H
      | succ k_106 =>
        rw [r16_Same.l0] at H
        refine wp_seq ?_
        refine wp_seq ?_
        refine wp_region_lit ?_
        refine r_t hst trivial rfl (x_move hst rfl) ?_; intro a hst
        refine r_t hst trivial rfl (x_move hst rfl) ?_; intro a hst
        refine r_t hst trivial rfl (x_lenSl hst Try.underlying23 rfl hra0.slen) ?_; intro a hst
        refine r_t hst trivial rfl (x_cmpI (b := decide (i_84 < (a0.length : Int))) hst rfl rfl rfl) ?_; intro a hst
        refine wpList_nil ?_
        refine then_normal ?_
        by_cases c1454 : (decide (i_84 < (a0.length : Int))) = true
        · rw [if_pos c1454] at H
          refine wp_condT hst rfl c1454 ?_
          refine wp_skip ?_
          refine then_normal ?_
          obtain ⟨J_116, hJ_116, H⟩ := Jn.elim H
          refine wp_cut (fun a w' => J_116 = some r ∧ ST Try.f12.ntmps a [(0, va0), (1, va1), (4, .bool false), (5, .int .i64 i_84)] ∧ SH (fun _ => False) w w' []) ?_ ?_
          · rintro a W_115 ⟨H, hst, hsh⟩
            subst hJ_116
            refine wp_region_lit ?_
            refine r_t hst trivial rfl (x_move hst rfl) ?_; intro a hst
            refine r_t hst trivial rfl (x_arI (r := w64 (i_84 + 1)) hst rfl rfl rfl) ?_; intro a hst
            refine r_t hst trivial rfl (x_assign hst rfl) ?_; intro a hst
            refine wpList_nil ?_
            refine then_normal ?_
            exact ⟨k_106, Nat.lt_succ_self _, (w64 (i_84 + 1)), H, hst.keep _ ⟨rfl, rfl, rfl, rfl, trivial⟩, hsh.pick []⟩
          · refine wp_block ?_
            refine wp_seq ?_
            refine wp_seq ?_
            refine wp_region_q (fun w' => SH (fun _ => False) w w' []) hsh.drew fo (by kernel_rfl) ?_
            refine q_t hst trivial rfl (fun _ hsh => x_move hst rfl) ?_; intro a hst
            refine q_t hst trivial rfl (fun _ hsh => x_move hst rfl) ?_; intro a hst
            obtain ⟨x1611, hx1611, H⟩ := Option.bind_eq_some_iff.1 H
            refine q_t hst trivial rfl (fun _ hsh => x_indexAddr hst Try.underlying23 el_31 rfl rfl hra0 hx1611) ?_; intro a hst
            obtain ⟨_, hk1612, hc1613⟩ := RD.cells2 hra0 hx1611
            obtain ⟨v1614, rfl, hr1615⟩ := hk1612
            refine q_t hst trivial rfl (fun _ hsh => x_loadC hst sc_31 rfl (hc1613 _ (Same.sh0 hsa0 hsh) 0 _ rfl)) ?_; intro a hst
            refine q_t hst trivial rfl (fun _ hsh => x_lenSl hst Try.underlying31 rfl hr1615.slen) ?_; intro a hst
            refine q_t hst trivial rfl (fun _ hsh => x_move hst rfl) ?_; intro a hst
            refine q_t hst trivial rfl (fun _ hsh => x_move hst rfl) ?_; intro a hst
            obtain ⟨x1616, hx1616, H⟩ := Option.bind_eq_some_iff.1 H
            refine q_t hst trivial rfl (fun _ hsh => x_indexAddr hst Try.underlying23 el_31 rfl rfl hra1 hx1616) ?_; intro a hst
            obtain ⟨_, hk1617, hc1618⟩ := RD.cells2 hra1 hx1616
            obtain ⟨v1619, rfl, hr1620⟩ := hk1617
            refine q_t hst trivial rfl (fun _ hsh => x_loadC hst sc_31 rfl (hc1618 _ (Same.sh0 hsa1 hsh) 0 _ rfl)) ?_; intro a hst
            refine q_t hst trivial rfl (fun _ hsh => x_lenSl hst Try.underlying31 rfl hr1620.slen) ?_; intro a hst
            refine q_t hst trivial rfl (fun _ hsh => x_cmpI (b := ((x1611.length : Int) != (x1616.length : Int))) hst rfl rfl rfl) ?_; intro a hst
            refine q_nil ?_
            intro w1621 hsh
            refine then_normal ?_
            by_cases c1622 : ((x1611.length : Int) != (x1616.length : Int)) = true
            · rw [if_pos c1622] at H
              refine wp_condT hst rfl c1622 ?_
              refine wp_seq ?_
              refine wp_region_lit ?_
              refine r_t hst trivial rfl (x_assign hst rfl) ?_; intro a hst
              refine wpList_nil ?_
              refine then_normal ?_
              refine wp_ret ?_
              refine then_ret ?_
              refine block_ret ?_
              refine then_ret ?_
              refine then_ret ?_
              refine block_ret ?_
              refine then_ret ?_
              obtain rfl := Option.some.inj H
              exact ret1 hst rfl rfl ⟨rfl, hsh.pick []⟩
            · rw [if_neg c1622] at H
              replace c1622 := Bool.eq_false_iff.2 c1622
              refine wp_condF hst rfl c1622 ?_
              refine wp_skip ?_
              refine then_normal ?_
              refine wp_seq ?_
              refine wp_region_lit ?_
              refine r_t hst trivial rfl (x_assign hst rfl) ?_; intro a hst
              refine wpList_nil ?_
              refine then_normal ?_
              refine wp_block ?_
              refine wp_loop_fuel (fun k_124 a w' => ∃ (i_120 : Int), r16_Same.l1 a0 a1 i_84 J_116 k_124 i_120 = some r ∧ ST Try.f12.ntmps a [(0, va0), (1, va1), (4, .bool false), (5, .int .i64 i_84), (6, .int .i64 i_120)] ∧ SH (fun _ => False) w w' []) k_106 ?_ ?_
              · exact ⟨0, H, hst.keep _ ⟨rfl, rfl, rfl, rfl, rfl, trivial⟩, hsh.pick []⟩
              · rintro k_124 a W_121 ⟨i_120, H, hst, hsh⟩
                cases k_124 with
                | zero => rw [r16_Same.l1] at H; cases H
                | succ k_124 =>
                  rw [r16_Same.l1] at H
                  refine wp_seq ?_
                  refine wp_seq ?_
                  refine wp_region_lit ?_
                  refine r_t hst trivial rfl (x_move hst rfl) ?_; intro a hst
                  refine r_t hst trivial rfl (x_move hst rfl) ?_; intro a hst
                  refine r_t hst trivial rfl (x_move hst rfl) ?_; intro a hst
                  obtain ⟨x1709, hx1709, H⟩ := Option.bind_eq_some_iff.1 H
                  refine r_t hst trivial rfl (x_indexAddr hst Try.underlying23 el_31 rfl rfl hra0 hx1709) ?_; intro a hst
                  obtain ⟨_, hk1710, hc1711⟩ := RD.cells2 hra0 hx1709
                  obtain ⟨v1712, rfl, hr1713⟩ := hk1710
                  refine r_t hst trivial rfl (x_loadC hst sc_31 rfl (hc1711 _ (Same.sh0 hsa0 hsh) 0 _ rfl)) ?_; intro a hst
                  refine r_t hst trivial rfl (x_lenSl hst Try.underlying31 rfl hr1713.slen) ?_; intro a hst
                  refine r_t hst trivial rfl (x_cmpI (b := decide (i_120 < (x1709.length : Int))) hst rfl rfl rfl) ?_; intro a hst
                  refine wpList_nil ?_
                  refine then_normal ?_
                  by_cases c1714 : (decide (i_120 < (x1709.length : Int))) = true
                  · rw [if_pos c1714] at H
                    refine wp_condT hst rfl c1714 ?_
                    refine wp_skip ?_
                    refine then_normal ?_
                    refine wp_seq ?_
                    refine wp_block ?_
                    refine wp_seq ?_
                    refine wp_region_q (fun w' => SH (fun _ => False) w w' []) hsh.drew fo (by kernel_rfl) ?_
                    refine q_t hst trivial rfl (fun _ hsh => x_move hst rfl) ?_; intro a hst
                    refine q_t hst trivial rfl (fun _ hsh => x_move hst rfl) ?_; intro a hst
                    obtain ⟨x1729, hx1729, H⟩ := Option.bind_eq_some_iff.1 H
                    refine q_t hst trivial rfl (fun _ hsh => x_indexAddr hst Try.underlying23 el_31 rfl rfl hra0 hx1729) ?_; intro a hst
                    obtain ⟨_, hk1730, hc1731⟩ := RD.cells2 hra0 hx1729
                    obtain ⟨v1732, rfl, hr1733⟩ := hk1730
                    refine q_t hst trivial rfl (fun _ hsh => x_loadC hst sc_31 rfl (hc1731 _ (Same.sh0 hsa0 hsh) 0 _ rfl)) ?_; intro a hst
                    refine q_t hst trivial rfl (fun _ hsh => x_move hst rfl) ?_; intro a hst
                    obtain ⟨x1734, hx1734, H⟩ := Option.bind_eq_some_iff.1 H
                    refine q_t hst trivial rfl (fun _ hsh => x_indexAddr hst Try.underlying31 el_43 rfl rfl hr1733 hx1734) ?_; intro a hst
                    refine q_t hst trivial rfl (fun _ hsh => x_loadEsF (j := 0) (cs := [.int .i64 x1734.Number, .int .i64 x1734.Size, .string x1734.Least, .string x1734.Limit, .int .u64 x1734.Low, .int .u64 x1734.High]) (ps := [.int .i64 x1734.Number, .int .i64 x1734.Size, .string x1734.Least, .string x1734.Limit, .int .u64 x1734.Low, .int .u64 x1734.High]) hst ag_43 rfl hr1733 (Same.sh0 hsa0 hsh) hx1734 rfl (fun _ h => h) rfl) ?_; intro a hst
                    refine q_t hst trivial rfl (fun _ hsh => x_move hst rfl) ?_; intro a hst
                    refine q_t hst trivial rfl (fun _ hsh => x_move hst rfl) ?_; intro a hst
                    obtain ⟨x1735, hx1735, H⟩ := Option.bind_eq_some_iff.1 H
                    refine q_t hst trivial rfl (fun _ hsh => x_indexAddr hst Try.underlying23 el_31 rfl rfl hra1 hx1735) ?_; intro a hst
                    obtain ⟨_, hk1736, hc1737⟩ := RD.cells2 hra1 hx1735
                    obtain ⟨v1738, rfl, hr1739⟩ := hk1736
                    refine q_t hst trivial rfl (fun _ hsh => x_loadC hst sc_31 rfl (hc1737 _ (Same.sh0 hsa1 hsh) 0 _ rfl)) ?_; intro a hst
                    refine q_t hst trivial rfl (fun _ hsh => x_move hst rfl) ?_; intro a hst
                    obtain ⟨x1740, hx1740, H⟩ := Option.bind_eq_some_iff.1 H
                    refine q_t hst trivial rfl (fun _ hsh => x_indexAddr hst Try.underlying31 el_43 rfl rfl hr1739 hx1740) ?_; intro a hst
                    refine q_t hst trivial rfl (fun _ hsh => x_loadEsF (j := 0) (cs := [.int .i64 x1740.Number, .int .i64 x1740.Size, .string x1740.Least, .string x1740.Limit, .int .u64 x1740.Low, .int .u64 x1740.High]) (ps := [.int .i64 x1740.Number, .int .i64 x1740.Size, .string x1740.Least, .string x1740.Limit, .int .u64 x1740.Low, .int .u64 x1740.High]) hst ag_43 rfl hr1739 (Same.sh0 hsa1 hsh) hx1740 rfl (fun _ h => h) rfl) ?_; intro a hst
                    refine q_t hst trivial rfl (fun _ hsh => x_eqSn (b := File.eqb x1734 x1740) (x0 := x1734) (y0 := x1740) hst eqof_43 rfl rfl rfl) ?_; intro a hst
                    refine q_nil ?_
                    intro w1741 hsh
                    refine then_normal ?_
                    by_cases c1742 : (!File.eqb x1734 x1740) = true
                    · rw [if_pos c1742] at H
                      refine wp_condT hst rfl c1742 ?_
                      refine wp_seq ?_
                      refine wp_region_lit ?_
                      refine r_t hst trivial rfl (x_assign hst rfl) ?_; intro a hst
                      refine wpList_nil ?_
                      refine then_normal ?_
                      refine wp_ret ?_
                      refine block_ret ?_
                      refine then_ret ?_
                      refine then_ret ?_
                      refine block_ret ?_
                      refine block_ret ?_
                      refine then_ret ?_
                      refine then_ret ?_
                      refine block_ret ?_
                      refine then_ret ?_
                      obtain rfl := Option.some.inj H
                      exact ret1 hst rfl rfl ⟨rfl, hsh.pick []⟩
                    · rw [if_neg c1742] at H
                      replace c1742 := Bool.eq_false_iff.2 c1742
                      refine wp_condF hst rfl c1742 ?_
                      refine wp_skip ?_
                      refine block_normal ?_
                      refine then_normal ?_
                      refine wp_region_lit ?_
                      refine r_t hst trivial rfl (x_move hst rfl) ?_; intro a hst
                      refine r_t hst trivial rfl (x_arI (r := w64 (i_120 + 1)) hst rfl rfl rfl) ?_; intro a hst
                      refine r_t hst trivial rfl (x_assign hst rfl) ?_; intro a hst
                      refine wpList_nil ?_
                      refine then_normal ?_
                      exact ⟨k_124, Nat.lt_succ_self _, (w64 (i_120 + 1)), H, hst.keep _ ⟨rfl, rfl, rfl, rfl, rfl, trivial⟩, hsh.pick []⟩
                  · rw [if_neg c1714] at H
                    replace c1714 := Bool.eq_false_iff.2 c1714
                    refine wp_condF hst rfl c1714 ?_
                    refine wp_exit ?_
                    refine then_exit ?_
                    refine then_exit ?_
                    refine block_hit ?_
                    refine block_normal ?_
                    refine then_normal ?_
                    exact ⟨H, hst.keep _ ⟨rfl, rfl, rfl, rfl, trivial⟩, hsh.pick []⟩
        · rw [if_neg c1454] at H
          replace c1454 := Bool.eq_false_iff.2 c1454
          refine wp_condF hst rfl c1454 ?_
          refine wp_exit ?_
          refine then_exit ?_
          refine then_exit ?_
          refine block_hit ?_
          refine then_normal ?_
          refine wp_seq ?_
          refine wp_region_lit ?_
          refine r_t hst trivial rfl (x_assign hst rfl) ?_; intro a hst
          refine wpList_nil ?_
          refine then_normal ?_
          refine wp_ret ?_
          obtain rfl := Option.some.inj H
          exact ret1 hst rfl rfl ⟨rfl, hsh.pick []⟩

set_option maxHeartbeats 4000000 in
set_option maxRecDepth 100000 in
theorem l22_PickPlans.calls (k : Nat) (w : World) (va0 : Value) (Za0 : Nat → Prop) (wra0 : World) (hsa0 : Same Za0 wra0 w) (a0 : (List (List File))) (hra0 : RD (Kd.slice 43 k_File) Za0 wra0 va0 a0) (a1 : Config) (va1_0 : Value) (Za1_0 : Nat → Prop) (wra1_0 : World) (hsa1_0 : Same Za1_0 wra1_0 w) (hra1_0 : RD (Kd.int .i64) Za1_0 wra1_0 va1_0 a1.Heights) (va2 : Value) (Za2 : Nat → Prop) (wra2 : World) (hsa2 : Same Za2 wra2 w) (a2 : (List ByteArray)) (hra2 : RD Kd.str Za2 wra2 va2 a2) (r : Bool) (h : l22_PickPlans k a0 a1 a2 = some r) :
    Calls Try.prog 3 ([va0, .agg #[.int .i64 a1.Block, .int .i64 a1.Mem, .int .i64 a1.Frozen, .int .i64 a1.Shape.Page, .int .i64 a1.Shape.Restart, .int .i64 a1.Shape.Bits, .int .i64 a1.Cut, .int .i64 a1.Files0, .int .i64 a1.Stop0, .int .i64 a1.Base, .int .i64 a1.Ratio, .int .i64 a1.Levels, .int .i64 a1.Chunk, .int .i64 a1.Roll, .int .i64 a1.Clients, va1_0], va2] : List Value).toArray w fun e w' => e = .returned (.bool r) ∧ SH (fun _ => False) w w' [] := by
  have H := h
  clear h
  unfold l22_PickPlans at H
  refine calls_enter Try.func3 rfl rfl ?_
  intro a hst
  have hsh := SH.zero (fun _ => False) w
  refine wp_seq ?_
  refine wp_region_lit ?_
  refine r_box hst hsh trivial rfl rfl rfl ?_
  intro g1 a w2 hgg1 hsh hst
  refine r_t hst trivial rfl (x_assign hst rfl) ?_; intro a hst
  refine wpList_nil ?_
  refine then_normal ?_
  refine wp_seq ?_
  refine wp_region_lit ?_
  refine r_t hst trivial rfl (x_move hst rfl) ?_; intro a hst
  obtain ⟨r3, hr3, H⟩ := Option.bind_eq_some_iff.1 H
  refine r_callD hst trivial rfl fn_7 rfl (l22_copied.calls k _ _ _ _ (Same.sh0 hsa0 hsh) _ hra0 r3 hr3) ?_
  rintro e w4 ⟨v5, rfl, hc⟩
  replace hsh := hsh.call0 hc
  clear hc
  refine ⟨_, rfl, fun a hst => ?_⟩
  refine r_buildSlice (vs := []) (cs := []) hst hsh trivial rfl Try.underlying29 el_9 rfl rfl (by simp [Value.cells]) rfl rfl ?_
  intro g7 a w8 hgg7 hsh hst
  replace hsh := hsh.pick [0, 0, 0]
  replace hsh : SH (fun _ => False) w w8 [Row Kd.str 9 (.slice (some ⟨g7, 0, none⟩) 0 0) ([]), Row (Kd.slice 43 k_File) 31 v5 r3, Box g1 [.int .i64 a1.Block, .int .i64 a1.Mem, .int .i64 a1.Frozen, .int .i64 a1.Shape.Page, .int .i64 a1.Shape.Restart, .int .i64 a1.Shape.Bits, .int .i64 a1.Cut, .int .i64 a1.Files0, .int .i64 a1.Stop0, .int .i64 a1.Base, .int .i64 a1.Ratio, .int .i64 a1.Levels, .int .i64 a1.Chunk, .int .i64 a1.Roll, .int .i64 a1.Clients, va1_0] 28] := SH.boxRow ([] : List ByteArray) hsh rfl rfl rfl
  refine r_t hst trivial rfl (x_move hst rfl) ?_; intro a hst
  replace hsh := hsh.pick [0, 0, 0]
  obtain ⟨l10, hl10, H⟩ := Option.bind_eq_some_iff.1 H
  refine r_appendN (M := [Row (Kd.slice 43 k_File) 31 v5 r3, Box g1 [.int .i64 a1.Block, .int .i64 a1.Mem, .int .i64 a1.Frozen, .int .i64 a1.Shape.Page, .int .i64 a1.Shape.Restart, .int .i64 a1.Shape.Bits, .int .i64 a1.Cut, .int .i64 a1.Files0, .int .i64 a1.Stop0, .int .i64 a1.Base, .int .i64 a1.Ratio, .int .i64 a1.Levels, .int .i64 a1.Chunk, .int .i64 a1.Roll, .int .i64 a1.Clients, va1_0] 28]) hst hsh trivial rfl Try.underlying29 el_9 (by decide) (by decide) (by decide) rfl rfl (flat_flat _ _ _ _) hra2 (Same.sh0 hsa2 hsh) hl10 ?_
  intro v11 a w12 hsh hst
  refine r_t hst trivial rfl (x_assign hst rfl) ?_; intro a hst
  refine r_t hst trivial rfl (x_assign hst rfl) ?_; intro a hst
  refine wpList_nil ?_
  refine then_normal ?_
  refine wp_seq ?_
  refine wp_region_lit ?_
  refine r_t hst trivial rfl (x_move hst rfl) ?_; intro a hst
  refine r_t hst trivial rfl (x_loadBs (i := 2) (ps := [.int .i64 a1.Block, .int .i64 a1.Mem, .int .i64 a1.Frozen, .int .i64 a1.Shape.Page, .int .i64 a1.Shape.Restart, .int .i64 a1.Shape.Bits, .int .i64 a1.Cut, .int .i64 a1.Files0, .int .i64 a1.Stop0, .int .i64 a1.Base, .int .i64 a1.Ratio, .int .i64 a1.Levels, .int .i64 a1.Chunk, .int .i64 a1.Roll, .int .i64 a1.Clients, va1_0]) hst hsh ag_28 rfl rfl rfl) ?_; intro a hst
  refine r_t hst trivial rfl (x_move hst rfl) ?_; intro a hst
  obtain ⟨r13, hr13, H⟩ := Option.bind_eq_some_iff.1 H
  refine r_callD hst trivial rfl fn_8 rfl (pick_Next.calls k _ _ _ _ (Same.refl _ _) _ (hsh.row 1 rfl) a1 _ _ _ (Same.sh0 hsa1_0 hsh) hra1_0 _ _ _ (Same.refl _ _) _ (hsh.row 0 rfl) r13 hr13) ?_
  rintro e w14 ⟨v15, v17, rfl, hc⟩
  replace hsh := hsh.call0 hc
  clear hc
  refine ⟨_, rfl, fun a hst => ?_⟩
  refine r_t hst trivial rfl (x_move hst rfl) ?_; intro a hst
  refine r_t hst trivial rfl (x_extract hst rfl rfl) ?_; intro a hst
  refine r_t hst trivial rfl (x_extract hst rfl rfl) ?_; intro a hst
  refine r_alloc hst hsh trivial rfl zr_33 ?_
  intro g19 a w20 hgg19 hsh hst
  refine r_storeBs (i := 0) (cs' := [.int .i64 r13.1.Level, v15, v17, .bool r13.1.Trivial]) (vs := [.int .i64 r13.1.Level, v15, v17, .bool r13.1.Trivial]) hst hsh trivial ag_33 rfl rfl rfl rfl (one_cons rfl (one_cons (one_slice (hsh.row 1 rfl).slen) (one_cons (one_slice (hsh.row 2 rfl).slen) (one_cons rfl rfl)))) rfl ?_; intro a w21 hsh hst
  refine r_t hst trivial rfl (x_assign hst rfl) ?_; intro a hst
  refine wpList_nil ?_
  refine then_normal ?_
  refine wp_seq ?_
  refine wp_region_lit ?_
  refine r_t hst trivial rfl (x_move hst rfl) ?_; intro a hst
  refine r_t hst trivial rfl (x_loadBs (i := 5) (ps := [.int .i64 a1.Block, .int .i64 a1.Mem, .int .i64 a1.Frozen, .int .i64 a1.Shape.Page, .int .i64 a1.Shape.Restart, .int .i64 a1.Shape.Bits, .int .i64 a1.Cut, .int .i64 a1.Files0, .int .i64 a1.Stop0, .int .i64 a1.Base, .int .i64 a1.Ratio, .int .i64 a1.Levels, .int .i64 a1.Chunk, .int .i64 a1.Roll, .int .i64 a1.Clients, va1_0]) hst hsh ag_28 rfl rfl rfl) ?_; intro a hst
  refine r_t hst trivial rfl (x_move hst rfl) ?_; intro a hst
  obtain ⟨r22, hr22, H⟩ := Option.bind_eq_some_iff.1 H
  refine r_callD hst trivial rfl fn_9 rfl (r22_Next.calls k _ _ _ _ (Same.sh0 hsa0 hsh) _ hra0 a1 _ _ _ (Same.sh0 hsa1_0 hsh) hra1_0 _ _ _ (Same.sh0 hsa2 hsh) _ hra2 r22 hr22) ?_
  rintro e w23 ⟨v24, v26, rfl, hc⟩
  replace hsh := hsh.call0 hc
  clear hc
  refine ⟨_, rfl, fun a hst => ?_⟩
  refine r_t hst trivial rfl (x_move hst rfl) ?_; intro a hst
  refine r_t hst trivial rfl (x_extract hst rfl rfl) ?_; intro a hst
  refine r_t hst trivial rfl (x_extract hst rfl rfl) ?_; intro a hst
  refine r_alloc hst hsh trivial rfl zr_36 ?_
  intro g28 a w29 hgg28 hsh hst
  refine r_storeBs (i := 0) (cs' := [.int .i64 r22.1.Level, v24, v26, .bool r22.1.Trivial]) (vs := [.int .i64 r22.1.Level, v24, v26, .bool r22.1.Trivial]) hst hsh trivial ag_36 rfl rfl rfl rfl (one_cons rfl (one_cons (one_slice (hsh.row 1 rfl).slen) (one_cons (one_slice (hsh.row 2 rfl).slen) (one_cons rfl rfl)))) rfl ?_; intro a w30 hsh hst
  refine r_t hst trivial rfl (x_assign hst rfl) ?_; intro a hst
  refine wpList_nil ?_
  refine then_normal ?_
  refine wp_seq ?_
  refine wp_seq ?_
  refine wp_region_lit ?_
  obtain ⟨r47, hr47, H⟩ := Option.bind_eq_some_iff.1 H
  refine r_callD hst trivial rfl fn_10 rfl (l22_works.calls k _ r47 hr47) ?_
  rintro e w48 ⟨rfl, hc⟩
  replace hsh := hsh.call0 hc
  clear hc
  refine ⟨_, rfl, fun a hst => ?_⟩
  refine r_t hst trivial rfl (x_notB hst rfl) ?_; intro a hst
  refine r_t hst trivial rfl (x_move hst rfl) ?_; intro a hst
  refine wl_join0 (N := Try.f3.ntmps) 7 [(0, va0), (2, va2), (6, .bool false), (7, v5), (8, v11), (9, .pointer (some ⟨g19, 0, none⟩)), (11, .pointer (some ⟨g28, 0, none⟩)), (41, .bool ((!r47) || (!(r13.2 == r22.2))))] ?_ ?_
  · intro a hst
    refine r_t hst trivial rfl (x_move hst rfl) ?_; intro a hst
    refine wl_join0 (N := Try.f3.ntmps) 14 [(0, va0), (2, va2), (6, .bool false), (7, v5), (8, v11), (9, .pointer (some ⟨g19, 0, none⟩)), (11, .pointer (some ⟨g28, 0, none⟩)), (48, .bool (((!r47) || (!(r13.2 == r22.2))) || (r13.1.Level != r22.1.Level)))] ?_ ?_
    · intro a hst
      refine r_t hst trivial rfl (x_move hst rfl) ?_; intro a hst
      refine wl_join0 (N := Try.f3.ntmps) 21 [(0, va0), (2, va2), (6, .bool false), (7, v5), (8, v11), (9, .pointer (some ⟨g19, 0, none⟩)), (11, .pointer (some ⟨g28, 0, none⟩)), (55, .bool ((((!r47) || (!(r13.2 == r22.2))) || (r13.1.Level != r22.1.Level)) || (!(r13.1.Trivial == r22.1.Trivial))))] ?_ ?_
      · intro a hst
        refine r_t hst trivial rfl (x_move hst rfl) ?_; intro a hst
        obtain ⟨J_8, hJ_8, H⟩ := Jn.elim H
        refine wl_join 29 (fun a w' => ∃ (b_7 : Bool), J_8 b_7 = some r ∧ ST Try.f3.ntmps a [(0, va0), (2, va2), (6, .bool false), (7, v5), (8, v11), (9, .pointer (some ⟨g19, 0, none⟩)), (11, .pointer (some ⟨g28, 0, none⟩)), (63, .bool b_7)] ∧ SH (fun _ => False) w w' [Row (Kd.slice 43 k_File) 31 v5 r3, Row Kd.str 9 v11 l10, Box g19 [.int .i64 r13.1.Level, v15, v17, .bool r13.1.Trivial] 33, Row k_File 43 v15 r13.1.Upper, Row k_File 43 v17 r13.1.Lower, Box g28 [.int .i64 r22.1.Level, v24, v26, .bool r22.1.Trivial] 36, Row k_File 43 v24 r22.1.Upper, Row k_File 43 v26 r22.1.Lower]) ?_ ?_
        · rintro a W_9 ⟨b_7, H, hst, hsh⟩
          subst hJ_8
          dsimp only at H
          refine r_t hst trivial rfl (x_move hst rfl) ?_; intro a hst
          obtain ⟨J_11, hJ_11, H⟩ := Jn.elim H
          refine wl_join 37 (fun a w' => ∃ (b_10 : Bool), J_11 b_10 = some r ∧ ST Try.f3.ntmps a [(0, va0), (2, va2), (6, .bool false), (7, v5), (8, v11), (9, .pointer (some ⟨g19, 0, none⟩)), (71, .bool b_10)] ∧ SH (fun _ => False) w w' [Row (Kd.slice 43 k_File) 31 v5 r3, Row Kd.str 9 v11 l10, Box g19 [.int .i64 r13.1.Level, v15, v17, .bool r13.1.Trivial] 33, Row k_File 43 v15 r13.1.Upper, Row k_File 43 v17 r13.1.Lower]) ?_ ?_
          · rintro a W_12 ⟨b_10, H, hst, hsh⟩
            subst hJ_11
            dsimp only at H
            refine wpList_nil ?_
            refine then_normal ?_
            by_cases c58 : b_10 = true
            · rw [if_pos c58] at H
              refine wp_condT hst rfl c58 ?_
              refine wp_seq ?_
              refine wp_region_lit ?_
              refine r_t hst trivial rfl (x_assign hst rfl) ?_; intro a hst
              refine wpList_nil ?_
              refine then_normal ?_
              refine wp_ret ?_
              refine then_ret ?_
              obtain rfl := Option.some.inj H
              exact ret1 hst rfl rfl ⟨rfl, hsh.pick []⟩
            · rw [if_neg c58] at H
              replace c58 := Bool.eq_false_iff.2 c58
              refine wp_condF hst rfl c58 ?_
              refine wp_skip ?_
              refine then_normal ?_
              refine wp_seq ?_
              refine wp_seq ?_
              refine wp_region_lit ?_
              refine r_t hst trivial rfl (x_assign hst rfl) ?_; intro a hst
              refine wpList_nil ?_
              refine then_normal ?_
              refine wp_block ?_
              refine wp_loop_fuel (fun k_34 a w' => ∃ (l_28 : (List File)), ∃ (i_29 : Int), l22_PickPlans.l0 a0 a2 r3 l10 r13 k_34 l_28 i_29 = some r ∧ ST Try.f3.ntmps a [(0, va0), (2, va2), (6, .bool false), (7, v5), (8, v11), (9, .pointer (some ⟨g19, 0, none⟩)), (13, .int .i64 i_29)] ∧ SH (fun _ => False) w w' [Row (Kd.slice 43 k_File) 31 v5 r3, Row Kd.str 9 v11 l10, Box g19 [.int .i64 r13.1.Level, v15, v17, .bool r13.1.Trivial] 33, Row k_File 43 v15 l_28, Row k_File 43 v17 r13.1.Lower]) k ?_ ?_
              · exact ⟨r13.1.Upper, 0, H, hst.keep _ ⟨rfl, rfl, rfl, rfl, rfl, rfl, rfl, trivial⟩, hsh.pick [0, 0, 0, 0, 0]⟩
              · rintro k_34 a W_30 ⟨l_28, i_29, H, hst, hsh⟩
                cases k_34 with
                | zero => rw [l22_PickPlans.l0] at H; cases H
                | succ k_34 =>
                  rw [l22_PickPlans.l0] at H
                  refine wp_seq ?_
                  refine wp_seq ?_
                  refine wp_region_lit ?_
                  refine r_t hst trivial rfl (x_move hst rfl) ?_; intro a hst
                  refine r_t hst trivial rfl (x_fieldAddr (j' := 1) hst fa_33_1 rfl rfl) ?_; intro a hst
                  refine r_t hst trivial rfl (x_loadB (i := 2) hst hsh sc_31 rfl rfl rfl) ?_; intro a hst
                  refine r_t hst trivial rfl (x_lenSl hst Try.underlying31 rfl (hsh.row 3 rfl).slen) ?_; intro a hst
                  refine r_t hst trivial rfl (x_cmpI (b := decide (i_29 < (l_28.length : Int))) hst rfl rfl rfl) ?_; intro a hst
                  refine wpList_nil ?_
                  refine then_normal ?_
                  by_cases c100 : (decide (i_29 < (l_28.length : Int))) = true
                  · rw [if_pos c100] at H
                    refine wp_condT hst rfl c100 ?_
                    refine wp_skip ?_
                    refine then_normal ?_
                    refine wp_seq ?_
                    refine wp_block ?_
                    refine wp_region_lit ?_
                    refine r_t hst trivial rfl (x_fieldAddr (j' := 1) hst fa_33_1 rfl rfl) ?_; intro a hst
                    refine r_t hst trivial rfl (x_loadB (i := 2) hst hsh sc_31 rfl rfl rfl) ?_; intro a hst
                    refine r_t hst trivial rfl (x_move hst rfl) ?_; intro a hst
                    refine r_t hst trivial rfl (x_build (cs := [.int .i64 (-7), .int .i64 0, .string (ByteArray.mk #[]), .string (ByteArray.mk #[]), .int .u64 0, .int .u64 0]) hst rfl (by kernel_rfl)) ?_; intro a hst
                    obtain ⟨x104, hx104, H⟩ := Option.bind_eq_some_iff.1 H
                    refine r_t hst trivial rfl (x_indexAddr hst Try.underlying31 el_43 rfl rfl (hsh.row 3 rfl) hx104) ?_; intro a hst
                    obtain ⟨l105, hl105, H⟩ := Option.bind_eq_some_iff.1 H
                    refine r_storeEs (i := 3) (off := 0) (new := (⟨(-7), 0, (ByteArray.mk #[]), (ByteArray.mk #[]), 0, 0⟩ : File)) (vs := [.int .i64 (-7), .int .i64 0, .string (ByteArray.mk #[]), .string (ByteArray.mk #[]), .int .u64 0, .int .u64 0]) (cs' := [.int .i64 (-7), .int .i64 0, .string (ByteArray.mk #[]), .string (ByteArray.mk #[]), .int .u64 0, .int .u64 0]) hst hsh trivial ag_43 rfl rfl rfl hx104 rfl (Nat.le_of_ble_eq_true rfl) rfl (fun _ _ _ h => by rw [h]; rfl) (fun _ _ => rfl) ?_; intro a w106 hsh hst
                    rw [← upd_some hl105] at hsh
                    refine wpList_nil ?_
                    refine block_normal ?_
                    refine then_normal ?_
                    refine wp_region_lit ?_
                    refine r_t hst trivial rfl (x_move hst rfl) ?_; intro a hst
                    refine r_t hst trivial rfl (x_arI (r := w64 (i_29 + 1)) hst rfl rfl rfl) ?_; intro a hst
                    refine r_t hst trivial rfl (x_assign hst rfl) ?_; intro a hst
                    refine wpList_nil ?_
                    refine then_normal ?_
                    exact ⟨k_34, Nat.lt_succ_self _, l105, (w64 (i_29 + 1)), H, hst.keep _ ⟨rfl, rfl, rfl, rfl, rfl, rfl, rfl, trivial⟩, hsh.pick [1, 1, 1, 0, 0]⟩
                  · rw [if_neg c100] at H
                    replace c100 := Bool.eq_false_iff.2 c100
                    refine wp_condF hst rfl c100 ?_
                    refine wp_exit ?_
                    refine then_exit ?_
                    refine then_exit ?_
                    refine block_hit ?_
                    refine then_normal ?_
                    obtain ⟨J_47, hJ_47, H⟩ := Jn.elim H
                    refine wp_cut (fun a w' => J_47 = some r ∧ ST Try.f3.ntmps a [(0, va0), (2, va2), (6, .bool false), (7, v5), (8, v11)] ∧ SH (fun _ => False) w w' [Row (Kd.slice 43 k_File) 31 v5 r3, Row Kd.str 9 v11 l10]) ?_ ?_
                    · rintro a W_46 ⟨H, hst, hsh⟩
                      subst hJ_47
                      obtain ⟨J_57, hJ_57, H⟩ := Jn.elim H
                      refine wp_cut (fun a w' => J_57 = some r ∧ ST Try.f3.ntmps a [(0, va0), (6, .bool false), (7, v5)] ∧ SH (fun _ => False) w w' [Row (Kd.slice 43 k_File) 31 v5 r3]) ?_ ?_
                      · rintro a W_56 ⟨H, hst, hsh⟩
                        subst hJ_57
                        refine wp_seq ?_
                        refine wp_region_lit ?_
                        refine r_t hst trivial rfl (x_move hst rfl) ?_; intro a hst
                        refine r_t hst trivial rfl (x_move hst rfl) ?_; intro a hst
                        obtain ⟨r161, hr161, H⟩ := Option.bind_eq_some_iff.1 H
                        refine r_callD hst trivial rfl fn_12 rfl (r16_Same.calls k_34 _ _ _ _ (Same.refl _ _) _ (hsh.row 0 rfl) _ _ _ (Same.sh0 hsa0 hsh) _ hra0 r161 hr161) ?_
                        rintro e w162 ⟨rfl, hc⟩
                        replace hsh := hsh.call0 hc
                        clear hc
                        refine ⟨_, rfl, fun a hst => ?_⟩
                        refine r_t hst trivial rfl (x_assign hst rfl) ?_; intro a hst
                        refine wpList_nil ?_
                        refine then_normal ?_
                        refine wp_ret ?_
                        obtain rfl := Option.some.inj H
                        exact ret1 hst rfl rfl ⟨rfl, hsh.pick []⟩
                      · refine wp_seq ?_
                        refine wp_region_lit ?_
                        refine r_t hst trivial rfl (x_assign hst rfl) ?_; intro a hst
                        refine wpList_nil ?_
                        refine then_normal ?_
                        refine wp_block ?_
                        refine wp_loop_fuel (fun k_65 a w' => ∃ (i_61 : Int), l22_PickPlans.l1 a2 l10 J_57 k_65 i_61 = some r ∧ ST Try.f3.ntmps a [(0, va0), (2, va2), (6, .bool false), (7, v5), (8, v11), (15, .int .i64 i_61)] ∧ SH (fun _ => False) w w' [Row (Kd.slice 43 k_File) 31 v5 r3, Row Kd.str 9 v11 l10]) k_34 ?_ ?_
                        · exact ⟨0, H, hst.keep _ ⟨rfl, rfl, rfl, rfl, rfl, rfl, trivial⟩, hsh.pick [0, 0]⟩
                        · rintro k_65 a W_62 ⟨i_61, H, hst, hsh⟩
                          cases k_65 with
                          | zero => rw [l22_PickPlans.l1] at H; cases H
                          | succ k_65 =>
                            rw [l22_PickPlans.l1] at H
                            refine wp_seq ?_
                            refine wp_seq ?_
                            refine wp_region_lit ?_
                            refine r_t hst trivial rfl (x_move hst rfl) ?_; intro a hst
                            refine r_t hst trivial rfl (x_move hst rfl) ?_; intro a hst
                            refine r_t hst trivial rfl (x_lenSl hst Try.underlying29 rfl hra2.slen) ?_; intro a hst
                            refine r_t hst trivial rfl (x_cmpI (b := decide (i_61 < (a2.length : Int))) hst rfl rfl rfl) ?_; intro a hst
                            refine wpList_nil ?_
                            refine then_normal ?_
                            by_cases c184 : (decide (i_61 < (a2.length : Int))) = true
                            · rw [if_pos c184] at H
                              refine wp_condT hst rfl c184 ?_
                              refine wp_skip ?_
                              refine then_normal ?_
                              refine wp_seq ?_
                              refine wp_block ?_
                              refine wp_seq ?_
                              refine wp_region_q (fun w' => SH (fun _ => False) w w' [Row (Kd.slice 43 k_File) 31 v5 r3, Row Kd.str 9 v11 l10]) hsh.drew fo (by kernel_rfl) ?_
                              refine q_t hst trivial rfl (fun _ hsh => x_move hst rfl) ?_; intro a hst
                              refine q_t hst trivial rfl (fun _ hsh => x_move hst rfl) ?_; intro a hst
                              obtain ⟨x189, hx189, H⟩ := Option.bind_eq_some_iff.1 H
                              refine q_t hst trivial rfl (fun _ hsh => x_indexAddr hst Try.underlying29 el_9 rfl rfl (hsh.row 1 rfl) hx189) ?_; intro a hst
                              refine q_t hst trivial rfl (fun _ hsh => x_loadEF (j := 0) (cs := [.string x189]) hst sc_9 rfl (hsh.row 1 rfl) (Same.refl _ _) hx189 rfl (fun _ h => h) rfl) ?_; intro a hst
                              refine q_t hst trivial rfl (fun _ hsh => x_move hst rfl) ?_; intro a hst
                              refine q_t hst trivial rfl (fun _ hsh => x_move hst rfl) ?_; intro a hst
                              obtain ⟨x190, hx190, H⟩ := Option.bind_eq_some_iff.1 H
                              refine q_t hst trivial rfl (fun _ hsh => x_indexAddr hst Try.underlying29 el_9 rfl rfl hra2 hx190) ?_; intro a hst
                              refine q_t hst trivial rfl (fun _ hsh => x_loadEF (j := 0) (cs := [.string x190]) hst sc_9 rfl hra2 (Same.sh0 hsa2 hsh) hx190 rfl (fun _ h => h) rfl) ?_; intro a hst
                              refine q_t hst trivial rfl (fun _ hsh => x_cmpS (b := (!sEq x189 x190)) hst rfl rfl rfl) ?_; intro a hst
                              refine q_nil ?_
                              intro w191 hsh
                              refine then_normal ?_
                              by_cases c192 : (!sEq x189 x190) = true
                              · rw [if_pos c192] at H
                                refine wp_condT hst rfl c192 ?_
                                refine wp_seq ?_
                                refine wp_region_lit ?_
                                refine r_t hst trivial rfl (x_assign hst rfl) ?_; intro a hst
                                refine wpList_nil ?_
                                refine then_normal ?_
                                refine wp_ret ?_
                                refine block_ret ?_
                                refine then_ret ?_
                                refine then_ret ?_
                                refine block_ret ?_
                                refine then_ret ?_
                                obtain rfl := Option.some.inj H
                                exact ret1 hst rfl rfl ⟨rfl, hsh.pick []⟩
                              · rw [if_neg c192] at H
                                replace c192 := Bool.eq_false_iff.2 c192
                                refine wp_condF hst rfl c192 ?_
                                refine wp_skip ?_
                                refine block_normal ?_
                                refine then_normal ?_
                                refine wp_region_lit ?_
                                refine r_t hst trivial rfl (x_move hst rfl) ?_; intro a hst
                                refine r_t hst trivial rfl (x_arI (r := w64 (i_61 + 1)) hst rfl rfl rfl) ?_; intro a hst
                                refine r_t hst trivial rfl (x_assign hst rfl) ?_; intro a hst
                                refine wpList_nil ?_
                                refine then_normal ?_
                                exact ⟨k_65, Nat.lt_succ_self _, (w64 (i_61 + 1)), H, hst.keep _ ⟨rfl, rfl, rfl, rfl, rfl, rfl, trivial⟩, hsh.pick [0, 0]⟩
                            · rw [if_neg c184] at H
                              replace c184 := Bool.eq_false_iff.2 c184
                              refine wp_condF hst rfl c184 ?_
                              refine wp_exit ?_
                              refine then_exit ?_
                              refine then_exit ?_
                              refine block_hit ?_
                              refine then_normal ?_
                              exact ⟨H, hst.keep _ ⟨rfl, rfl, rfl, trivial⟩, hsh.pick [0]⟩
                    · refine wp_seq ?_
                      refine wp_region_lit ?_
                      refine r_t hst trivial rfl (x_assign hst rfl) ?_; intro a hst
                      refine wpList_nil ?_
                      refine then_normal ?_
                      refine wp_block ?_
                      refine wp_loop_fuel (fun k_76 a w' => ∃ (l_70 : (List File)), ∃ (i_71 : Int), l22_PickPlans.l2 J_47 k_76 l_70 i_71 = some r ∧ ST Try.f3.ntmps a [(0, va0), (2, va2), (6, .bool false), (7, v5), (8, v11), (9, .pointer (some ⟨g19, 0, none⟩)), (14, .int .i64 i_71)] ∧ SH (fun _ => False) w w' [Row (Kd.slice 43 k_File) 31 v5 r3, Row Kd.str 9 v11 l10, Box g19 [.int .i64 r13.1.Level, v15, v17, .bool r13.1.Trivial] 33, Row k_File 43 v15 l_28, Row k_File 43 v17 l_70]) k_34 ?_ ?_
                      · exact ⟨r13.1.Lower, 0, H, hst.keep _ ⟨rfl, rfl, rfl, rfl, rfl, rfl, rfl, trivial⟩, hsh.pick [0, 0, 0, 0, 0]⟩
                      · rintro k_76 a W_72 ⟨l_70, i_71, H, hst, hsh⟩
                        cases k_76 with
                        | zero => rw [l22_PickPlans.l2] at H; cases H
                        | succ k_76 =>
                          rw [l22_PickPlans.l2] at H
                          refine wp_seq ?_
                          refine wp_seq ?_
                          refine wp_region_lit ?_
                          refine r_t hst trivial rfl (x_move hst rfl) ?_; intro a hst
                          refine r_t hst trivial rfl (x_fieldAddr (j' := 2) hst fa_33_2 rfl rfl) ?_; intro a hst
                          refine r_t hst trivial rfl (x_loadB (i := 2) hst hsh sc_31 rfl rfl rfl) ?_; intro a hst
                          refine r_t hst trivial rfl (x_lenSl hst Try.underlying31 rfl (hsh.row 4 rfl).slen) ?_; intro a hst
                          refine r_t hst trivial rfl (x_cmpI (b := decide (i_71 < (l_70.length : Int))) hst rfl rfl rfl) ?_; intro a hst
                          refine wpList_nil ?_
                          refine then_normal ?_
                          by_cases c210 : (decide (i_71 < (l_70.length : Int))) = true
                          · rw [if_pos c210] at H
                            refine wp_condT hst rfl c210 ?_
                            refine wp_skip ?_
                            refine then_normal ?_
                            refine wp_seq ?_
                            refine wp_block ?_
                            refine wp_region_lit ?_
                            refine r_t hst trivial rfl (x_fieldAddr (j' := 2) hst fa_33_2 rfl rfl) ?_; intro a hst
                            refine r_t hst trivial rfl (x_loadB (i := 2) hst hsh sc_31 rfl rfl rfl) ?_; intro a hst
                            refine r_t hst trivial rfl (x_move hst rfl) ?_; intro a hst
                            refine r_t hst trivial rfl (x_build (cs := [.int .i64 (-8), .int .i64 0, .string (ByteArray.mk #[]), .string (ByteArray.mk #[]), .int .u64 0, .int .u64 0]) hst rfl (by kernel_rfl)) ?_; intro a hst
                            obtain ⟨x214, hx214, H⟩ := Option.bind_eq_some_iff.1 H
                            refine r_t hst trivial rfl (x_indexAddr hst Try.underlying31 el_43 rfl rfl (hsh.row 4 rfl) hx214) ?_; intro a hst
                            obtain ⟨l215, hl215, H⟩ := Option.bind_eq_some_iff.1 H
                            refine r_storeEs (i := 4) (off := 0) (new := (⟨(-8), 0, (ByteArray.mk #[]), (ByteArray.mk #[]), 0, 0⟩ : File)) (vs := [.int .i64 (-8), .int .i64 0, .string (ByteArray.mk #[]), .string (ByteArray.mk #[]), .int .u64 0, .int .u64 0]) (cs' := [.int .i64 (-8), .int .i64 0, .string (ByteArray.mk #[]), .string (ByteArray.mk #[]), .int .u64 0, .int .u64 0]) hst hsh trivial ag_43 rfl rfl rfl hx214 rfl (Nat.le_of_ble_eq_true rfl) rfl (fun _ _ _ h => by rw [h]; rfl) (fun _ _ => rfl) ?_; intro a w216 hsh hst
                            rw [← upd_some hl215] at hsh
                            refine wpList_nil ?_
                            refine block_normal ?_
                            refine then_normal ?_
                            refine wp_region_lit ?_
                            refine r_t hst trivial rfl (x_move hst rfl) ?_; intro a hst
                            refine r_t hst trivial rfl (x_arI (r := w64 (i_71 + 1)) hst rfl rfl rfl) ?_; intro a hst
                            refine r_t hst trivial rfl (x_assign hst rfl) ?_; intro a hst
                            refine wpList_nil ?_
                            refine then_normal ?_
                            exact ⟨k_76, Nat.lt_succ_self _, l215, (w64 (i_71 + 1)), H, hst.keep _ ⟨rfl, rfl, rfl, rfl, rfl, rfl, rfl, trivial⟩, hsh.pick [1, 1, 1, 1, 0]⟩
                          · rw [if_neg c210] at H
                            replace c210 := Bool.eq_false_iff.2 c210
                            refine wp_condF hst rfl c210 ?_
                            refine wp_exit ?_
                            refine then_exit ?_
                            refine then_exit ?_
                            refine block_hit ?_
                            refine then_normal ?_
                            exact ⟨H, hst.keep _ ⟨rfl, rfl, rfl, rfl, rfl, trivial⟩, hsh.pick [0, 0]⟩
          · intro hj
            by_cases c55 : b_7 = true
            · rw [if_pos c55] at H
              refine r_not hst 64 rfl rfl c55 rfl ?_; intro a hst
              refine r_not hst 64 rfl rfl c55 rfl ?_; intro a hst
              refine r_not hst 64 rfl rfl c55 rfl ?_; intro a hst
              refine r_not hst 64 rfl rfl c55 rfl ?_; intro a hst
              refine r_not hst 64 rfl rfl c55 rfl ?_; intro a hst
              refine r_not hst 64 rfl rfl c55 rfl ?_; intro a hst
              refine r_t hst trivial rfl (x_pickT hst rfl c55 rfl) ?_; intro a hst
              exact hj _ _ ⟨true, H, hst.keep _ ⟨rfl, rfl, rfl, rfl, rfl, rfl, rfl, trivial⟩, hsh.pick [0, 0, 0, 0, 0]⟩
            · rw [if_neg c55] at H
              replace c55 := Bool.eq_false_iff.2 c55
              refine r_t hst (wt_of 64 rfl rfl c55) rfl (x_fieldAddr (j' := 2) hst fa_33_2 rfl rfl) ?_; intro a hst
              refine r_t hst (wt_of 64 rfl rfl c55) rfl (x_loadB (i := 2) hst hsh sc_31 rfl rfl rfl) ?_; intro a hst
              refine r_t hst (wt_of 64 rfl rfl c55) rfl (x_fieldAddr (j' := 2) hst fa_36_2 rfl rfl) ?_; intro a hst
              refine r_t hst (wt_of 64 rfl rfl c55) rfl (x_loadB (i := 5) hst hsh sc_31 rfl rfl rfl) ?_; intro a hst
              obtain ⟨r217, hr217, H⟩ := Option.bind_eq_some_iff.1 H
              refine r_callD hst (wt_of 64 rfl rfl c55) rfl fn_11 rfl (l22_files.calls k _ _ _ _ (Same.refl _ _) _ (hsh.row 4 rfl) _ _ _ (Same.refl _ _) _ (hsh.row 7 rfl) r217 hr217) ?_
              rintro e w218 ⟨rfl, hc⟩
              replace hsh := hsh.call0 hc
              clear hc
              refine ⟨_, rfl, fun a hst => ?_⟩
              refine r_t hst (wt_of 64 rfl rfl c55) rfl (x_notB hst rfl) ?_; intro a hst
              refine r_t hst trivial rfl (x_pickF hst rfl c55 rfl) ?_; intro a hst
              exact hj _ _ ⟨(!r217), H, hst.keep _ ⟨rfl, rfl, rfl, rfl, rfl, rfl, rfl, trivial⟩, hsh.pick [0, 0, 0, 0, 0]⟩
        · intro hj
          by_cases c52 : ((((!r47) || (!(r13.2 == r22.2))) || (r13.1.Level != r22.1.Level)) || (!(r13.1.Trivial == r22.1.Trivial))) = true
          · rw [if_pos c52] at H
            refine r_not hst 56 rfl rfl c52 rfl ?_; intro a hst
            refine r_not hst 56 rfl rfl c52 rfl ?_; intro a hst
            refine r_not hst 56 rfl rfl c52 rfl ?_; intro a hst
            refine r_not hst 56 rfl rfl c52 rfl ?_; intro a hst
            refine r_not hst 56 rfl rfl c52 rfl ?_; intro a hst
            refine r_not hst 56 rfl rfl c52 rfl ?_; intro a hst
            refine r_t hst trivial rfl (x_pickT hst rfl c52 rfl) ?_; intro a hst
            exact hj _ _ ⟨true, H, hst.keep _ ⟨rfl, rfl, rfl, rfl, rfl, rfl, rfl, rfl, trivial⟩, hsh.pick [7, 6, 3, 3, 3, 0, 0, 0]⟩
          · rw [if_neg c52] at H
            replace c52 := Bool.eq_false_iff.2 c52
            refine r_t hst (wt_of 56 rfl rfl c52) rfl (x_fieldAddr (j' := 1) hst fa_33_1 rfl rfl) ?_; intro a hst
            refine r_t hst (wt_of 56 rfl rfl c52) rfl (x_loadB (i := 3) hst hsh sc_31 rfl rfl rfl) ?_; intro a hst
            refine r_t hst (wt_of 56 rfl rfl c52) rfl (x_fieldAddr (j' := 1) hst fa_36_1 rfl rfl) ?_; intro a hst
            refine r_t hst (wt_of 56 rfl rfl c52) rfl (x_loadB (i := 0) hst hsh sc_31 rfl rfl rfl) ?_; intro a hst
            obtain ⟨r219, hr219, H⟩ := Option.bind_eq_some_iff.1 H
            refine r_callD hst (wt_of 56 rfl rfl c52) rfl fn_11 rfl (l22_files.calls k _ _ _ _ (Same.refl _ _) _ (hsh.row 4 rfl) _ _ _ (Same.refl _ _) _ (hsh.row 1 rfl) r219 hr219) ?_
            rintro e w220 ⟨rfl, hc⟩
            replace hsh := hsh.call0 hc
            clear hc
            refine ⟨_, rfl, fun a hst => ?_⟩
            refine r_t hst (wt_of 56 rfl rfl c52) rfl (x_notB hst rfl) ?_; intro a hst
            refine r_t hst trivial rfl (x_pickF hst rfl c52 rfl) ?_; intro a hst
            exact hj _ _ ⟨(!r219), H, hst.keep _ ⟨rfl, rfl, rfl, rfl, rfl, rfl, rfl, rfl, trivial⟩, hsh.pick [7, 6, 3, 3, 3, 0, 0, 0]⟩
      · intro hj
        by_cases c51 : (((!r47) || (!(r13.2 == r22.2))) || (r13.1.Level != r22.1.Level)) = true
        · refine r_not hst 49 rfl rfl c51 rfl ?_; intro a hst
          refine r_not hst 49 rfl rfl c51 rfl ?_; intro a hst
          refine r_not hst 49 rfl rfl c51 rfl ?_; intro a hst
          refine r_not hst 49 rfl rfl c51 rfl ?_; intro a hst
          refine r_not hst 49 rfl rfl c51 rfl ?_; intro a hst
          refine r_t hst trivial rfl (x_orT (!(r13.1.Trivial == r22.1.Trivial)) hst rfl c51 rfl) ?_; intro a hst
          exact hj _ (hst.keep _ ⟨rfl, rfl, rfl, rfl, rfl, rfl, rfl, rfl, trivial⟩)
        · replace c51 := Bool.eq_false_iff.2 c51
          refine r_t hst (wt_of 49 rfl rfl c51) rfl (x_fieldAddr (j' := 3) hst fa_33_3 rfl rfl) ?_; intro a hst
          refine r_t hst (wt_of 49 rfl rfl c51) rfl (x_loadB (i := 3) hst hsh sc_4 rfl rfl rfl) ?_; intro a hst
          refine r_t hst (wt_of 49 rfl rfl c51) rfl (x_fieldAddr (j' := 3) hst fa_36_3 rfl rfl) ?_; intro a hst
          refine r_t hst (wt_of 49 rfl rfl c51) rfl (x_loadB (i := 0) hst hsh sc_4 rfl rfl rfl) ?_; intro a hst
          refine r_t hst (wt_of 49 rfl rfl c51) rfl (x_eqB (b := (!(r13.1.Trivial == r22.1.Trivial))) hst Try.underlying4 rfl rfl rfl) ?_; intro a hst
          refine r_t hst trivial rfl (x_orF hst rfl c51 rfl) ?_; intro a hst
          exact hj _ (hst.keep _ ⟨rfl, rfl, rfl, rfl, rfl, rfl, rfl, rfl, trivial⟩)
    · intro hj
      by_cases c50 : ((!r47) || (!(r13.2 == r22.2))) = true
      · refine r_not hst 42 rfl rfl c50 rfl ?_; intro a hst
        refine r_not hst 42 rfl rfl c50 rfl ?_; intro a hst
        refine r_not hst 42 rfl rfl c50 rfl ?_; intro a hst
        refine r_not hst 42 rfl rfl c50 rfl ?_; intro a hst
        refine r_not hst 42 rfl rfl c50 rfl ?_; intro a hst
        refine r_t hst trivial rfl (x_orT (r13.1.Level != r22.1.Level) hst rfl c50 rfl) ?_; intro a hst
        exact hj _ (hst.keep _ ⟨rfl, rfl, rfl, rfl, rfl, rfl, rfl, rfl, trivial⟩)
      · replace c50 := Bool.eq_false_iff.2 c50
        refine r_t hst (wt_of 42 rfl rfl c50) rfl (x_fieldAddr (j' := 0) hst fa_33_0 rfl rfl) ?_; intro a hst
        refine r_t hst (wt_of 42 rfl rfl c50) rfl (x_loadB (i := 3) hst hsh sc_3 rfl rfl rfl) ?_; intro a hst
        refine r_t hst (wt_of 42 rfl rfl c50) rfl (x_fieldAddr (j' := 0) hst fa_36_0 rfl rfl) ?_; intro a hst
        refine r_t hst (wt_of 42 rfl rfl c50) rfl (x_loadB (i := 0) hst hsh sc_3 rfl rfl rfl) ?_; intro a hst
        refine r_t hst (wt_of 42 rfl rfl c50) rfl (x_cmpI (b := (r13.1.Level != r22.1.Level)) hst rfl rfl rfl) ?_; intro a hst
        refine r_t hst trivial rfl (x_orF hst rfl c50 rfl) ?_; intro a hst
        exact hj _ (hst.keep _ ⟨rfl, rfl, rfl, rfl, rfl, rfl, rfl, rfl, trivial⟩)
  · intro hj
    by_cases c49 : (!r47) = true
    · refine r_not hst 37 rfl rfl c49 rfl ?_; intro a hst
      refine r_not hst 37 rfl rfl c49 rfl ?_; intro a hst
      refine r_not hst 37 rfl rfl c49 rfl ?_; intro a hst
      refine r_t hst trivial rfl (x_orT (!(r13.2 == r22.2)) hst rfl c49 rfl) ?_; intro a hst
      exact hj _ (hst.keep _ ⟨rfl, rfl, rfl, rfl, rfl, rfl, rfl, rfl, trivial⟩)
    · replace c49 := Bool.eq_false_iff.2 c49
      refine r_t hst (wt_of 37 rfl rfl c49) rfl (x_move hst rfl) ?_; intro a hst
      refine r_t hst (wt_of 37 rfl rfl c49) rfl (x_move hst rfl) ?_; intro a hst
      refine r_t hst (wt_of 37 rfl rfl c49) rfl (x_eqB (b := (!(r13.2 == r22.2))) hst Try.underlying4 rfl rfl rfl) ?_; intro a hst
      refine r_t hst trivial rfl (x_orF hst rfl c49 rfl) ?_; intro a hst
      exact hj _ (hst.keep _ ⟨rfl, rfl, rfl, rfl, rfl, rfl, rfl, rfl, trivial⟩)
end Go.Proofs.Ytckjpkecipgeiaa.Mo
