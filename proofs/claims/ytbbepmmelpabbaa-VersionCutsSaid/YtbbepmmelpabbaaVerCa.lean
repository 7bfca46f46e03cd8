/- Printed by gen.py: contracts. -/
import Derived.Test.YtbbepmmelpabbaaVerCa1
set_option linter.unusedVariables false
set_option linter.unusedSectionVars false
set_option linter.unusedSimpArgs false
set_option maxRecDepth 100000
namespace Go.Proofs.Ytbbepmmelpabbaa.Mo
open Go Go.Proofs.Ytbbepmmelpabbaa.Sy
open Go.Proofs
set_option maxHeartbeats 4000000 in
set_option maxRecDepth 100000 in
theorem l16_VersionCuts.calls (k : Nat) (w : World) (va0 : Value) (Za0 : Nat → Prop) (wra0 : World) (hsa0 : Same Za0 wra0 w) (a0 : (List (List File))) (hra0 : RD (Kd.slice 43 k_File) Za0 wra0 va0 a0) (a1 : L16_Ask) (r : Bool) (h : l16_VersionCuts k a0 a1 = some r) :
    Calls Try.prog 5 ([va0, .agg #[.int .i64 a1.Level, .string a1.Least, .string a1.Limit, .string a1.Key]] : List Value).toArray w fun e w' => e = .returned (.bool r) ∧ SH (fun _ => False) w w' [] := by
 have H := h
 clear h
 unfold l16_VersionCuts at H
 refine calls_enter Try.func5 rfl rfl ?_
 intro a hst
 have hsh := SH.zero (fun _ => False) w
 refine wq_seq ?_
 refine wq_region_lit (.inl rfl) ?_
 refine r_box hst hsh trivial rfl rfl rfl ?_
 intro g1 a w2 hgg1 hsh hst
 refine r_t hst trivial rfl (x_assign hst rfl) ?_; intro a hst
 refine wpL_nil ?_
 refine then_normal ?_
 refine wq_seq ?_
 refine wq_seq ?_
 refine wq_region_lit (.inl rfl) ?_
 obtain ⟨r6, hr6, H⟩ := Option.bind_eq_some_iff.1 H
 refine r_callD hst trivial rfl fn_21 rfl (l16_one.calls k _ r6 hr6) ?_
 rintro e w7 ⟨rfl, hc⟩
 replace hsh := hsh.call0 hc
 clear hc
 refine ⟨_, rfl, fun a hst => ?_⟩
 refine r_t hst trivial rfl (x_notB hst rfl) ?_; intro a hst
 refine wpL_nil ?_
 refine then_normal ?_
 by_cases c8 : (!r6) = true
 · rw [if_pos c8] at H
   refine wq_condT hst rfl c8 ?_
   refine wq_seq ?_
   refine wq_region_lit (.inl rfl) ?_
   refine r_t hst trivial rfl (x_assign hst rfl) ?_; intro a hst
   refine wpL_nil ?_
   refine then_normal ?_
   refine wq_ret ?_
   refine then_ret ?_
   obtain rfl := Option.some.inj H
   exact ret1 hst rfl rfl ⟨rfl, hsh.pick []⟩
 · rw [if_neg c8] at H
   replace c8 := Bool.eq_false_iff.2 c8
   refine wq_condF hst rfl c8 ?_
   refine wq_skip ?_
   refine then_normal ?_
   refine wq_seq ?_
   refine wq_seq ?_
   refine wq_region_lit (.inl rfl) ?_
   refine r_t hst trivial rfl (x_fieldAddr (j' := 3) hst fa_48_3 rfl rfl) ?_; intro a hst
   refine r_t hst trivial rfl (x_loadB (i := 0) hst hsh sc_9 rfl rfl rfl) ?_; intro a hst
   refine r_t hst trivial rfl (x_fieldAddr (j' := 1) hst fa_48_1 rfl rfl) ?_; intro a hst
   refine r_t hst trivial rfl (x_loadB (i := 0) hst hsh sc_9 rfl rfl rfl) ?_; intro a hst
   refine r_t hst trivial rfl (x_cmpS (b := (sLt a1.Key a1.Least || sEq a1.Key a1.Least)) hst rfl rfl rfl) ?_; intro a hst
   refine r_t hst trivial rfl (x_move hst rfl) ?_; intro a hst
   refine wl_join0 (Δ := []) (N := Try.f5.ntmps) 17 [(0, va0), (3, .pointer (some ⟨g1, 0, none⟩)), (4, .bool false), (33, .bool ((sLt a1.Key a1.Least || sEq a1.Key a1.Least) || ((!sEq a1.Limit (ByteArray.mk #[])) && (!sLt a1.Key a1.Limit))))] ?_ ?_
   · intro a hst
     refine wpL_nil ?_
     refine then_normal ?_
     by_cases c13 : ((sLt a1.Key a1.Least || sEq a1.Key a1.Least) || ((!sEq a1.Limit (ByteArray.mk #[])) && (!sLt a1.Key a1.Limit))) = true
     · rw [if_pos c13] at H
       refine wq_condT hst rfl c13 ?_
       refine wq_seq ?_
       refine wq_region_lit (.inl rfl) ?_
       refine r_t hst trivial rfl (x_assign hst rfl) ?_; intro a hst
       refine wpL_nil ?_
       refine then_normal ?_
       refine wq_ret ?_
       refine then_ret ?_
       obtain rfl := Option.some.inj H
       exact ret1 hst rfl rfl ⟨rfl, hsh.pick []⟩
     · rw [if_neg c13] at H
       replace c13 := Bool.eq_false_iff.2 c13
       refine wq_condF hst rfl c13 ?_
       refine wq_skip ?_
       refine then_normal ?_
       refine wq_seq ?_
       refine wq_region_lit (.inl rfl) ?_
       refine r_t hst trivial rfl (x_move hst rfl) ?_; intro a hst
       refine r_t hst trivial rfl (x_fieldAddr (j' := 0) hst fa_48_0 rfl rfl) ?_; intro a hst
       refine r_t hst trivial rfl (x_loadB (i := 0) hst hsh sc_3 rfl rfl rfl) ?_; intro a hst
       refine r_t hst trivial rfl (x_fieldAddr (j' := 1) hst fa_48_1 rfl rfl) ?_; intro a hst
       refine r_t hst trivial rfl (x_loadB (i := 0) hst hsh sc_9 rfl rfl rfl) ?_; intro a hst
       refine r_t hst trivial rfl (x_fieldAddr (j' := 2) hst fa_48_2 rfl rfl) ?_; intro a hst
       refine r_t hst trivial rfl (x_loadB (i := 0) hst hsh sc_9 rfl rfl rfl) ?_; intro a hst
       obtain ⟨r14, hr14, H⟩ := Option.bind_eq_some_iff.1 H
       refine r_callD hst trivial rfl fn_18 rfl (version_Over.calls k _ _ _ _ (Same.sh0 hsa0 hsh) _ hra0 a1.Level a1.Least a1.Limit r14 hr14) ?_
       rintro e w15 ⟨v16, rfl, hc⟩
       replace hsh := hsh.call0 hc
       clear hc
       refine ⟨_, rfl, fun a hst => ?_⟩
       refine r_t hst trivial rfl (x_assign hst rfl) ?_; intro a hst
       refine wpL_nil ?_
       refine then_normal ?_
       refine wq_seq ?_
       have hw17_0 := hsh.row 0 rfl
       refine wq_region_t (.inl rfl) (.fin [(3, 0), (3, 1), (0, 2), (3, 3), (0, 4), (3, 5), (0, 6), (3, 8), (3, 9), (0, 10), (3, 11), (0, 12), (3, 13), (0, 14), (1, 7), (1, 15), (3, 16), (3, 17)]) (fun w' => SH (fun _ => False) w w' [Row k_File 43 v16 r14, Box g1 [.int .i64 a1.Level, .string a1.Least, .string a1.Limit, .string a1.Key] 48]) (fun w' => SH (fun _ => False) w w' [Row k_File 43 v16 r14, Box g1 [.int .i64 a1.Level, .string a1.Least, .string a1.Limit, .string a1.Key] 48]) (fun w' => SH (fun _ => False) w w' [Row k_File 43 v16 r14, Box g1 [.int .i64 a1.Level, .string a1.Least, .string a1.Limit, .string a1.Key] 48]) (shut_sh _ _ _) (shut_sh _ _ _) (shut_sh _ _ _) (sub_sh [0, 0] rfl) (sub_sh [0, 0] rfl) hsh.drew fo (by kernel_rfl) ?_
       refine t_fin ?_
       refine m_p hst trivial rfl (fun _ => x_move hst rfl) ?_; intro a hst
       refine m_p hst trivial rfl (fun _ => x_fieldAddr (j' := 0) hst fa_48_0 rfl rfl) ?_; intro a hst
       refine m_t hst trivial rfl (fun _ hsh => x_loadB (i := 1) hst hsh sc_3 rfl rfl rfl) ?_; intro a hst
       refine m_p hst trivial rfl (fun _ => x_fieldAddr (j' := 1) hst fa_48_1 rfl rfl) ?_; intro a hst
       refine m_t hst trivial rfl (fun _ hsh => x_loadB (i := 1) hst hsh sc_9 rfl rfl rfl) ?_; intro a hst
       refine m_p hst trivial rfl (fun _ => x_fieldAddr (j' := 3) hst fa_48_3 rfl rfl) ?_; intro a hst
       refine m_t hst trivial rfl (fun _ hsh => x_loadB (i := 1) hst hsh sc_9 rfl rfl rfl) ?_; intro a hst
       refine m_p hst trivial rfl (fun _ => x_move hst rfl) ?_; intro a hst
       refine m_p hst trivial rfl (fun _ => x_fieldAddr (j' := 0) hst fa_48_0 rfl rfl) ?_; intro a hst
       refine m_t hst trivial rfl (fun _ hsh => x_loadB (i := 1) hst hsh sc_3 rfl rfl rfl) ?_; intro a hst
       refine m_p hst trivial rfl (fun _ => x_fieldAddr (j' := 3) hst fa_48_3 rfl rfl) ?_; intro a hst
       refine m_t hst trivial rfl (fun _ hsh => x_loadB (i := 1) hst hsh sc_9 rfl rfl rfl) ?_; intro a hst
       refine m_p hst trivial rfl (fun _ => x_fieldAddr (j' := 2) hst fa_48_2 rfl rfl) ?_; intro a hst
       refine m_t hst trivial rfl (fun _ hsh => x_loadB (i := 1) hst hsh sc_9 rfl rfl rfl) ?_; intro a hst
       refine m_loud (.inl rfl) ?_
       intro w18 hsh
       obtain ⟨r19, hr19, H⟩ := Option.bind_eq_some_iff.1 H
       refine r_callD hst trivial rfl fn_18 rfl (version_Over.calls k _ _ _ _ (Same.sh0 hsa0 hsh) _ hra0 a1.Level a1.Least a1.Key r19 hr19) ?_
       rintro e w20 ⟨v21, rfl, hc⟩
       replace hsh := hsh.call0 hc
       clear hc
       refine ⟨_, rfl, fun a hst => ?_⟩
       refine m_on (MB := [Row k_File 43 v21 r19, Row k_File 43 v16 r14, Box g1 [.int .i64 a1.Level, .string a1.Least, .string a1.Limit, .string a1.Key] 48]) [0, 0, 0] [1, 1] rfl rfl hsh rfl (sub_sh [0, 0] rfl) ?_
       refine m_loud (.inl rfl) ?_
       intro w23 hsh
       obtain ⟨r24, hr24, H⟩ := Option.bind_eq_some_iff.1 H
       refine r_callD hst trivial rfl fn_18 rfl (version_Over.calls k _ _ _ _ (Same.sh0 hsa0 hsh) _ hra0 a1.Level a1.Key a1.Limit r24 hr24) ?_
       rintro e w25 ⟨v26, rfl, hc⟩
       replace hsh := hsh.call0 hc
       clear hc
       refine ⟨_, rfl, fun a hst => ?_⟩
       refine m_on (MB := [Row k_File 43 v26 r24, Row k_File 43 v21 r19, Row k_File 43 v16 r14, Box g1 [.int .i64 a1.Level, .string a1.Least, .string a1.Limit, .string a1.Key] 48]) [0, 0, 0, 0] [1, 1, 1] rfl rfl hsh rfl (sub_sh [1, 1] rfl) ?_
       refine m_p hst trivial rfl (fun _ => x_assign hst rfl) ?_; intro a hst
       refine m_p hst trivial rfl (fun _ => x_assign hst rfl) ?_; intro a hst
       refine m_nil ?_
       intro w28 hsh
       refine qn_normal ?_
       refine then_normal ?_
       refine wq_seq ?_
       refine wq_seq ?_
       refine wq_region_lit (.inl rfl) ?_
       refine r_t hst trivial rfl (x_assign hst rfl) ?_; intro a hst
       refine wpL_nil ?_
       refine then_normal ?_
       refine wq_block ?_
       refine wq_loop_fuel (fun k_1856 a w' => ∃ (i_1484 : Int), l16_VersionCuts.l0 a0 a1 r14 r19 r24 k_1856 i_1484 = some r ∧ ST [] Try.f5.ntmps a [(0, va0), (3, .pointer (some ⟨g1, 0, none⟩)), (4, .bool false), (5, v16), (6, v21), (7, v26), (8, .int .i64 i_1484)] ∧ SH (fun _ => False) w w' [Box g1 [.int .i64 a1.Level, .string a1.Least, .string a1.Limit, .string a1.Key] 48, Row k_File 43 v16 r14, Row k_File 43 v21 r19, Row k_File 43 v26 r24]) k ?_ ?_
       · exact ⟨0, H, hst.keep _ ⟨rfl, rfl, rfl, rfl, rfl, rfl, rfl, trivial⟩, hsh.pick [3, 2, 1, 0]⟩
       · rintro k_1856 a W_1485 ⟨i_1484, H, hst, hsh⟩
         cases k_1856 with
         | zero => rw [l16_VersionCuts.l0] at H; cases H
         | succ k_1856 =>
          rw [l16_VersionCuts.l0] at H
          refine wq_seq ?_
          refine wq_seq ?_
          refine wq_region_lit (.inl rfl) ?_
          refine r_t hst trivial rfl (x_move hst rfl) ?_; intro a hst
          refine r_t hst trivial rfl (x_move hst rfl) ?_; intro a hst
          refine r_t hst trivial rfl (x_lenSl hst Try.underlying39 rfl (hsh.row 1 rfl).slen) ?_; intro a hst
          refine r_t hst trivial rfl (x_cmpI (b := decide (i_1484 < (r14.length : Int))) hst rfl rfl rfl) ?_; intro a hst
          refine wpL_nil ?_
          refine then_normal ?_
          by_cases c2670 : (decide (i_1484 < (r14.length : Int))) = true
          · rw [if_pos c2670] at H
            refine wq_condT hst rfl c2670 ?_
            refine wq_skip ?_
            refine then_normal ?_
            obtain ⟨J_2041, hJ_2041, H⟩ := Jn.elim H
            refine wq_cut (fun a w' => J_2041 = some r ∧ ST [] Try.f5.ntmps a [(0, va0), (3, .pointer (some ⟨g1, 0, none⟩)), (4, .bool false), (5, v16), (6, v21), (7, v26), (8, .int .i64 i_1484)] ∧ SH (fun _ => False) w w' [Box g1 [.int .i64 a1.Level, .string a1.Least, .string a1.Limit, .string a1.Key] 48, Row k_File 43 v16 r14, Row k_File 43 v21 r19, Row k_File 43 v26 r24]) ?_ ?_
            · rintro a W_2040 ⟨H, hst, hsh⟩
              subst hJ_2041
              refine wq_region_lit (.inl rfl) ?_
              refine r_t hst trivial rfl (x_move hst rfl) ?_; intro a hst
              refine r_t hst trivial rfl (x_arI (r := w64 (i_1484 + 1)) hst rfl rfl rfl) ?_; intro a hst
              refine r_t hst trivial rfl (x_assign hst rfl) ?_; intro a hst
              refine wpL_nil ?_
              refine then_normal ?_
              exact ⟨k_1856, Nat.lt_succ_self _, (w64 (i_1484 + 1)), H, hst.keep _ ⟨rfl, rfl, rfl, rfl, rfl, rfl, rfl, trivial⟩, hsh.pick [0, 0, 0, 0]⟩
            · refine wq_block ?_
              refine wq_seq ?_
              refine wq_region_lit (.inl rfl) ?_
              refine r_t hst trivial rfl (x_assign hst rfl) ?_; intro a hst
              refine wpL_nil ?_
              refine then_normal ?_
              obtain ⟨J_2073, hJ_2073, H⟩ := Jn.elim H
              refine wq_cut (fun a w' => ∃ (b_2071 : Bool), J_2073 b_2071 = some r ∧ ST [] Try.f5.ntmps a [(0, va0), (3, .pointer (some ⟨g1, 0, none⟩)), (4, .bool false), (5, v16), (6, v21), (7, v26), (8, .int .i64 i_1484), (9, .bool b_2071)] ∧ SH (fun _ => False) w w' [Box g1 [.int .i64 a1.Level, .string a1.Least, .string a1.Limit, .string a1.Key] 48, Row k_File 43 v16 r14, Row k_File 43 v21 r19, Row k_File 43 v26 r24]) ?_ ?_
              · rintro a W_2072 ⟨b_2071, H, hst, hsh⟩
                subst hJ_2073
                dsimp only at H
                obtain ⟨J_2105, hJ_2105, H⟩ := Jn.elim H
                refine wq_cut (fun a w' => ∃ (b_2103 : Bool), J_2105 b_2103 = some r ∧ ST [] Try.f5.ntmps a [(0, va0), (3, .pointer (some ⟨g1, 0, none⟩)), (4, .bool false), (5, v16), (6, v21), (7, v26), (8, .int .i64 i_1484), (9, .bool b_2103)] ∧ SH (fun _ => False) w w' [Box g1 [.int .i64 a1.Level, .string a1.Least, .string a1.Limit, .string a1.Key] 48, Row k_File 43 v16 r14, Row k_File 43 v21 r19, Row k_File 43 v26 r24]) ?_ ?_
                · rintro a W_2104 ⟨b_2103, H, hst, hsh⟩
                  subst hJ_2105
                  dsimp only at H
                  refine wq_seq ?_
                  refine wq_seq ?_
                  refine wq_region_lit (.inl rfl) ?_
                  refine r_t hst trivial rfl (x_move hst rfl) ?_; intro a hst
                  refine r_t hst trivial rfl (x_notB hst rfl) ?_; intro a hst
                  refine wpL_nil ?_
                  refine then_normal ?_
                  by_cases c3019 : (!b_2103) = true
                  · rw [if_pos c3019] at H
                    refine wq_condT hst rfl c3019 ?_
                    refine wq_seq ?_
                    refine wq_region_lit (.inl rfl) ?_
                    refine r_t hst trivial rfl (x_assign hst rfl) ?_; intro a hst
                    refine wpL_nil ?_
                    refine then_normal ?_
                    refine wq_ret ?_
                    refine then_ret ?_
                    refine block_ret ?_
                    refine then_ret ?_
                    refine then_ret ?_
                    refine block_ret ?_
                    refine then_ret ?_
                    obtain rfl := Option.some.inj H
                    exact ret1 hst rfl rfl ⟨rfl, hsh.pick []⟩
                  · rw [if_neg c3019] at H
                    replace c3019 := Bool.eq_false_iff.2 c3019
                    refine wq_condF hst rfl c3019 ?_
                    refine wq_skip ?_
                    refine then_normal ?_
                    refine wq_seq ?_
                    have hw3019_1 := hsh.row 1 rfl
                    have hw3019_2 := hsh.row 2 rfl
                    have hw3019_3 := hsh.row 3 rfl
                    refine wq_region_t (.inl rfl) (.fin [(3, 0), (3, 1), (0, 2), (3, 3), (3, 4), (3, 5), (3, 6), (0, 7), (3, 8), (3, 9), (3, 10), (3, 11), (0, 12), (1, 13), (3, 14)]) (fun w' => SH (fun _ => False) w w' [Box g1 [.int .i64 a1.Level, .string a1.Least, .string a1.Limit, .string a1.Key] 48, Row k_File 43 v16 r14, Row k_File 43 v21 r19, Row k_File 43 v26 r24]) (fun w' => SH (fun _ => False) w w' [Box g1 [.int .i64 a1.Level, .string a1.Least, .string a1.Limit, .string a1.Key] 48, Row k_File 43 v16 r14, Row k_File 43 v21 r19, Row k_File 43 v26 r24]) (fun w' => SH (fun _ => False) w w' [Box g1 [.int .i64 a1.Level, .string a1.Least, .string a1.Limit, .string a1.Key] 48, Row k_File 43 v16 r14, Row k_File 43 v21 r19, Row k_File 43 v26 r24]) (shut_sh _ _ _) (shut_sh _ _ _) (shut_sh _ _ _) (sub_sh [0, 0, 0, 0] rfl) (sub_sh [0, 0, 0, 0] rfl) hsh.drew fo (by kernel_rfl) ?_
                    refine t_fin ?_
                    refine m_p hst trivial rfl (fun _ => x_move hst rfl) ?_; intro a hst
                    refine m_p hst trivial rfl (fun _ => x_fieldAddr (j' := 0) hst fa_48_0 rfl rfl) ?_; intro a hst
                    refine m_t hst trivial rfl (fun _ hsh => x_loadB (i := 0) hst hsh sc_3 rfl rfl rfl) ?_; intro a hst
                    refine m_p hst trivial rfl (fun _ => x_move hst rfl) ?_; intro a hst
                    refine m_p hst trivial rfl (fun _ => x_move hst rfl) ?_; intro a hst
                    obtain ⟨x3020, hx3020, H⟩ := Option.bind_eq_some_iff.1 H
                    refine m_p hst trivial rfl (fun _ => x_indexAddr hst Try.underlying39 el_43 rfl rfl hw3019_1 hx3020) ?_; intro a hst
                    refine m_p hst trivial rfl (fun _ => x_fieldAddrE (n' := Int.toNat i_1484 * k_File.sz + 2) hst fa_43_2 rfl rfl) ?_; intro a hst
                    refine m_t hst trivial rfl (fun _ hsh => x_loadEF (j := 2) (cs := [.int .i64 x3020.Number, .int .i64 x3020.Size, .string x3020.Least, .string x3020.Limit, .int .u64 x3020.Low, .int .u64 x3020.High]) hst sc_9 rfl (hsh.row 1 rfl) (Same.refl _ _) hx3020 rfl (fun _ h => h) rfl) ?_; intro a hst
                    refine m_p hst trivial rfl (fun _ => x_move hst rfl) ?_; intro a hst
                    refine m_p hst trivial rfl (fun _ => x_move hst rfl) ?_; intro a hst
                    obtain ⟨x3021, hx3021, H⟩ := Option.bind_eq_some_iff.1 H
                    refine m_p hst trivial rfl (fun _ => x_indexAddr hst Try.underlying39 el_43 rfl rfl hw3019_1 hx3021) ?_; intro a hst
                    refine m_p hst trivial rfl (fun _ => x_fieldAddrE (n' := Int.toNat i_1484 * k_File.sz + 3) hst fa_43_3 rfl rfl) ?_; intro a hst
                    refine m_t hst trivial rfl (fun _ hsh => x_loadEF (j := 3) (cs := [.int .i64 x3021.Number, .int .i64 x3021.Size, .string x3021.Least, .string x3021.Limit, .int .u64 x3021.Low, .int .u64 x3021.High]) hst sc_9 rfl (hsh.row 1 rfl) (Same.refl _ _) hx3021 rfl (fun _ h => h) rfl) ?_; intro a hst
                    refine m_loud (.inl rfl) ?_
                    intro w3022 hsh
                    obtain ⟨r3023, hr3023, H⟩ := Option.bind_eq_some_iff.1 H
                    refine r_callD hst trivial rfl fn_18 rfl (version_Over.calls k_1856 _ _ _ _ (Same.sh0 hsa0 hsh) _ hra0 a1.Level x3020.Least x3021.Limit r3023 hr3023) ?_
                    rintro e w3024 ⟨v3025, rfl, hc⟩
                    replace hsh := hsh.call0 hc
                    clear hc
                    refine ⟨_, rfl, fun a hst => ?_⟩
                    refine m_on (MB := [Row k_File 43 v3025 r3023, Box g1 [.int .i64 a1.Level, .string a1.Least, .string a1.Limit, .string a1.Key] 48, Row k_File 43 v16 r14, Row k_File 43 v21 r19, Row k_File 43 v26 r24]) [0, 0, 0, 0, 0] [1, 1, 1, 1] rfl rfl hsh rfl (sub_sh [0, 0, 0, 0] rfl) ?_
                    refine m_p hst trivial rfl (fun _ => x_assign hst rfl) ?_; intro a hst
                    refine m_nil ?_
                    intro w3027 hsh
                    refine qn_normal ?_
                    refine then_normal ?_
                    refine wq_seq ?_
                    refine wq_region_lit (.inl rfl) ?_
                    refine r_t hst trivial rfl (x_assign hst rfl) ?_; intro a hst
                    refine wpL_nil ?_
                    refine then_normal ?_
                    obtain ⟨J_2137, hJ_2137, H⟩ := Jn.elim H
                    refine wq_cut (fun a w' => ∃ (b_2135 : Bool), J_2137 b_2135 = some r ∧ ST [] Try.f5.ntmps a [(0, va0), (3, .pointer (some ⟨g1, 0, none⟩)), (4, .bool false), (5, v16), (6, v21), (7, v26), (8, .int .i64 i_1484), (13, .bool b_2135)] ∧ SH (fun _ => False) w w' [Box g1 [.int .i64 a1.Level, .string a1.Least, .string a1.Limit, .string a1.Key] 48, Row k_File 43 v16 r14, Row k_File 43 v21 r19, Row k_File 43 v26 r24]) ?_ ?_
                    · rintro a W_2136 ⟨b_2135, H, hst, hsh⟩
                      subst hJ_2137
                      dsimp only at H
                      refine wq_seq ?_
                      refine wq_region_lit (.inl rfl) ?_
                      refine r_t hst trivial rfl (x_move hst rfl) ?_; intro a hst
                      refine r_t hst trivial rfl (x_notB hst rfl) ?_; intro a hst
                      refine wpL_nil ?_
                      refine then_normal ?_
                      by_cases c3070 : (!b_2135) = true
                      · rw [if_pos c3070] at H
                        refine wq_condT hst rfl c3070 ?_
                        refine wq_seq ?_
                        refine wq_region_lit (.inl rfl) ?_
                        refine r_t hst trivial rfl (x_assign hst rfl) ?_; intro a hst
                        refine wpL_nil ?_
                        refine then_normal ?_
                        refine wq_ret ?_
                        refine block_ret ?_
                        refine then_ret ?_
                        refine then_ret ?_
                        refine block_ret ?_
                        refine then_ret ?_
                        obtain rfl := Option.some.inj H
                        exact ret1 hst rfl rfl ⟨rfl, hsh.pick []⟩
                      · rw [if_neg c3070] at H
                        replace c3070 := Bool.eq_false_iff.2 c3070
                        refine wq_condF hst rfl c3070 ?_
                        refine wq_skip ?_
                        refine block_normal ?_
                        refine then_normal ?_
                        exact ⟨H, hst.keep _ ⟨rfl, rfl, rfl, rfl, rfl, rfl, rfl, trivial⟩, hsh.pick [0, 0, 0, 0]⟩
                    · refine wq_seq ?_
                      refine wq_region_lit (.inl rfl) ?_
                      refine r_t hst trivial rfl (x_assign hst rfl) ?_; intro a hst
                      refine wpL_nil ?_
                      refine then_normal ?_
                      refine wq_block ?_
                      refine wq_loop_fuel (fun k_2160 a w' => ∃ (b_2148 : Bool), ∃ (i_2149 : Int), l16_VersionCuts.l1 r14 i_1484 r3023 J_2137 k_2160 b_2148 i_2149 = some r ∧ ST [] Try.f5.ntmps a [(0, va0), (3, .pointer (some ⟨g1, 0, none⟩)), (4, .bool false), (5, v16), (6, v21), (7, v26), (8, .int .i64 i_1484), (12, v3025), (13, .bool b_2148), (14, .int .i64 i_2149)] ∧ SH (fun _ => False) w w' [Box g1 [.int .i64 a1.Level, .string a1.Least, .string a1.Limit, .string a1.Key] 48, Row k_File 43 v16 r14, Row k_File 43 v21 r19, Row k_File 43 v26 r24, Row k_File 43 v3025 r3023]) k_1856 ?_ ?_
                      · exact ⟨false, 0, H, hst.keep _ ⟨rfl, rfl, rfl, rfl, rfl, rfl, rfl, rfl, rfl, rfl, trivial⟩, hsh.pick [1, 1, 1, 1, 0]⟩
                      · rintro k_2160 a W_2150 ⟨b_2148, i_2149, H, hst, hsh⟩
                        cases k_2160 with
                        | zero => rw [l16_VersionCuts.l1] at H; cases H
                        | succ k_2160 =>
                         rw [l16_VersionCuts.l1] at H
                         refine wq_seq ?_
                         refine wq_seq ?_
                         refine wq_region_lit (.inl rfl) ?_
                         refine r_t hst trivial rfl (x_move hst rfl) ?_; intro a hst
                         refine r_t hst trivial rfl (x_move hst rfl) ?_; intro a hst
                         refine r_t hst trivial rfl (x_lenSl hst Try.underlying39 rfl (hsh.row 4 rfl).slen) ?_; intro a hst
                         refine r_t hst trivial rfl (x_cmpI (b := decide (i_2149 < (r3023.length : Int))) hst rfl rfl rfl) ?_; intro a hst
                         refine wpL_nil ?_
                         refine then_normal ?_
                         by_cases c3100 : (decide (i_2149 < (r3023.length : Int))) = true
                         · rw [if_pos c3100] at H
                           refine wq_condT hst rfl c3100 ?_
                           refine wq_skip ?_
                           refine then_normal ?_
                           refine wq_seq ?_
                           refine wq_block ?_
                           refine wq_region_q (.inl rfl) (fun w' => SH (fun _ => False) w w' [Box g1 [.int .i64 a1.Level, .string a1.Least, .string a1.Limit, .string a1.Key] 48, Row k_File 43 v16 r14, Row k_File 43 v21 r19, Row k_File 43 v26 r24, Row k_File 43 v3025 r3023]) (shut_sh _ _ _) hsh.drew fo (by kernel_rfl) ?_
                           refine q_t hst trivial rfl (fun _ hsh => x_move hst rfl) ?_; intro a hst
                           refine q_t hst trivial rfl (fun _ hsh => x_move hst rfl) ?_; intro a hst
                           obtain ⟨J_2165, hJ_2165, H⟩ := Jn.elim H
                           refine q_join 12 (fun a => ∃ (b_2164 : Bool), J_2165 b_2164 = some r ∧ ST [] Try.f5.ntmps a [(0, va0), (3, .pointer (some ⟨g1, 0, none⟩)), (4, .bool false), (5, v16), (6, v21), (7, v26), (8, .int .i64 i_1484), (12, v3025), (13, .bool b_2148), (14, .int .i64 i_2149), (133, .bool b_2164)]) ?_ ?_
                           · rintro a ⟨b_2164, H, hst⟩
                             subst hJ_2165
                             dsimp only at H
                             refine q_t hst trivial rfl (fun _ hsh => x_assign hst rfl) ?_; intro a hst
                             refine q_nil ?_
                             intro w3110 hsh
                             refine block_normal ?_
                             refine then_normal ?_
                             refine wq_region_lit (.inl rfl) ?_
                             refine r_t hst trivial rfl (x_move hst rfl) ?_; intro a hst
                             refine r_t hst trivial rfl (x_arI (r := w64 (i_2149 + 1)) hst rfl rfl rfl) ?_; intro a hst
                             refine r_t hst trivial rfl (x_assign hst rfl) ?_; intro a hst
                             refine wpL_nil ?_
                             refine then_normal ?_
                             exact ⟨k_2160, Nat.lt_succ_self _, b_2164, (w64 (i_2149 + 1)), H, hst.keep _ ⟨rfl, rfl, rfl, rfl, rfl, rfl, rfl, rfl, rfl, rfl, trivial⟩, hsh.pick [0, 0, 0, 0, 0]⟩
                           · intro hj
                             by_cases c3107 : b_2148 = true
                             · rw [if_pos c3107] at H
                               refine q_not hst 123 rfl rfl c3107 rfl ?_; intro a hst
                               refine q_not hst 123 rfl rfl c3107 rfl ?_; intro a hst
                               refine q_not hst 123 rfl rfl c3107 rfl ?_; intro a hst
                               refine q_not hst 123 rfl rfl c3107 rfl ?_; intro a hst
                               refine q_not hst 123 rfl rfl c3107 rfl ?_; intro a hst
                               refine q_not hst 123 rfl rfl c3107 rfl ?_; intro a hst
                               refine q_not hst 123 rfl rfl c3107 rfl ?_; intro a hst
                               refine q_not hst 123 rfl rfl c3107 rfl ?_; intro a hst
                               refine q_not hst 123 rfl rfl c3107 rfl ?_; intro a hst
                               refine q_t hst trivial rfl (fun _ hsh => x_pickT hst rfl c3107 rfl) ?_; intro a hst
                               exact hj _ ⟨true, H, hst.keep _ ⟨rfl, rfl, rfl, rfl, rfl, rfl, rfl, rfl, rfl, rfl, rfl, trivial⟩⟩
                             · rw [if_neg c3107] at H
                               replace c3107 := Bool.eq_false_iff.2 c3107
                               refine q_t hst (wt_of 123 rfl rfl c3107) rfl (fun _ hsh => x_move hst rfl) ?_; intro a hst
                               refine q_t hst (wt_of 123 rfl rfl c3107) rfl (fun _ hsh => x_move hst rfl) ?_; intro a hst
                               obtain ⟨x3111, hx3111, H⟩ := Option.bind_eq_some_iff.1 H
                               refine q_t hst (wt_of 123 rfl rfl c3107) rfl (fun _ hsh => x_indexAddr hst Try.underlying39 el_43 rfl rfl (hsh.row 4 rfl) hx3111) ?_; intro a hst
                               refine q_t hst (wt_of 123 rfl rfl c3107) rfl (fun _ hsh => x_loadEsF (j := 0) (cs := [.int .i64 x3111.Number, .int .i64 x3111.Size, .string x3111.Least, .string x3111.Limit, .int .u64 x3111.Low, .int .u64 x3111.High]) (ps := [.int .i64 x3111.Number, .int .i64 x3111.Size, .string x3111.Least, .string x3111.Limit, .int .u64 x3111.Low, .int .u64 x3111.High]) hst ag_43 rfl (hsh.row 4 rfl) (Same.refl _ _) hx3111 rfl (fun _ h => h) rfl) ?_; intro a hst
                               refine q_t hst (wt_of 123 rfl rfl c3107) rfl (fun _ hsh => x_move hst rfl) ?_; intro a hst
                               refine q_t hst (wt_of 123 rfl rfl c3107) rfl (fun _ hsh => x_move hst rfl) ?_; intro a hst
                               obtain ⟨x3112, hx3112, H⟩ := Option.bind_eq_some_iff.1 H
                               refine q_t hst (wt_of 123 rfl rfl c3107) rfl (fun _ hsh => x_indexAddr hst Try.underlying39 el_43 rfl rfl (hsh.row 1 rfl) hx3112) ?_; intro a hst
                               refine q_t hst (wt_of 123 rfl rfl c3107) rfl (fun _ hsh => x_loadEsF (j := 0) (cs := [.int .i64 x3112.Number, .int .i64 x3112.Size, .string x3112.Least, .string x3112.Limit, .int .u64 x3112.Low, .int .u64 x3112.High]) (ps := [.int .i64 x3112.Number, .int .i64 x3112.Size, .string x3112.Least, .string x3112.Limit, .int .u64 x3112.Low, .int .u64 x3112.High]) hst ag_43 rfl (hsh.row 1 rfl) (Same.refl _ _) hx3112 rfl (fun _ h => h) rfl) ?_; intro a hst
                               refine q_t hst (wt_of 123 rfl rfl c3107) rfl (fun _ hsh => x_eqS (b := File.eqb x3111 x3112) (x0 := x3111) (y0 := x3112) hst eqof_43 rfl rfl rfl) ?_; intro a hst
                               refine q_t hst trivial rfl (fun _ hsh => x_pickF hst rfl c3107 rfl) ?_; intro a hst
                               exact hj _ ⟨(File.eqb x3111 x3112), H, hst.keep _ ⟨rfl, rfl, rfl, rfl, rfl, rfl, rfl, rfl, rfl, rfl, rfl, trivial⟩⟩
                         · rw [if_neg c3100] at H
                           replace c3100 := Bool.eq_false_iff.2 c3100
                           refine wq_condF hst rfl c3100 ?_
                           refine wq_exit ?_
                           refine then_exit ?_
                           refine then_exit ?_
                           refine block_hit ?_
                           refine then_normal ?_
                           exact ⟨b_2148, H, hst.keep _ ⟨rfl, rfl, rfl, rfl, rfl, rfl, rfl, rfl, trivial⟩, hsh.pick [0, 0, 0, 0]⟩
                · refine wq_seq ?_
                  refine wq_region_lit (.inl rfl) ?_
                  refine r_t hst trivial rfl (x_assign hst rfl) ?_; intro a hst
                  refine wpL_nil ?_
                  refine then_normal ?_
                  refine wq_block ?_
                  refine wq_loop_fuel (fun k_2189 a w' => ∃ (b_2177 : Bool), ∃ (i_2178 : Int), l16_VersionCuts.l2 r14 r24 i_1484 J_2105 k_2189 b_2177 i_2178 = some r ∧ ST [] Try.f5.ntmps a [(0, va0), (3, .pointer (some ⟨g1, 0, none⟩)), (4, .bool false), (5, v16), (6, v21), (7, v26), (8, .int .i64 i_1484), (9, .bool b_2177), (11, .int .i64 i_2178)] ∧ SH (fun _ => False) w w' [Box g1 [.int .i64 a1.Level, .string a1.Least, .string a1.Limit, .string a1.Key] 48, Row k_File 43 v16 r14, Row k_File 43 v21 r19, Row k_File 43 v26 r24]) k_1856 ?_ ?_
                  · exact ⟨b_2071, 0, H, hst.keep _ ⟨rfl, rfl, rfl, rfl, rfl, rfl, rfl, rfl, rfl, trivial⟩, hsh.pick [0, 0, 0, 0]⟩
                  · rintro k_2189 a W_2179 ⟨b_2177, i_2178, H, hst, hsh⟩
                    cases k_2189 with
                    | zero => rw [l16_VersionCuts.l2] at H; cases H
                    | succ k_2189 =>
                     rw [l16_VersionCuts.l2] at H
                     refine wq_seq ?_
                     refine wq_seq ?_
                     refine wq_region_lit (.inl rfl) ?_
                     refine r_t hst trivial rfl (x_move hst rfl) ?_; intro a hst
                     refine r_t hst trivial rfl (x_move hst rfl) ?_; intro a hst
                     refine r_t hst trivial rfl (x_lenSl hst Try.underlying39 rfl (hsh.row 3 rfl).slen) ?_; intro a hst
                     refine r_t hst trivial rfl (x_cmpI (b := decide (i_2178 < (r24.length : Int))) hst rfl rfl rfl) ?_; intro a hst
                     refine wpL_nil ?_
                     refine then_normal ?_
                     by_cases c3142 : (decide (i_2178 < (r24.length : Int))) = true
                     · rw [if_pos c3142] at H
                       refine wq_condT hst rfl c3142 ?_
                       refine wq_skip ?_
                       refine then_normal ?_
                       refine wq_seq ?_
                       refine wq_block ?_
                       refine wq_region_q (.inl rfl) (fun w' => SH (fun _ => False) w w' [Box g1 [.int .i64 a1.Level, .string a1.Least, .string a1.Limit, .string a1.Key] 48, Row k_File 43 v16 r14, Row k_File 43 v21 r19, Row k_File 43 v26 r24]) (shut_sh _ _ _) hsh.drew fo (by kernel_rfl) ?_
                       refine q_t hst trivial rfl (fun _ hsh => x_move hst rfl) ?_; intro a hst
                       refine q_t hst trivial rfl (fun _ hsh => x_move hst rfl) ?_; intro a hst
                       obtain ⟨J_2194, hJ_2194, H⟩ := Jn.elim H
                       refine q_join 12 (fun a => ∃ (b_2193 : Bool), J_2194 b_2193 = some r ∧ ST [] Try.f5.ntmps a [(0, va0), (3, .pointer (some ⟨g1, 0, none⟩)), (4, .bool false), (5, v16), (6, v21), (7, v26), (8, .int .i64 i_1484), (9, .bool b_2177), (11, .int .i64 i_2178), (99, .bool b_2193)]) ?_ ?_
                       · rintro a ⟨b_2193, H, hst⟩
                         subst hJ_2194
                         dsimp only at H
                         refine q_t hst trivial rfl (fun _ hsh => x_assign hst rfl) ?_; intro a hst
                         refine q_nil ?_
                         intro w3152 hsh
                         refine block_normal ?_
                         refine then_normal ?_
                         refine wq_region_lit (.inl rfl) ?_
                         refine r_t hst trivial rfl (x_move hst rfl) ?_; intro a hst
                         refine r_t hst trivial rfl (x_arI (r := w64 (i_2178 + 1)) hst rfl rfl rfl) ?_; intro a hst
                         refine r_t hst trivial rfl (x_assign hst rfl) ?_; intro a hst
                         refine wpL_nil ?_
                         refine then_normal ?_
                         exact ⟨k_2189, Nat.lt_succ_self _, b_2193, (w64 (i_2178 + 1)), H, hst.keep _ ⟨rfl, rfl, rfl, rfl, rfl, rfl, rfl, rfl, rfl, trivial⟩, hsh.pick [0, 0, 0, 0]⟩
                       · intro hj
                         by_cases c3149 : b_2177 = true
                         · rw [if_pos c3149] at H
                           refine q_not hst 89 rfl rfl c3149 rfl ?_; intro a hst
                           refine q_not hst 89 rfl rfl c3149 rfl ?_; intro a hst
                           refine q_not hst 89 rfl rfl c3149 rfl ?_; intro a hst
                           refine q_not hst 89 rfl rfl c3149 rfl ?_; intro a hst
                           refine q_not hst 89 rfl rfl c3149 rfl ?_; intro a hst
                           refine q_not hst 89 rfl rfl c3149 rfl ?_; intro a hst
                           refine q_not hst 89 rfl rfl c3149 rfl ?_; intro a hst
                           refine q_not hst 89 rfl rfl c3149 rfl ?_; intro a hst
                           refine q_not hst 89 rfl rfl c3149 rfl ?_; intro a hst
                           refine q_t hst trivial rfl (fun _ hsh => x_pickT hst rfl c3149 rfl) ?_; intro a hst
                           exact hj _ ⟨true, H, hst.keep _ ⟨rfl, rfl, rfl, rfl, rfl, rfl, rfl, rfl, rfl, rfl, trivial⟩⟩
                         · rw [if_neg c3149] at H
                           replace c3149 := Bool.eq_false_iff.2 c3149
                           refine q_t hst (wt_of 89 rfl rfl c3149) rfl (fun _ hsh => x_move hst rfl) ?_; intro a hst
                           refine q_t hst (wt_of 89 rfl rfl c3149) rfl (fun _ hsh => x_move hst rfl) ?_; intro a hst
                           obtain ⟨x3153, hx3153, H⟩ := Option.bind_eq_some_iff.1 H
                           refine q_t hst (wt_of 89 rfl rfl c3149) rfl (fun _ hsh => x_indexAddr hst Try.underlying39 el_43 rfl rfl (hsh.row 3 rfl) hx3153) ?_; intro a hst
                           refine q_t hst (wt_of 89 rfl rfl c3149) rfl (fun _ hsh => x_loadEsF (j := 0) (cs := [.int .i64 x3153.Number, .int .i64 x3153.Size, .string x3153.Least, .string x3153.Limit, .int .u64 x3153.Low, .int .u64 x3153.High]) (ps := [.int .i64 x3153.Number, .int .i64 x3153.Size, .string x3153.Least, .string x3153.Limit, .int .u64 x3153.Low, .int .u64 x3153.High]) hst ag_43 rfl (hsh.row 3 rfl) (Same.refl _ _) hx3153 rfl (fun _ h => h) rfl) ?_; intro a hst
                           refine q_t hst (wt_of 89 rfl rfl c3149) rfl (fun _ hsh => x_move hst rfl) ?_; intro a hst
                           refine q_t hst (wt_of 89 rfl rfl c3149) rfl (fun _ hsh => x_move hst rfl) ?_; intro a hst
                           obtain ⟨x3154, hx3154, H⟩ := Option.bind_eq_some_iff.1 H
                           refine q_t hst (wt_of 89 rfl rfl c3149) rfl (fun _ hsh => x_indexAddr hst Try.underlying39 el_43 rfl rfl (hsh.row 1 rfl) hx3154) ?_; intro a hst
                           refine q_t hst (wt_of 89 rfl rfl c3149) rfl (fun _ hsh => x_loadEsF (j := 0) (cs := [.int .i64 x3154.Number, .int .i64 x3154.Size, .string x3154.Least, .string x3154.Limit, .int .u64 x3154.Low, .int .u64 x3154.High]) (ps := [.int .i64 x3154.Number, .int .i64 x3154.Size, .string x3154.Least, .string x3154.Limit, .int .u64 x3154.Low, .int .u64 x3154.High]) hst ag_43 rfl (hsh.row 1 rfl) (Same.refl _ _) hx3154 rfl (fun _ h => h) rfl) ?_; intro a hst
                           refine q_t hst (wt_of 89 rfl rfl c3149) rfl (fun _ hsh => x_eqS (b := File.eqb x3153 x3154) (x0 := x3153) (y0 := x3154) hst eqof_43 rfl rfl rfl) ?_; intro a hst
                           refine q_t hst trivial rfl (fun _ hsh => x_pickF hst rfl c3149 rfl) ?_; intro a hst
                           exact hj _ ⟨(File.eqb x3153 x3154), H, hst.keep _ ⟨rfl, rfl, rfl, rfl, rfl, rfl, rfl, rfl, rfl, rfl, trivial⟩⟩
                     · rw [if_neg c3142] at H
                       replace c3142 := Bool.eq_false_iff.2 c3142
                       refine wq_condF hst rfl c3142 ?_
                       refine wq_exit ?_
                       refine then_exit ?_
                       refine then_exit ?_
                       refine block_hit ?_
                       refine then_normal ?_
                       exact ⟨b_2177, H, hst.keep _ ⟨rfl, rfl, rfl, rfl, rfl, rfl, rfl, rfl, trivial⟩, hsh.pick [0, 0, 0, 0]⟩
              · refine wq_seq ?_
                refine wq_region_lit (.inl rfl) ?_
                refine r_t hst trivial rfl (x_assign hst rfl) ?_; intro a hst
                refine wpL_nil ?_
                refine then_normal ?_
                refine wq_block ?_
                refine wq_loop_fuel (fun k_2218 a w' => ∃ (b_2206 : Bool), ∃ (i_2207 : Int), l16_VersionCuts.l3 r14 r19 i_1484 J_2073 k_2218 b_2206 i_2207 = some r ∧ ST [] Try.f5.ntmps a [(0, va0), (3, .pointer (some ⟨g1, 0, none⟩)), (4, .bool false), (5, v16), (6, v21), (7, v26), (8, .int .i64 i_1484), (9, .bool b_2206), (10, .int .i64 i_2207)] ∧ SH (fun _ => False) w w' [Box g1 [.int .i64 a1.Level, .string a1.Least, .string a1.Limit, .string a1.Key] 48, Row k_File 43 v16 r14, Row k_File 43 v21 r19, Row k_File 43 v26 r24]) k_1856 ?_ ?_
                · exact ⟨false, 0, H, hst.keep _ ⟨rfl, rfl, rfl, rfl, rfl, rfl, rfl, rfl, rfl, trivial⟩, hsh.pick [0, 0, 0, 0]⟩
                · rintro k_2218 a W_2208 ⟨b_2206, i_2207, H, hst, hsh⟩
                  cases k_2218 with
                  | zero => rw [l16_VersionCuts.l3] at H; cases H
                  | succ k_2218 =>
                   rw [l16_VersionCuts.l3] at H
                   refine wq_seq ?_
                   refine wq_seq ?_
                   refine wq_region_lit (.inl rfl) ?_
                   refine r_t hst trivial rfl (x_move hst rfl) ?_; intro a hst
                   refine r_t hst trivial rfl (x_move hst rfl) ?_; intro a hst
                   refine r_t hst trivial rfl (x_lenSl hst Try.underlying39 rfl (hsh.row 2 rfl).slen) ?_; intro a hst
                   refine r_t hst trivial rfl (x_cmpI (b := decide (i_2207 < (r19.length : Int))) hst rfl rfl rfl) ?_; intro a hst
                   refine wpL_nil ?_
                   refine then_normal ?_
                   by_cases c3184 : (decide (i_2207 < (r19.length : Int))) = true
                   · rw [if_pos c3184] at H
                     refine wq_condT hst rfl c3184 ?_
                     refine wq_skip ?_
                     refine then_normal ?_
                     refine wq_seq ?_
                     refine wq_block ?_
                     refine wq_region_q (.inl rfl) (fun w' => SH (fun _ => False) w w' [Box g1 [.int .i64 a1.Level, .string a1.Least, .string a1.Limit, .string a1.Key] 48, Row k_File 43 v16 r14, Row k_File 43 v21 r19, Row k_File 43 v26 r24]) (shut_sh _ _ _) hsh.drew fo (by kernel_rfl) ?_
                     refine q_t hst trivial rfl (fun _ hsh => x_move hst rfl) ?_; intro a hst
                     refine q_t hst trivial rfl (fun _ hsh => x_move hst rfl) ?_; intro a hst
                     obtain ⟨J_2223, hJ_2223, H⟩ := Jn.elim H
                     refine q_join 12 (fun a => ∃ (b_2222 : Bool), J_2223 b_2222 = some r ∧ ST [] Try.f5.ntmps a [(0, va0), (3, .pointer (some ⟨g1, 0, none⟩)), (4, .bool false), (5, v16), (6, v21), (7, v26), (8, .int .i64 i_1484), (9, .bool b_2206), (10, .int .i64 i_2207), (81, .bool b_2222)]) ?_ ?_
                     · rintro a ⟨b_2222, H, hst⟩
                       subst hJ_2223
                       dsimp only at H
                       refine q_t hst trivial rfl (fun _ hsh => x_assign hst rfl) ?_; intro a hst
                       refine q_nil ?_
                       intro w3194 hsh
                       refine block_normal ?_
                       refine then_normal ?_
                       refine wq_region_lit (.inl rfl) ?_
                       refine r_t hst trivial rfl (x_move hst rfl) ?_; intro a hst
                       refine r_t hst trivial rfl (x_arI (r := w64 (i_2207 + 1)) hst rfl rfl rfl) ?_; intro a hst
                       refine r_t hst trivial rfl (x_assign hst rfl) ?_; intro a hst
                       refine wpL_nil ?_
                       refine then_normal ?_
                       exact ⟨k_2218, Nat.lt_succ_self _, b_2222, (w64 (i_2207 + 1)), H, hst.keep _ ⟨rfl, rfl, rfl, rfl, rfl, rfl, rfl, rfl, rfl, trivial⟩, hsh.pick [0, 0, 0, 0]⟩
                     · intro hj
                       by_cases c3191 : b_2206 = true
                       · rw [if_pos c3191] at H
                         refine q_not hst 71 rfl rfl c3191 rfl ?_; intro a hst
                         refine q_not hst 71 rfl rfl c3191 rfl ?_; intro a hst
                         refine q_not hst 71 rfl rfl c3191 rfl ?_; intro a hst
                         refine q_not hst 71 rfl rfl c3191 rfl ?_; intro a hst
                         refine q_not hst 71 rfl rfl c3191 rfl ?_; intro a hst
                         refine q_not hst 71 rfl rfl c3191 rfl ?_; intro a hst
                         refine q_not hst 71 rfl rfl c3191 rfl ?_; intro a hst
                         refine q_not hst 71 rfl rfl c3191 rfl ?_; intro a hst
                         refine q_not hst 71 rfl rfl c3191 rfl ?_; intro a hst
                         refine q_t hst trivial rfl (fun _ hsh => x_pickT hst rfl c3191 rfl) ?_; intro a hst
                         exact hj _ ⟨true, H, hst.keep _ ⟨rfl, rfl, rfl, rfl, rfl, rfl, rfl, rfl, rfl, rfl, trivial⟩⟩
                       · rw [if_neg c3191] at H
                         replace c3191 := Bool.eq_false_iff.2 c3191
                         refine q_t hst (wt_of 71 rfl rfl c3191) rfl (fun _ hsh => x_move hst rfl) ?_; intro a hst
                         refine q_t hst (wt_of 71 rfl rfl c3191) rfl (fun _ hsh => x_move hst rfl) ?_; intro a hst
                         obtain ⟨x3195, hx3195, H⟩ := Option.bind_eq_some_iff.1 H
                         refine q_t hst (wt_of 71 rfl rfl c3191) rfl (fun _ hsh => x_indexAddr hst Try.underlying39 el_43 rfl rfl (hsh.row 2 rfl) hx3195) ?_; intro a hst
                         refine q_t hst (wt_of 71 rfl rfl c3191) rfl (fun _ hsh => x_loadEsF (j := 0) (cs := [.int .i64 x3195.Number, .int .i64 x3195.Size, .string x3195.Least, .string x3195.Limit, .int .u64 x3195.Low, .int .u64 x3195.High]) (ps := [.int .i64 x3195.Number, .int .i64 x3195.Size, .string x3195.Least, .string x3195.Limit, .int .u64 x3195.Low, .int .u64 x3195.High]) hst ag_43 rfl (hsh.row 2 rfl) (Same.refl _ _) hx3195 rfl (fun _ h => h) rfl) ?_; intro a hst
                         refine q_t hst (wt_of 71 rfl rfl c3191) rfl (fun _ hsh => x_move hst rfl) ?_; intro a hst
                         refine q_t hst (wt_of 71 rfl rfl c3191) rfl (fun _ hsh => x_move hst rfl) ?_; intro a hst
                         obtain ⟨x3196, hx3196, H⟩ := Option.bind_eq_some_iff.1 H
                         refine q_t hst (wt_of 71 rfl rfl c3191) rfl (fun _ hsh => x_indexAddr hst Try.underlying39 el_43 rfl rfl (hsh.row 1 rfl) hx3196) ?_; intro a hst
                         refine q_t hst (wt_of 71 rfl rfl c3191) rfl (fun _ hsh => x_loadEsF (j := 0) (cs := [.int .i64 x3196.Number, .int .i64 x3196.Size, .string x3196.Least, .string x3196.Limit, .int .u64 x3196.Low, .int .u64 x3196.High]) (ps := [.int .i64 x3196.Number, .int .i64 x3196.Size, .string x3196.Least, .string x3196.Limit, .int .u64 x3196.Low, .int .u64 x3196.High]) hst ag_43 rfl (hsh.row 1 rfl) (Same.refl _ _) hx3196 rfl (fun _ h => h) rfl) ?_; intro a hst
                         refine q_t hst (wt_of 71 rfl rfl c3191) rfl (fun _ hsh => x_eqS (b := File.eqb x3195 x3196) (x0 := x3195) (y0 := x3196) hst eqof_43 rfl rfl rfl) ?_; intro a hst
                         refine q_t hst trivial rfl (fun _ hsh => x_pickF hst rfl c3191 rfl) ?_; intro a hst
                         exact hj _ ⟨(File.eqb x3195 x3196), H, hst.keep _ ⟨rfl, rfl, rfl, rfl, rfl, rfl, rfl, rfl, rfl, rfl, trivial⟩⟩
                   · rw [if_neg c3184] at H
                     replace c3184 := Bool.eq_false_iff.2 c3184
                     refine wq_condF hst rfl c3184 ?_
                     refine wq_exit ?_
                     refine then_exit ?_
                     refine then_exit ?_
                     refine block_hit ?_
                     refine then_normal ?_
                     exact ⟨b_2206, H, hst.keep _ ⟨rfl, rfl, rfl, rfl, rfl, rfl, rfl, rfl, trivial⟩, hsh.pick [0, 0, 0, 0]⟩
          · rw [if_neg c2670] at H
            replace c2670 := Bool.eq_false_iff.2 c2670
            refine wq_condF hst rfl c2670 ?_
            refine wq_exit ?_
            refine then_exit ?_
            refine then_exit ?_
            refine block_hit ?_
            refine then_normal ?_
            refine wq_seq ?_
            refine wq_region_lit (.inl rfl) ?_
            refine r_t hst trivial rfl (x_move hst rfl) ?_; intro a hst
            refine r_t hst trivial rfl (x_lenSl hst Try.underlying39 rfl (hsh.row 2 rfl).slen) ?_; intro a hst
            refine r_t hst trivial rfl (x_move hst rfl) ?_; intro a hst
            refine r_t hst trivial rfl (x_lenSl hst Try.underlying39 rfl (hsh.row 1 rfl).slen) ?_; intro a hst
            refine r_t hst trivial rfl (x_cmpI (b := decide ((r19.length : Int) ≤ (r14.length : Int))) hst rfl rfl rfl) ?_; intro a hst
            refine r_t hst trivial rfl (x_move hst rfl) ?_; intro a hst
            refine wl_join0 (Δ := []) (N := Try.f5.ntmps) 12 [(4, .bool false), (5, v16), (6, v21), (7, v26), (147, .bool ((decide ((r19.length : Int) ≤ (r14.length : Int))) && (decide ((r24.length : Int) ≤ (r14.length : Int)))))] ?_ ?_
            · intro a hst
              refine r_t hst trivial rfl (x_move hst rfl) ?_; intro a hst
              refine wl_join0 (Δ := []) (N := Try.f5.ntmps) 22 [(4, .bool false), (157, .bool (((decide ((r19.length : Int) ≤ (r14.length : Int))) && (decide ((r24.length : Int) ≤ (r14.length : Int)))) && (decide ((r14.length : Int) ≤ (w64 ((r19.length : Int) + (r24.length : Int)))))))] ?_ ?_
              · intro a hst
                refine r_t hst trivial rfl (x_assign hst rfl) ?_; intro a hst
                refine wpL_nil ?_
                refine then_normal ?_
                refine wq_ret ?_
                obtain rfl := Option.some.inj H
                exact ret1 hst rfl rfl ⟨rfl, hsh.pick []⟩
              · intro hj
                by_cases c3198 : ((decide ((r19.length : Int) ≤ (r14.length : Int))) && (decide ((r24.length : Int) ≤ (r14.length : Int)))) = true
                · refine r_t hst (wt_of 148 rfl rfl c3198) rfl (x_move hst rfl) ?_; intro a hst
                  refine r_t hst (wt_of 148 rfl rfl c3198) rfl (x_lenSl hst Try.underlying39 rfl (hsh.row 2 rfl).slen) ?_; intro a hst
                  refine r_t hst (wt_of 148 rfl rfl c3198) rfl (x_move hst rfl) ?_; intro a hst
                  refine r_t hst (wt_of 148 rfl rfl c3198) rfl (x_lenSl hst Try.underlying39 rfl (hsh.row 3 rfl).slen) ?_; intro a hst
                  refine r_t hst (wt_of 148 rfl rfl c3198) rfl (x_arI (r := w64 ((r19.length : Int) + (r24.length : Int))) hst rfl rfl rfl) ?_; intro a hst
                  refine r_t hst (wt_of 148 rfl rfl c3198) rfl (x_move hst rfl) ?_; intro a hst
                  refine r_t hst (wt_of 148 rfl rfl c3198) rfl (x_lenSl hst Try.underlying39 rfl (hsh.row 1 rfl).slen) ?_; intro a hst
                  refine r_t hst (wt_of 148 rfl rfl c3198) rfl (x_cmpI (b := decide ((r14.length : Int) ≤ (w64 ((r19.length : Int) + (r24.length : Int))))) hst rfl rfl rfl) ?_; intro a hst
                  refine r_t hst trivial rfl (x_andT hst rfl c3198 rfl) ?_; intro a hst
                  exact hj _ (hst.keep _ ⟨rfl, rfl, trivial⟩)
                · replace c3198 := Bool.eq_false_iff.2 c3198
                  refine r_not hst 148 rfl rfl c3198 rfl ?_; intro a hst
                  refine r_not hst 148 rfl rfl c3198 rfl ?_; intro a hst
                  refine r_not hst 148 rfl rfl c3198 rfl ?_; intro a hst
                  refine r_not hst 148 rfl rfl c3198 rfl ?_; intro a hst
                  refine r_not hst 148 rfl rfl c3198 rfl ?_; intro a hst
                  refine r_not hst 148 rfl rfl c3198 rfl ?_; intro a hst
                  refine r_not hst 148 rfl rfl c3198 rfl ?_; intro a hst
                  refine r_not hst 148 rfl rfl c3198 rfl ?_; intro a hst
                  refine r_t hst trivial rfl (x_andF (decide ((r14.length : Int) ≤ (w64 ((r19.length : Int) + (r24.length : Int))))) hst rfl c3198 rfl) ?_; intro a hst
                  exact hj _ (hst.keep _ ⟨rfl, rfl, trivial⟩)
            · intro hj
              by_cases c3197 : (decide ((r19.length : Int) ≤ (r14.length : Int))) = true
              · refine r_t hst (wt_of 141 rfl rfl c3197) rfl (x_move hst rfl) ?_; intro a hst
                refine r_t hst (wt_of 141 rfl rfl c3197) rfl (x_lenSl hst Try.underlying39 rfl (hsh.row 3 rfl).slen) ?_; intro a hst
                refine r_t hst (wt_of 141 rfl rfl c3197) rfl (x_move hst rfl) ?_; intro a hst
                refine r_t hst (wt_of 141 rfl rfl c3197) rfl (x_lenSl hst Try.underlying39 rfl (hsh.row 1 rfl).slen) ?_; intro a hst
                refine r_t hst (wt_of 141 rfl rfl c3197) rfl (x_cmpI (b := decide ((r24.length : Int) ≤ (r14.length : Int))) hst rfl rfl rfl) ?_; intro a hst
                refine r_t hst trivial rfl (x_andT hst rfl c3197 rfl) ?_; intro a hst
                exact hj _ (hst.keep _ ⟨rfl, rfl, rfl, rfl, rfl, trivial⟩)
              · replace c3197 := Bool.eq_false_iff.2 c3197
                refine r_not hst 141 rfl rfl c3197 rfl ?_; intro a hst
                refine r_not hst 141 rfl rfl c3197 rfl ?_; intro a hst
                refine r_not hst 141 rfl rfl c3197 rfl ?_; intro a hst
                refine r_not hst 141 rfl rfl c3197 rfl ?_; intro a hst
                refine r_not hst 141 rfl rfl c3197 rfl ?_; intro a hst
                refine r_t hst trivial rfl (x_andF (decide ((r24.length : Int) ≤ (r14.length : Int))) hst rfl c3197 rfl) ?_; intro a hst
                exact hj _ (hst.keep _ ⟨rfl, rfl, rfl, rfl, rfl, trivial⟩)
   · intro hj
     by_cases c12 : (sLt a1.Key a1.Least || sEq a1.Key a1.Least) = true
     · refine r_not hst 22 rfl rfl c12 rfl ?_; intro a hst
       refine r_not hst 22 rfl rfl c12 rfl ?_; intro a hst
       refine r_not hst 22 rfl rfl c12 rfl ?_; intro a hst
       refine r_not hst 22 rfl rfl c12 rfl ?_; intro a hst
       refine r_notU hst 26 rfl rfl rfl ?_; intro a hst
       refine r_notU hst 26 rfl rfl rfl ?_; intro a hst
       refine r_notU hst 26 rfl rfl rfl ?_; intro a hst
       refine r_notU hst 26 rfl rfl rfl ?_; intro a hst
       refine r_notU hst 26 rfl rfl rfl ?_; intro a hst
       refine r_not hst 22 rfl rfl c12 rfl ?_; intro a hst
       refine r_t hst trivial rfl (x_orT ((!sEq a1.Limit (ByteArray.mk #[])) && (!sLt a1.Key a1.Limit)) hst rfl c12 rfl) ?_; intro a hst
       exact hj _ (hst.keep _ ⟨rfl, rfl, rfl, rfl, trivial⟩)
     · replace c12 := Bool.eq_false_iff.2 c12
       refine r_t hst (wt_of 22 rfl rfl c12) rfl (x_fieldAddr (j' := 2) hst fa_48_2 rfl rfl) ?_; intro a hst
       refine r_t hst (wt_of 22 rfl rfl c12) rfl (x_loadB (i := 0) hst hsh sc_9 rfl rfl rfl) ?_; intro a hst
       refine r_t hst (wt_of 22 rfl rfl c12) rfl (x_cmpS (b := (!sEq a1.Limit (ByteArray.mk #[]))) hst rfl rfl rfl) ?_; intro a hst
       refine r_t hst (wt_of 22 rfl rfl c12) rfl (x_move hst rfl) ?_; intro a hst
       refine wl_join0 (Δ := []) (N := Try.f5.ntmps) 16 [(0, va0), (3, .pointer (some ⟨g1, 0, none⟩)), (4, .bool false), (22, .bool (sLt a1.Key a1.Least || sEq a1.Key a1.Least)), (32, .bool ((!sEq a1.Limit (ByteArray.mk #[])) && (!sLt a1.Key a1.Limit)))] ?_ ?_
       · intro a hst
         refine r_t hst trivial rfl (x_orF hst rfl c12 rfl) ?_; intro a hst
         exact hj _ (hst.keep _ ⟨rfl, rfl, rfl, rfl, trivial⟩)
       · intro hj
         by_cases c3199 : (!sEq a1.Limit (ByteArray.mk #[])) = true
         · refine r_t hst (wt_of 26 rfl rfl c3199) rfl (x_fieldAddr (j' := 3) hst fa_48_3 rfl rfl) ?_; intro a hst
           refine r_t hst (wt_of 26 rfl rfl c3199) rfl (x_loadB (i := 0) hst hsh sc_9 rfl rfl rfl) ?_; intro a hst
           refine r_t hst (wt_of 26 rfl rfl c3199) rfl (x_fieldAddr (j' := 2) hst fa_48_2 rfl rfl) ?_; intro a hst
           refine r_t hst (wt_of 26 rfl rfl c3199) rfl (x_loadB (i := 0) hst hsh sc_9 rfl rfl rfl) ?_; intro a hst
           refine r_t hst (wt_of 26 rfl rfl c3199) rfl (x_cmpS (b := (!sLt a1.Key a1.Limit)) hst rfl rfl rfl) ?_; intro a hst
           refine r_t hst (wt_of 22 rfl rfl c12) rfl (x_andT hst rfl c3199 rfl) ?_; intro a hst
           exact hj _ (hst.keep _ ⟨rfl, rfl, rfl, rfl, rfl, trivial⟩)
         · replace c3199 := Bool.eq_false_iff.2 c3199
           refine r_not hst 26 rfl rfl c3199 rfl ?_; intro a hst
           refine r_not hst 26 rfl rfl c3199 rfl ?_; intro a hst
           refine r_not hst 26 rfl rfl c3199 rfl ?_; intro a hst
           refine r_not hst 26 rfl rfl c3199 rfl ?_; intro a hst
           refine r_not hst 26 rfl rfl c3199 rfl ?_; intro a hst
           refine r_t hst (wt_of 22 rfl rfl c12) rfl (x_andF (!sLt a1.Key a1.Limit) hst rfl c3199 rfl) ?_; intro a hst
           exact hj _ (hst.keep _ ⟨rfl, rfl, rfl, rfl, rfl, trivial⟩)
end Go.Proofs.Ytbbepmmelpabbaa.Mo
