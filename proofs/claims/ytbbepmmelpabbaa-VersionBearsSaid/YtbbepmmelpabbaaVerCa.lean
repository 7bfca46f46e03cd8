/- Printed by gen.py: contracts. -/
import Derived.Test.YtbbepmmelpabbaaVerCa1
set_option linter.unusedVariables false
set_option linter.unusedSectionVars false
set_option linter.unusedSimpArgs false
set_option maxRecDepth 100000
namespace Go.Proofs.Ytbbepmmelpabbaa.Mo
open Go Go.Proofs.Ytbbepmmelpabbaa.Sy
open Go.Proofs
set_option maxHeartbeats 4000000 in
set_option maxRecDepth 100000 in
theorem l16_VersionBears.calls (k : Nat) (w : World) (va0 : Value) (Za0 : Nat → Prop) (wra0 : World) (hsa0 : Same Za0 wra0 w) (a0 : (List (List File))) (hra0 : RD (Kd.slice 43 k_File) Za0 wra0 va0 a0) (a1 : ByteArray) (r : Bool) (h : l16_VersionBears k a0 a1 = some r) :
    Calls Try.prog 6 ([va0, .string a1] : List Value).toArray w fun e w' => e = .returned (.bool r) ∧ SH (fun _ => False) w w' [] := by
 have H := h
 clear h
 unfold l16_VersionBears at H
 refine calls_enter Try.func6 rfl rfl ?_
 intro a hst
 have hsh := SH.zero (fun _ => False) w
 refine wq_seq ?_
 refine wq_region_lit (.inl rfl) ?_
 refine r_t hst trivial rfl (x_assign hst rfl) ?_; intro a hst
 refine wpL_nil ?_
 refine then_normal ?_
 refine wq_seq ?_
 refine wq_seq ?_
 refine wq_region_lit (.inl rfl) ?_
 obtain ⟨r4, hr4, H⟩ := Option.bind_eq_some_iff.1 H
 refine r_callD hst trivial rfl fn_21 rfl (l16_one.calls k _ r4 hr4) ?_
 rintro e w5 ⟨rfl, hc⟩
 replace hsh := hsh.call0 hc
 clear hc
 refine ⟨_, rfl, fun a hst => ?_⟩
 refine r_t hst trivial rfl (x_notB hst rfl) ?_; intro a hst
 refine wpL_nil ?_
 refine then_normal ?_
 by_cases c6 : (!r4) = true
 · rw [if_pos c6] at H
   refine wq_condT hst rfl c6 ?_
   refine wq_seq ?_
   refine wq_region_lit (.inl rfl) ?_
   refine r_t hst trivial rfl (x_assign hst rfl) ?_; intro a hst
   refine wpL_nil ?_
   refine then_normal ?_
   refine wq_ret ?_
   refine then_ret ?_
   obtain rfl := Option.some.inj H
   exact ret1 hst rfl rfl ⟨rfl, hsh.pick []⟩
 · rw [if_neg c6] at H
   replace c6 := Bool.eq_false_iff.2 c6
   refine wq_condF hst rfl c6 ?_
   refine wq_skip ?_
   refine then_normal ?_
   refine wq_seq ?_
   refine wq_region_lit (.inl rfl) ?_
   refine r_t hst trivial rfl (x_move hst rfl) ?_; intro a hst
   refine r_t hst trivial rfl (x_move hst rfl) ?_; intro a hst
   obtain ⟨r7, hr7, H⟩ := Option.bind_eq_some_iff.1 H
   refine r_callD hst trivial rfl fn_19 rfl (version_Asks.calls k _ _ _ _ (Same.sh0 hsa0 hsh) _ hra0 a1 r7 hr7) ?_
   rintro e w8 ⟨v9, rfl, hc⟩
   replace hsh := hsh.call0 hc
   clear hc
   refine ⟨_, rfl, fun a hst => ?_⟩
   refine r_t hst trivial rfl (x_assign hst rfl) ?_; intro a hst
   refine wpL_nil ?_
   refine then_normal ?_
   refine wq_seq ?_
   refine wq_seq ?_
   refine wq_region_lit (.inl rfl) ?_
   refine r_t hst trivial rfl (x_move hst rfl) ?_; intro a hst
   obtain ⟨r14, hr14, H⟩ := Option.bind_eq_some_iff.1 H
   refine r_callD hst trivial rfl fn_12 rfl (version_Valid.calls k _ _ _ _ (Same.sh0 hsa0 hsh) _ hra0 r14 hr14) ?_
   rintro e w15 ⟨rfl, hc⟩
   replace hsh := hsh.call0 hc
   clear hc
   refine ⟨_, rfl, fun a hst => ?_⟩
   refine r_t hst trivial rfl (x_notB hst rfl) ?_; intro a hst
   refine wpL_nil ?_
   refine then_normal ?_
   by_cases c16 : (!r14) = true
   · rw [if_pos c16] at H
     refine wq_condT hst rfl c16 ?_
     refine wq_seq ?_
     refine wq_region_lit (.inl rfl) ?_
     refine r_t hst trivial rfl (x_move hst rfl) ?_; intro a hst
     refine r_t hst trivial rfl (x_lenSl hst Try.underlying25 rfl (hsh.row 0 rfl).slen) ?_; intro a hst
     refine r_t hst trivial rfl (x_cmpI (b := ((r7.length : Int) == 0)) hst rfl rfl rfl) ?_; intro a hst
     refine r_t hst trivial rfl (x_assign hst rfl) ?_; intro a hst
     refine wpL_nil ?_
     refine then_normal ?_
     refine wq_ret ?_
     refine then_ret ?_
     obtain rfl := Option.some.inj H
     exact ret1 hst rfl rfl ⟨rfl, hsh.pick []⟩
   · rw [if_neg c16] at H
     replace c16 := Bool.eq_false_iff.2 c16
     refine wq_condF hst rfl c16 ?_
     refine wq_skip ?_
     refine then_normal ?_
     refine wq_seq ?_
     refine wq_region_lit (.inl rfl) ?_
     refine r_t hst trivial rfl (x_assign hst rfl) ?_; intro a hst
     refine wpL_nil ?_
     refine then_normal ?_
     refine wq_seq ?_
     refine wq_seq ?_
     refine wq_region_lit (.inl rfl) ?_
     refine r_t hst trivial rfl (x_assign hst rfl) ?_; intro a hst
     refine wpL_nil ?_
     refine then_normal ?_
     refine wq_block ?_
     refine wq_loop_fuel (fun k_417 a w' => ∃ (i_332 : Int), ∃ (i_333 : Int), l16_VersionBears.l0 a0 a1 r7 k_417 i_332 i_333 = some r ∧ ST [] Try.f6.ntmps a [(0, va0), (1, .string a1), (4, .bool false), (5, v9), (6, .int .i64 i_332), (7, .int .i64 i_333)] ∧ SH (fun _ => False) w w' [Row k_Place 41 v9 r7]) k ?_ ?_
     · exact ⟨0, 0, H, hst.keep _ ⟨rfl, rfl, rfl, rfl, rfl, rfl, trivial⟩, hsh.pick [0]⟩
     · rintro k_417 a W_334 ⟨i_332, i_333, H, hst, hsh⟩
       cases k_417 with
       | zero => rw [l16_VersionBears.l0] at H; cases H
       | succ k_417 =>
        rw [l16_VersionBears.l0] at H
        refine wq_seq ?_
        refine wq_seq ?_
        refine wq_region_lit (.inl rfl) ?_
        refine r_t hst trivial rfl (x_move hst rfl) ?_; intro a hst
        refine r_t hst trivial rfl (x_move hst rfl) ?_; intro a hst
        refine r_t hst trivial rfl (x_lenSl hst Try.underlying23 rfl hra0.slen) ?_; intro a hst
        refine r_t hst trivial rfl (x_cmpI (b := decide (i_333 < (a0.length : Int))) hst rfl rfl rfl) ?_; intro a hst
        refine wpL_nil ?_
        refine then_normal ?_
        by_cases c1588 : (decide (i_333 < (a0.length : Int))) = true
        · rw [if_pos c1588] at H
          refine wq_condT hst rfl c1588 ?_
          refine wq_skip ?_
          refine then_normal ?_
          obtain ⟨J_458, hJ_458, H⟩ := Jn.elim H
          refine wq_cut (fun a w' => ∃ (i_456 : Int), J_458 i_456 = some r ∧ ST [] Try.f6.ntmps a [(0, va0), (1, .string a1), (4, .bool false), (5, v9), (6, .int .i64 i_456), (7, .int .i64 i_333)] ∧ SH (fun _ => False) w w' [Row k_Place 41 v9 r7]) ?_ ?_
          · rintro a W_457 ⟨i_456, H, hst, hsh⟩
            subst hJ_458
            dsimp only at H
            refine wq_region_lit (.inl rfl) ?_
            refine r_t hst trivial rfl (x_move hst rfl) ?_; intro a hst
            refine r_t hst trivial rfl (x_arI (r := w64 (i_333 + 1)) hst rfl rfl rfl) ?_; intro a hst
            refine r_t hst trivial rfl (x_assign hst rfl) ?_; intro a hst
            refine wpL_nil ?_
            refine then_normal ?_
            exact ⟨k_417, Nat.lt_succ_self _, i_456, (w64 (i_333 + 1)), H, hst.keep _ ⟨rfl, rfl, rfl, rfl, rfl, rfl, trivial⟩, hsh.pick [0]⟩
          · refine wq_block ?_
            refine wq_seq ?_
            refine wq_region_lit (.inl rfl) ?_
            refine r_t hst trivial rfl (x_assign hst rfl) ?_; intro a hst
            refine wpL_nil ?_
            refine then_normal ?_
            refine wq_block ?_
            refine wq_loop_fuel (fun k_487 a w' => ∃ (i_472 : Int), ∃ (i_473 : Int), l16_VersionBears.l1 a0 a1 i_333 J_458 k_487 i_472 i_473 = some r ∧ ST [] Try.f6.ntmps a [(0, va0), (1, .string a1), (4, .bool false), (5, v9), (6, .int .i64 i_472), (7, .int .i64 i_333), (8, .int .i64 i_473)] ∧ SH (fun _ => False) w w' [Row k_Place 41 v9 r7]) k_417 ?_ ?_
            · exact ⟨i_332, 0, H, hst.keep _ ⟨rfl, rfl, rfl, rfl, rfl, rfl, rfl, trivial⟩, hsh.pick [0]⟩
            · rintro k_487 a W_474 ⟨i_472, i_473, H, hst, hsh⟩
              cases k_487 with
              | zero => rw [l16_VersionBears.l1] at H; cases H
              | succ k_487 =>
               rw [l16_VersionBears.l1] at H
               refine wq_seq ?_
               refine wq_seq ?_
               refine wq_region_lit (.inl rfl) ?_
               refine r_t hst trivial rfl (x_move hst rfl) ?_; intro a hst
               refine r_t hst trivial rfl (x_move hst rfl) ?_; intro a hst
               refine r_t hst trivial rfl (x_move hst rfl) ?_; intro a hst
               obtain ⟨x1855, hx1855, H⟩ := Option.bind_eq_some_iff.1 H
               refine r_t hst trivial rfl (x_indexAddr hst Try.underlying23 el_39 rfl rfl hra0 hx1855) ?_; intro a hst
               obtain ⟨_, hk1856, hc1857⟩ := RD.cells2 hra0 hx1855
               obtain ⟨v1858, rfl, hr1859⟩ := hk1856
               refine r_t hst trivial rfl (x_loadC hst sc_39 rfl (hc1857 _ (Same.sh0 hsa0 hsh) 0 _ rfl)) ?_; intro a hst
               refine r_t hst trivial rfl (x_lenSl hst Try.underlying39 rfl hr1859.slen) ?_; intro a hst
               refine r_t hst trivial rfl (x_cmpI (b := decide (i_473 < (x1855.length : Int))) hst rfl rfl rfl) ?_; intro a hst
               refine wpL_nil ?_
               refine then_normal ?_
               by_cases c1860 : (decide (i_473 < (x1855.length : Int))) = true
               · rw [if_pos c1860] at H
                 refine wq_condT hst rfl c1860 ?_
                 refine wq_skip ?_
                 refine then_normal ?_
                 obtain ⟨J_493, hJ_493, H⟩ := Jn.elim H
                 refine wq_cut (fun a w' => ∃ (i_491 : Int), J_493 i_491 = some r ∧ ST [] Try.f6.ntmps a [(0, va0), (1, .string a1), (4, .bool false), (5, v9), (6, .int .i64 i_491), (7, .int .i64 i_333), (8, .int .i64 i_473)] ∧ SH (fun _ => False) w w' [Row k_Place 41 v9 r7]) ?_ ?_
                 · rintro a W_492 ⟨i_491, H, hst, hsh⟩
                   subst hJ_493
                   dsimp only at H
                   refine wq_region_lit (.inl rfl) ?_
                   refine r_t hst trivial rfl (x_move hst rfl) ?_; intro a hst
                   refine r_t hst trivial rfl (x_arI (r := w64 (i_473 + 1)) hst rfl rfl rfl) ?_; intro a hst
                   refine r_t hst trivial rfl (x_assign hst rfl) ?_; intro a hst
                   refine wpL_nil ?_
                   refine then_normal ?_
                   exact ⟨k_487, Nat.lt_succ_self _, i_491, (w64 (i_473 + 1)), H, hst.keep _ ⟨rfl, rfl, rfl, rfl, rfl, rfl, rfl, trivial⟩, hsh.pick [0]⟩
                 · refine wq_block ?_
                   refine wq_seq ?_
                   refine wq_region_lit (.inl rfl) ?_
                   refine r_t hst trivial rfl (x_move hst rfl) ?_; intro a hst
                   refine r_t hst trivial rfl (x_move hst rfl) ?_; intro a hst
                   obtain ⟨x1881, hx1881, H⟩ := Option.bind_eq_some_iff.1 H
                   refine r_t hst trivial rfl (x_indexAddr hst Try.underlying23 el_39 rfl rfl hra0 hx1881) ?_; intro a hst
                   obtain ⟨_, hk1882, hc1883⟩ := RD.cells2 hra0 hx1881
                   obtain ⟨v1884, rfl, hr1885⟩ := hk1882
                   refine r_t hst trivial rfl (x_loadC hst sc_39 rfl (hc1883 _ (Same.sh0 hsa0 hsh) 0 _ rfl)) ?_; intro a hst
                   refine r_t hst trivial rfl (x_move hst rfl) ?_; intro a hst
                   obtain ⟨x1886, hx1886, H⟩ := Option.bind_eq_some_iff.1 H
                   refine r_t hst trivial rfl (x_indexAddr hst Try.underlying39 el_43 rfl rfl hr1885 hx1886) ?_; intro a hst
                   refine r_t hst trivial rfl (x_fieldAddrE (n' := Int.toNat i_473 * k_File.sz + 2) hst fa_43_2 rfl rfl) ?_; intro a hst
                   refine r_t hst trivial rfl (x_loadEF (j := 2) (cs := [.int .i64 x1886.Number, .int .i64 x1886.Size, .string x1886.Least, .string x1886.Limit, .int .u64 x1886.Low, .int .u64 x1886.High]) hst sc_9 rfl hr1885 (Same.sh0 hsa0 hsh) hx1886 rfl (fun _ h => h) rfl) ?_; intro a hst
                   refine r_t hst trivial rfl (x_move hst rfl) ?_; intro a hst
                   refine r_t hst trivial rfl (x_cmpS (b := (sLt x1886.Least a1 || sEq x1886.Least a1)) hst rfl rfl rfl) ?_; intro a hst
                   refine r_t hst trivial rfl (x_move hst rfl) ?_; intro a hst
                   obtain ⟨J_495, hJ_495, H⟩ := Jn.elim H
                   refine wl_join 22 (fun a w' => ∃ (b_494 : Bool), J_495 b_494 = some r ∧ ST [] Try.f6.ntmps a [(0, va0), (1, .string a1), (4, .bool false), (5, v9), (6, .int .i64 i_472), (7, .int .i64 i_333), (8, .int .i64 i_473), (60, .bool b_494)] ∧ SH (fun _ => False) w w' [Row k_Place 41 v9 r7]) ?_ ?_
                   · rintro a W_496 ⟨b_494, H, hst, hsh⟩
                     subst hJ_495
                     dsimp only at H
                     refine wpL_nil ?_
                     refine then_normal ?_
                     by_cases c1894 : b_494 = true
                     · rw [if_pos c1894] at H
                       refine wq_condT hst rfl c1894 ?_
                       refine wq_region_lit (.inl rfl) ?_
                       refine r_t hst trivial rfl (x_move hst rfl) ?_; intro a hst
                       refine r_t hst trivial rfl (x_arI (r := w64 (i_472 + 1)) hst rfl rfl rfl) ?_; intro a hst
                       refine r_t hst trivial rfl (x_assign hst rfl) ?_; intro a hst
                       refine wpL_nil ?_
                       refine block_normal ?_
                       refine then_normal ?_
                       exact ⟨(w64 (i_472 + 1)), H, hst.keep _ ⟨rfl, rfl, rfl, rfl, rfl, rfl, rfl, trivial⟩, hsh.pick [0]⟩
                     · rw [if_neg c1894] at H
                       replace c1894 := Bool.eq_false_iff.2 c1894
                       refine wq_condF hst rfl c1894 ?_
                       refine wq_skip ?_
                       refine block_normal ?_
                       refine then_normal ?_
                       exact ⟨i_472, H, hst.keep _ ⟨rfl, rfl, rfl, rfl, rfl, rfl, rfl, trivial⟩, hsh.pick [0]⟩
                   · intro hj
                     by_cases c1887 : (sLt x1886.Least a1 || sEq x1886.Least a1) = true
                     · rw [if_pos c1887] at H
                       refine r_t hst (wt_of 49 rfl rfl c1887) rfl (x_move hst rfl) ?_; intro a hst
                       refine r_t hst (wt_of 49 rfl rfl c1887) rfl (x_move hst rfl) ?_; intro a hst
                       refine r_t hst (wt_of 49 rfl rfl c1887) rfl (x_move hst rfl) ?_; intro a hst
                       obtain ⟨x1895, hx1895, H⟩ := Option.bind_eq_some_iff.1 H
                       refine r_t hst (wt_of 49 rfl rfl c1887) rfl (x_indexAddr hst Try.underlying23 el_39 rfl rfl hra0 hx1895) ?_; intro a hst
                       obtain ⟨_, hk1896, hc1897⟩ := RD.cells2 hra0 hx1895
                       obtain ⟨v1898, rfl, hr1899⟩ := hk1896
                       refine r_t hst (wt_of 49 rfl rfl c1887) rfl (x_loadC hst sc_39 rfl (hc1897 _ (Same.sh0 hsa0 hsh) 0 _ rfl)) ?_; intro a hst
                       refine r_t hst (wt_of 49 rfl rfl c1887) rfl (x_move hst rfl) ?_; intro a hst
                       obtain ⟨x1900, hx1900, H⟩ := Option.bind_eq_some_iff.1 H
                       refine r_t hst (wt_of 49 rfl rfl c1887) rfl (x_indexAddr hst Try.underlying39 el_43 rfl rfl hr1899 hx1900) ?_; intro a hst
                       refine r_t hst (wt_of 49 rfl rfl c1887) rfl (x_fieldAddrE (n' := Int.toNat i_473 * k_File.sz + 3) hst fa_43_3 rfl rfl) ?_; intro a hst
                       refine r_t hst (wt_of 49 rfl rfl c1887) rfl (x_loadEF (j := 3) (cs := [.int .i64 x1900.Number, .int .i64 x1900.Size, .string x1900.Least, .string x1900.Limit, .int .u64 x1900.Low, .int .u64 x1900.High]) hst sc_9 rfl hr1899 (Same.sh0 hsa0 hsh) hx1900 rfl (fun _ h => h) rfl) ?_; intro a hst
                       refine r_t hst (wt_of 49 rfl rfl c1887) rfl (x_cmpS (b := sLt a1 x1900.Limit) hst rfl rfl rfl) ?_; intro a hst
                       refine r_t hst trivial rfl (x_pickT hst rfl c1887 rfl) ?_; intro a hst
                       exact hj _ _ ⟨(sLt a1 x1900.Limit), H, hst.keep _ ⟨rfl, rfl, rfl, rfl, rfl, rfl, rfl, rfl, trivial⟩, hsh.pick [0]⟩
                     · rw [if_neg c1887] at H
                       replace c1887 := Bool.eq_false_iff.2 c1887
                       refine r_not hst 49 rfl rfl c1887 rfl ?_; intro a hst
                       refine r_not hst 49 rfl rfl c1887 rfl ?_; intro a hst
                       refine r_not hst 49 rfl rfl c1887 rfl ?_; intro a hst
                       refine r_not hst 49 rfl rfl c1887 rfl ?_; intro a hst
                       refine r_not hst 49 rfl rfl c1887 rfl ?_; intro a hst
                       refine r_not hst 49 rfl rfl c1887 rfl ?_; intro a hst
                       refine r_not hst 49 rfl rfl c1887 rfl ?_; intro a hst
                       refine r_not hst 49 rfl rfl c1887 rfl ?_; intro a hst
                       refine r_not hst 49 rfl rfl c1887 rfl ?_; intro a hst
                       refine r_not hst 49 rfl rfl c1887 rfl ?_; intro a hst
                       refine r_t hst trivial rfl (x_pickF hst rfl c1887 rfl) ?_; intro a hst
                       exact hj _ _ ⟨false, H, hst.keep _ ⟨rfl, rfl, rfl, rfl, rfl, rfl, rfl, rfl, trivial⟩, hsh.pick [0]⟩
               · rw [if_neg c1860] at H
                 replace c1860 := Bool.eq_false_iff.2 c1860
                 refine wq_condF hst rfl c1860 ?_
                 refine wq_exit ?_
                 refine then_exit ?_
                 refine then_exit ?_
                 refine block_hit ?_
                 refine block_normal ?_
                 refine then_normal ?_
                 exact ⟨i_472, H, hst.keep _ ⟨rfl, rfl, rfl, rfl, rfl, rfl, trivial⟩, hsh.pick [0]⟩
        · rw [if_neg c1588] at H
          replace c1588 := Bool.eq_false_iff.2 c1588
          refine wq_condF hst rfl c1588 ?_
          refine wq_exit ?_
          refine then_exit ?_
          refine then_exit ?_
          refine block_hit ?_
          refine then_normal ?_
          refine wq_seq ?_
          refine wq_seq ?_
          refine wq_region_lit (.inl rfl) ?_
          refine r_t hst trivial rfl (x_move hst rfl) ?_; intro a hst
          refine r_t hst trivial rfl (x_lenSl hst Try.underlying25 rfl (hsh.row 0 rfl).slen) ?_; intro a hst
          refine r_t hst trivial rfl (x_move hst rfl) ?_; intro a hst
          refine r_t hst trivial rfl (x_cmpI (b := ((r7.length : Int) != i_332)) hst rfl rfl rfl) ?_; intro a hst
          refine wpL_nil ?_
          refine then_normal ?_
          by_cases c1902 : ((r7.length : Int) != i_332) = true
          · rw [if_pos c1902] at H
            refine wq_condT hst rfl c1902 ?_
            refine wq_seq ?_
            refine wq_region_lit (.inl rfl) ?_
            refine r_t hst trivial rfl (x_assign hst rfl) ?_; intro a hst
            refine wpL_nil ?_
            refine then_normal ?_
            refine wq_ret ?_
            refine then_ret ?_
            obtain rfl := Option.some.inj H
            exact ret1 hst rfl rfl ⟨rfl, hsh.pick []⟩
          · rw [if_neg c1902] at H
            replace c1902 := Bool.eq_false_iff.2 c1902
            refine wq_condF hst rfl c1902 ?_
            refine wq_skip ?_
            refine then_normal ?_
            obtain ⟨J_1262, hJ_1262, H⟩ := Jn.elim H
            refine wq_cut (fun a w' => J_1262 = some r ∧ ST [] Try.f6.ntmps a [(4, .bool false)] ∧ SH (fun _ => False) w w' []) ?_ ?_
            · rintro a W_1261 ⟨H, hst, hsh⟩
              subst hJ_1262
              refine wq_seq ?_
              refine wq_region_lit (.inl rfl) ?_
              refine r_t hst trivial rfl (x_assign hst rfl) ?_; intro a hst
              refine wpL_nil ?_
              refine then_normal ?_
              refine wq_ret ?_
              obtain rfl := Option.some.inj H
              exact ret1 hst rfl rfl ⟨rfl, hsh.pick []⟩
            · refine wq_seq ?_
              refine wq_region_lit (.inl rfl) ?_
              refine r_t hst trivial rfl (x_assign hst rfl) ?_; intro a hst
              refine wpL_nil ?_
              refine then_normal ?_
              refine wq_block ?_
              refine wq_loop_fuel (fun k_1774 a w' => ∃ (i_1518 : Int), l16_VersionBears.l2 a0 a1 r7 J_1262 k_1774 i_1518 = some r ∧ ST [] Try.f6.ntmps a [(0, va0), (1, .string a1), (4, .bool false), (5, v9), (9, .int .i64 i_1518)] ∧ SH (fun _ => False) w w' [Row k_Place 41 v9 r7]) k_417 ?_ ?_
              · exact ⟨0, H, hst.keep _ ⟨rfl, rfl, rfl, rfl, rfl, trivial⟩, hsh.pick [0]⟩
              · rintro k_1774 a W_1519 ⟨i_1518, H, hst, hsh⟩
                cases k_1774 with
                | zero => rw [l16_VersionBears.l2] at H; cases H
                | succ k_1774 =>
                 rw [l16_VersionBears.l2] at H
                 refine wq_seq ?_
                 refine wq_seq ?_
                 refine wq_region_lit (.inl rfl) ?_
                 refine r_t hst trivial rfl (x_move hst rfl) ?_; intro a hst
                 refine r_t hst trivial rfl (x_move hst rfl) ?_; intro a hst
                 refine r_t hst trivial rfl (x_lenSl hst Try.underlying25 rfl (hsh.row 0 rfl).slen) ?_; intro a hst
                 refine r_t hst trivial rfl (x_cmpI (b := decide (i_1518 < (r7.length : Int))) hst rfl rfl rfl) ?_; intro a hst
                 refine wpL_nil ?_
                 refine then_normal ?_
                 by_cases c2644 : (decide (i_1518 < (r7.length : Int))) = true
                 · rw [if_pos c2644] at H
                   refine wq_condT hst rfl c2644 ?_
                   refine wq_skip ?_
                   refine then_normal ?_
                   refine wq_seq ?_
                   refine wq_block ?_
                   refine wq_seq ?_
                   refine wq_region_lit (.inl rfl) ?_
                   refine r_t hst trivial rfl (x_move hst rfl) ?_; intro a hst
                   refine r_t hst trivial rfl (x_move hst rfl) ?_; intro a hst
                   refine r_t hst trivial rfl (x_move hst rfl) ?_; intro a hst
                   obtain ⟨x2718, hx2718, H⟩ := Option.bind_eq_some_iff.1 H
                   refine r_t hst trivial rfl (x_indexAddr hst Try.underlying25 el_41 rfl rfl (hsh.row 0 rfl) hx2718) ?_; intro a hst
                   refine r_t hst trivial rfl (x_fieldAddrE (n' := Int.toNat i_1518 * k_Place.sz + 1) hst fa_41_1 rfl rfl) ?_; intro a hst
                   refine r_t hst trivial rfl (x_loadEF (j := 1) (cs := [.int .i64 x2718.Level, .int .i64 x2718.Number]) hst sc_3 rfl (hsh.row 0 rfl) (Same.refl _ _) hx2718 rfl (fun _ h => h) rfl) ?_; intro a hst
                   obtain ⟨r2719, hr2719, H⟩ := Option.bind_eq_some_iff.1 H
                   refine r_callD hst trivial rfl fn_24 rfl (version_Find.calls k_1774 _ _ _ _ (Same.sh0 hsa0 hsh) _ hra0 x2718.Number r2719 hr2719) ?_
                   rintro e w2720 ⟨rfl, hc⟩
                   replace hsh := hsh.call0 hc
                   clear hc
                   refine ⟨_, rfl, fun a hst => ?_⟩
                   refine r_t hst trivial rfl (x_move hst rfl) ?_; intro a hst
                   refine r_t hst trivial rfl (x_extract hst rfl rfl) ?_; intro a hst
                   refine r_t hst trivial rfl (x_extract hst rfl rfl) ?_; intro a hst
                   refine r_t hst trivial rfl (x_extract hst rfl rfl) ?_; intro a hst
                   refine r_alloc hst hsh trivial rfl zr_43 ?_
                   intro g2721 a w2722 hgg2721 hsh hst
                   refine r_t hst trivial rfl (x_assign hst rfl) ?_; intro a hst
                   refine r_storeBs (i := 0) (cs' := [.int .i64 r2719.2.1.Number, .int .i64 r2719.2.1.Size, .string r2719.2.1.Least, .string r2719.2.1.Limit, .int .u64 r2719.2.1.Low, .int .u64 r2719.2.1.High]) (vs := [.int .i64 r2719.2.1.Number, .int .i64 r2719.2.1.Size, .string r2719.2.1.Least, .string r2719.2.1.Limit, .int .u64 r2719.2.1.Low, .int .u64 r2719.2.1.High]) hst hsh trivial ag_43 rfl rfl rfl rfl rfl rfl ?_; intro a w2723 hsh hst
                   refine r_t hst trivial rfl (x_assign hst rfl) ?_; intro a hst
                   refine wpL_nil ?_
                   refine then_normal ?_
                   refine wq_seq ?_
                   refine wq_seq ?_
                   refine wq_region_lit (.inl rfl) ?_
                   refine r_t hst trivial rfl (x_move hst rfl) ?_; intro a hst
                   refine r_t hst trivial rfl (x_notB hst rfl) ?_; intro a hst
                   refine r_t hst trivial rfl (x_move hst rfl) ?_; intro a hst
                   obtain ⟨J_1905, hJ_1905, H⟩ := Jn.elim H
                   refine wl_join 11 (fun a w' => ∃ (b_1904 : Bool), J_1905 b_1904 = some r ∧ ST [] Try.f6.ntmps a [(0, va0), (1, .string a1), (4, .bool false), (5, v9), (9, .int .i64 i_1518), (10, .int .i64 r2719.1), (11, .pointer (some ⟨g2721, 0, none⟩)), (94, .bool b_1904)] ∧ SH (fun _ => False) w w' [Row k_Place 41 v9 r7, Box g2721 [.int .i64 r2719.2.1.Number, .int .i64 r2719.2.1.Size, .string r2719.2.1.Least, .string r2719.2.1.Limit, .int .u64 r2719.2.1.Low, .int .u64 r2719.2.1.High] 43]) ?_ ?_
                   · rintro a W_1906 ⟨b_1904, H, hst, hsh⟩
                     subst hJ_1905
                     dsimp only at H
                     refine r_t hst trivial rfl (x_move hst rfl) ?_; intro a hst
                     refine wl_join0 (Δ := []) (N := Try.f6.ntmps) 17 [(0, va0), (1, .string a1), (4, .bool false), (5, v9), (9, .int .i64 i_1518), (10, .int .i64 r2719.1), (11, .pointer (some ⟨g2721, 0, none⟩)), (100, .bool (b_1904 || (sLt a1 r2719.2.1.Least)))] ?_ ?_
                     · intro a hst
                       refine r_t hst trivial rfl (x_move hst rfl) ?_; intro a hst
                       refine wl_join0 (Δ := []) (N := Try.f6.ntmps) 23 [(0, va0), (1, .string a1), (4, .bool false), (5, v9), (9, .int .i64 i_1518), (10, .int .i64 r2719.1), (106, .bool ((b_1904 || (sLt a1 r2719.2.1.Least)) || (!sLt a1 r2719.2.1.Limit)))] ?_ ?_
                       · intro a hst
                         refine wpL_nil ?_
                         refine then_normal ?_
                         by_cases c2734 : ((b_1904 || (sLt a1 r2719.2.1.Least)) || (!sLt a1 r2719.2.1.Limit)) = true
                         · rw [if_pos c2734] at H
                           refine wq_condT hst rfl c2734 ?_
                           refine wq_seq ?_
                           refine wq_region_lit (.inl rfl) ?_
                           refine r_t hst trivial rfl (x_assign hst rfl) ?_; intro a hst
                           refine wpL_nil ?_
                           refine then_normal ?_
                           refine wq_ret ?_
                           refine then_ret ?_
                           refine block_ret ?_
                           refine then_ret ?_
                           refine then_ret ?_
                           refine block_ret ?_
                           refine then_ret ?_
                           obtain rfl := Option.some.inj H
                           exact ret1 hst rfl rfl ⟨rfl, hsh.pick []⟩
                         · rw [if_neg c2734] at H
                           replace c2734 := Bool.eq_false_iff.2 c2734
                           refine wq_condF hst rfl c2734 ?_
                           refine wq_skip ?_
                           refine then_normal ?_
                           refine wq_seq ?_
                           refine wq_region_q (.inl rfl) (fun w' => SH (fun _ => False) w w' [Row k_Place 41 v9 r7, Box g2721 [.int .i64 r2719.2.1.Number, .int .i64 r2719.2.1.Size, .string r2719.2.1.Least, .string r2719.2.1.Limit, .int .u64 r2719.2.1.Low, .int .u64 r2719.2.1.High] 43]) (shut_sh _ _ _) hsh.drew fo (by kernel_rfl) ?_
                           refine q_t hst trivial rfl (fun _ hsh => x_move hst rfl) ?_; intro a hst
                           refine q_t hst trivial rfl (fun _ hsh => x_cmpI (b := decide (0 < i_1518)) hst rfl rfl rfl) ?_; intro a hst
                           refine q_t hst trivial rfl (fun _ hsh => x_move hst rfl) ?_; intro a hst
                           obtain ⟨J_1947, hJ_1947, H⟩ := Jn.elim H
                           refine q_join 40 (fun a => ∃ (b_1946 : Bool), J_1947 b_1946 = some r ∧ ST [] Try.f6.ntmps a [(0, va0), (1, .string a1), (4, .bool false), (5, v9), (9, .int .i64 i_1518), (146, .bool b_1946)]) ?_ ?_
                           · rintro a ⟨b_1946, H, hst⟩
                             subst hJ_1947
                             dsimp only at H
                             refine q_nil ?_
                             intro w2762 hsh
                             refine then_normal ?_
                             by_cases c2763 : b_1946 = true
                             · rw [if_pos c2763] at H
                               refine wq_condT hst rfl c2763 ?_
                               refine wq_seq ?_
                               refine wq_region_lit (.inl rfl) ?_
                               refine r_t hst trivial rfl (x_assign hst rfl) ?_; intro a hst
                               refine wpL_nil ?_
                               refine then_normal ?_
                               refine wq_ret ?_
                               refine block_ret ?_
                               refine then_ret ?_
                               refine then_ret ?_
                               refine block_ret ?_
                               refine then_ret ?_
                               obtain rfl := Option.some.inj H
                               exact ret1 hst rfl rfl ⟨rfl, hsh.pick []⟩
                             · rw [if_neg c2763] at H
                               replace c2763 := Bool.eq_false_iff.2 c2763
                               refine wq_condF hst rfl c2763 ?_
                               refine wq_skip ?_
                               refine block_normal ?_
                               refine then_normal ?_
                               refine wq_region_lit (.inl rfl) ?_
                               refine r_t hst trivial rfl (x_move hst rfl) ?_; intro a hst
                               refine r_t hst trivial rfl (x_arI (r := w64 (i_1518 + 1)) hst rfl rfl rfl) ?_; intro a hst
                               refine r_t hst trivial rfl (x_assign hst rfl) ?_; intro a hst
                               refine wpL_nil ?_
                               refine then_normal ?_
                               exact ⟨k_1774, Nat.lt_succ_self _, (w64 (i_1518 + 1)), H, hst.keep _ ⟨rfl, rfl, rfl, rfl, rfl, trivial⟩, hsh.pick [0]⟩
                           · intro hj
                             by_cases c2735 : (decide (0 < i_1518)) = true
                             · rw [if_pos c2735] at H
                               refine q_t hst (wt_of 109 rfl rfl c2735) rfl (fun _ hsh => x_move hst rfl) ?_; intro a hst
                               refine q_t hst (wt_of 109 rfl rfl c2735) rfl (fun _ hsh => x_move hst rfl) ?_; intro a hst
                               refine q_t hst (wt_of 109 rfl rfl c2735) rfl (fun _ hsh => x_arI (r := w64 (i_1518 - 1)) hst rfl rfl rfl) ?_; intro a hst
                               obtain ⟨x2764, hx2764, H⟩ := Option.bind_eq_some_iff.1 H
                               refine q_t hst (wt_of 109 rfl rfl c2735) rfl (fun _ hsh => x_indexAddr hst Try.underlying25 el_41 rfl rfl (hsh.row 0 rfl) hx2764) ?_; intro a hst
                               refine q_t hst (wt_of 109 rfl rfl c2735) rfl (fun _ hsh => x_fieldAddrE (n' := Int.toNat (w64 (i_1518 - 1)) * k_Place.sz) hst fa_41_0 rfl rfl) ?_; intro a hst
                               refine q_t hst (wt_of 109 rfl rfl c2735) rfl (fun _ hsh => x_loadEF (j := 0) (cs := [.int .i64 x2764.Level, .int .i64 x2764.Number]) hst sc_3 rfl (hsh.row 0 rfl) (Same.refl _ _) hx2764 rfl (fun _ h => h) rfl) ?_; intro a hst
                               refine q_t hst (wt_of 109 rfl rfl c2735) rfl (fun _ hsh => x_move hst rfl) ?_; intro a hst
                               refine q_t hst (wt_of 109 rfl rfl c2735) rfl (fun _ hsh => x_cmpI (b := decide (r2719.1 < x2764.Level)) hst rfl rfl rfl) ?_; intro a hst
                               refine q_t hst (wt_of 109 rfl rfl c2735) rfl (fun _ hsh => x_move hst rfl) ?_; intro a hst
                               obtain ⟨J_2001, hJ_2001, H⟩ := Jn.elim H
                               refine q_join 39 (fun a => ∃ (b_2000 : Bool), J_2001 b_2000 = some r ∧ ST [] Try.f6.ntmps a [(0, va0), (1, .string a1), (4, .bool false), (5, v9), (9, .int .i64 i_1518), (109, .bool (decide (0 < i_1518))), (145, .bool b_2000)]) ?_ ?_
                               · rintro a ⟨b_2000, H, hst⟩
                                 subst hJ_2001
                                 dsimp only at H
                                 refine q_t hst trivial rfl (fun _ hsh => x_pickT hst rfl c2735 rfl) ?_; intro a hst
                                 exact hj _ ⟨b_2000, H, hst.keep _ ⟨rfl, rfl, rfl, rfl, rfl, rfl, trivial⟩⟩
                               · intro hj
                                 by_cases c2765 : (decide (r2719.1 < x2764.Level)) = true
                                 · rw [if_pos c2765] at H
                                   refine q_not hst 118 rfl rfl c2765 rfl ?_; intro a hst
                                   refine q_not hst 118 rfl rfl c2765 rfl ?_; intro a hst
                                   refine q_not hst 118 rfl rfl c2765 rfl ?_; intro a hst
                                   refine q_not hst 118 rfl rfl c2765 rfl ?_; intro a hst
                                   refine q_not hst 118 rfl rfl c2765 rfl ?_; intro a hst
                                   refine q_not hst 118 rfl rfl c2765 rfl ?_; intro a hst
                                   refine q_not hst 118 rfl rfl c2765 rfl ?_; intro a hst
                                   refine q_not hst 118 rfl rfl c2765 rfl ?_; intro a hst
                                   refine q_not hst 118 rfl rfl c2765 rfl ?_; intro a hst
                                   refine q_notU hst 127 rfl rfl rfl ?_; intro a hst
                                   refine q_notU hst 127 rfl rfl rfl ?_; intro a hst
                                   refine q_notU hst 127 rfl rfl rfl ?_; intro a hst
                                   refine q_notU hst 130 rfl rfl rfl ?_; intro a hst
                                   refine q_notU hst 130 rfl rfl rfl ?_; intro a hst
                                   refine q_notU hst 130 rfl rfl rfl ?_; intro a hst
                                   refine q_notU hst 130 rfl rfl rfl ?_; intro a hst
                                   refine q_notU hst 130 rfl rfl rfl ?_; intro a hst
                                   refine q_notU hst 130 rfl rfl rfl ?_; intro a hst
                                   refine q_notU hst 130 rfl rfl rfl ?_; intro a hst
                                   refine q_notU hst 130 rfl rfl rfl ?_; intro a hst
                                   refine q_notU hst 130 rfl rfl rfl ?_; intro a hst
                                   refine q_notU hst 130 rfl rfl rfl ?_; intro a hst
                                   refine q_notU hst 130 rfl rfl rfl ?_; intro a hst
                                   refine q_notU hst 130 rfl rfl rfl ?_; intro a hst
                                   refine q_notU hst 127 rfl rfl rfl ?_; intro a hst
                                   refine q_not hst 118 rfl rfl c2765 rfl ?_; intro a hst
                                   refine q_t hst (wt_of 109 rfl rfl c2735) rfl (fun _ hsh => x_pickT hst rfl c2765 rfl) ?_; intro a hst
                                   exact hj _ ⟨true, H, hst.keep _ ⟨rfl, rfl, rfl, rfl, rfl, rfl, rfl, trivial⟩⟩
                                 · rw [if_neg c2765] at H
                                   replace c2765 := Bool.eq_false_iff.2 c2765
                                   refine q_t hst (wt_of 118 rfl rfl c2765) rfl (fun _ hsh => x_move hst rfl) ?_; intro a hst
                                   refine q_t hst (wt_of 118 rfl rfl c2765) rfl (fun _ hsh => x_move hst rfl) ?_; intro a hst
                                   refine q_t hst (wt_of 118 rfl rfl c2765) rfl (fun _ hsh => x_arI (r := w64 (i_1518 - 1)) hst rfl rfl rfl) ?_; intro a hst
                                   obtain ⟨x2778, hx2778, H⟩ := Option.bind_eq_some_iff.1 H
                                   refine q_t hst (wt_of 118 rfl rfl c2765) rfl (fun _ hsh => x_indexAddr hst Try.underlying25 el_41 rfl rfl (hsh.row 0 rfl) hx2778) ?_; intro a hst
                                   refine q_t hst (wt_of 118 rfl rfl c2765) rfl (fun _ hsh => x_fieldAddrE (n' := Int.toNat (w64 (i_1518 - 1)) * k_Place.sz) hst fa_41_0 rfl rfl) ?_; intro a hst
                                   refine q_t hst (wt_of 118 rfl rfl c2765) rfl (fun _ hsh => x_loadEF (j := 0) (cs := [.int .i64 x2778.Level, .int .i64 x2778.Number]) hst sc_3 rfl (hsh.row 0 rfl) (Same.refl _ _) hx2778 rfl (fun _ h => h) rfl) ?_; intro a hst
                                   refine q_t hst (wt_of 118 rfl rfl c2765) rfl (fun _ hsh => x_move hst rfl) ?_; intro a hst
                                   refine q_t hst (wt_of 118 rfl rfl c2765) rfl (fun _ hsh => x_cmpI (b := (x2778.Level == r2719.1)) hst rfl rfl rfl) ?_; intro a hst
                                   refine q_t hst (wt_of 118 rfl rfl c2765) rfl (fun _ hsh => x_move hst rfl) ?_; intro a hst
                                   obtain ⟨J_2019, hJ_2019, H⟩ := Jn.elim H
                                   refine q_join 38 (fun a => ∃ (b_2018 : Bool), J_2019 b_2018 = some r ∧ ST [] Try.f6.ntmps a [(0, va0), (1, .string a1), (4, .bool false), (5, v9), (9, .int .i64 i_1518), (109, .bool (decide (0 < i_1518))), (118, .bool (decide (r2719.1 < x2764.Level))), (144, .bool b_2018)]) ?_ ?_
                                   · rintro a ⟨b_2018, H, hst⟩
                                     subst hJ_2019
                                     dsimp only at H
                                     refine q_t hst (wt_of 109 rfl rfl c2735) rfl (fun _ hsh => x_pickF hst rfl c2765 rfl) ?_; intro a hst
                                     exact hj _ ⟨b_2018, H, hst.keep _ ⟨rfl, rfl, rfl, rfl, rfl, rfl, rfl, trivial⟩⟩
                                   · intro hj
                                     by_cases c2779 : (x2778.Level == r2719.1) = true
                                     · rw [if_pos c2779] at H
                                       refine q_t hst (wt_of 127 rfl rfl c2779) rfl (fun _ hsh => x_move hst rfl) ?_; intro a hst
                                       refine q_t hst (wt_of 127 rfl rfl c2779) rfl (fun _ hsh => x_cmpI (b := decide (0 < r2719.1)) hst rfl rfl rfl) ?_; intro a hst
                                       refine q_t hst (wt_of 127 rfl rfl c2779) rfl (fun _ hsh => x_move hst rfl) ?_; intro a hst
                                       obtain ⟨J_2025, hJ_2025, H⟩ := Jn.elim H
                                       refine q_join 37 (fun a => ∃ (b_2024 : Bool), J_2025 b_2024 = some r ∧ ST [] Try.f6.ntmps a [(0, va0), (1, .string a1), (4, .bool false), (5, v9), (9, .int .i64 i_1518), (109, .bool (decide (0 < i_1518))), (118, .bool (decide (r2719.1 < x2764.Level))), (127, .bool (x2778.Level == r2719.1)), (143, .bool b_2024)]) ?_ ?_
                                       · rintro a ⟨b_2024, H, hst⟩
                                         subst hJ_2025
                                         dsimp only at H
                                         refine q_t hst (wt_of 118 rfl rfl c2765) rfl (fun _ hsh => x_pickT hst rfl c2779 rfl) ?_; intro a hst
                                         exact hj _ ⟨b_2024, H, hst.keep _ ⟨rfl, rfl, rfl, rfl, rfl, rfl, rfl, rfl, trivial⟩⟩
                                       · intro hj
                                         by_cases c2785 : (decide (0 < r2719.1)) = true
                                         · rw [if_pos c2785] at H
                                           refine q_not hst 130 rfl rfl c2785 rfl ?_; intro a hst
                                           refine q_not hst 130 rfl rfl c2785 rfl ?_; intro a hst
                                           refine q_not hst 130 rfl rfl c2785 rfl ?_; intro a hst
                                           refine q_not hst 130 rfl rfl c2785 rfl ?_; intro a hst
                                           refine q_not hst 130 rfl rfl c2785 rfl ?_; intro a hst
                                           refine q_not hst 130 rfl rfl c2785 rfl ?_; intro a hst
                                           refine q_not hst 130 rfl rfl c2785 rfl ?_; intro a hst
                                           refine q_not hst 130 rfl rfl c2785 rfl ?_; intro a hst
                                           refine q_not hst 130 rfl rfl c2785 rfl ?_; intro a hst
                                           refine q_not hst 130 rfl rfl c2785 rfl ?_; intro a hst
                                           refine q_not hst 130 rfl rfl c2785 rfl ?_; intro a hst
                                           refine q_not hst 130 rfl rfl c2785 rfl ?_; intro a hst
                                           refine q_t hst (wt_of 127 rfl rfl c2779) rfl (fun _ hsh => x_pickT hst rfl c2785 rfl) ?_; intro a hst
                                           exact hj _ ⟨true, H, hst.keep _ ⟨rfl, rfl, rfl, rfl, rfl, rfl, rfl, rfl, rfl, trivial⟩⟩
                                         · rw [if_neg c2785] at H
                                           replace c2785 := Bool.eq_false_iff.2 c2785
                                           refine q_t hst (wt_of 130 rfl rfl c2785) rfl (fun _ hsh => x_move hst rfl) ?_; intro a hst
                                           refine q_t hst (wt_of 130 rfl rfl c2785) rfl (fun _ hsh => x_move hst rfl) ?_; intro a hst
                                           refine q_t hst (wt_of 130 rfl rfl c2785) rfl (fun _ hsh => x_arI (r := w64 (i_1518 - 1)) hst rfl rfl rfl) ?_; intro a hst
                                           obtain ⟨x2788, hx2788, H⟩ := Option.bind_eq_some_iff.1 H
                                           refine q_t hst (wt_of 130 rfl rfl c2785) rfl (fun _ hsh => x_indexAddr hst Try.underlying25 el_41 rfl rfl (hsh.row 0 rfl) hx2788) ?_; intro a hst
                                           refine q_t hst (wt_of 130 rfl rfl c2785) rfl (fun _ hsh => x_fieldAddrE (n' := Int.toNat (w64 (i_1518 - 1)) * k_Place.sz + 1) hst fa_41_1 rfl rfl) ?_; intro a hst
                                           refine q_t hst (wt_of 130 rfl rfl c2785) rfl (fun _ hsh => x_loadEF (j := 1) (cs := [.int .i64 x2788.Level, .int .i64 x2788.Number]) hst sc_3 rfl (hsh.row 0 rfl) (Same.refl _ _) hx2788 rfl (fun _ h => h) rfl) ?_; intro a hst
                                           refine q_t hst (wt_of 130 rfl rfl c2785) rfl (fun _ hsh => x_move hst rfl) ?_; intro a hst
                                           refine q_t hst (wt_of 130 rfl rfl c2785) rfl (fun _ hsh => x_move hst rfl) ?_; intro a hst
                                           obtain ⟨x2789, hx2789, H⟩ := Option.bind_eq_some_iff.1 H
                                           refine q_t hst (wt_of 130 rfl rfl c2785) rfl (fun _ hsh => x_indexAddr hst Try.underlying25 el_41 rfl rfl (hsh.row 0 rfl) hx2789) ?_; intro a hst
                                           refine q_t hst (wt_of 130 rfl rfl c2785) rfl (fun _ hsh => x_fieldAddrE (n' := Int.toNat i_1518 * k_Place.sz + 1) hst fa_41_1 rfl rfl) ?_; intro a hst
                                           refine q_t hst (wt_of 130 rfl rfl c2785) rfl (fun _ hsh => x_loadEF (j := 1) (cs := [.int .i64 x2789.Level, .int .i64 x2789.Number]) hst sc_3 rfl (hsh.row 0 rfl) (Same.refl _ _) hx2789 rfl (fun _ h => h) rfl) ?_; intro a hst
                                           refine q_t hst (wt_of 130 rfl rfl c2785) rfl (fun _ hsh => x_cmpI (b := decide (x2788.Number ≤ x2789.Number)) hst rfl rfl rfl) ?_; intro a hst
                                           refine q_t hst (wt_of 127 rfl rfl c2779) rfl (fun _ hsh => x_pickF hst rfl c2785 rfl) ?_; intro a hst
                                           exact hj _ ⟨(decide (x2788.Number ≤ x2789.Number)), H, hst.keep _ ⟨rfl, rfl, rfl, rfl, rfl, rfl, rfl, rfl, rfl, trivial⟩⟩
                                     · rw [if_neg c2779] at H
                                       replace c2779 := Bool.eq_false_iff.2 c2779
                                       refine q_not hst 127 rfl rfl c2779 rfl ?_; intro a hst
                                       refine q_not hst 127 rfl rfl c2779 rfl ?_; intro a hst
                                       refine q_not hst 127 rfl rfl c2779 rfl ?_; intro a hst
                                       refine q_notU hst 130 rfl rfl rfl ?_; intro a hst
                                       refine q_notU hst 130 rfl rfl rfl ?_; intro a hst
                                       refine q_notU hst 130 rfl rfl rfl ?_; intro a hst
                                       refine q_notU hst 130 rfl rfl rfl ?_; intro a hst
                                       refine q_notU hst 130 rfl rfl rfl ?_; intro a hst
                                       refine q_notU hst 130 rfl rfl rfl ?_; intro a hst
                                       refine q_notU hst 130 rfl rfl rfl ?_; intro a hst
                                       refine q_notU hst 130 rfl rfl rfl ?_; intro a hst
                                       refine q_notU hst 130 rfl rfl rfl ?_; intro a hst
                                       refine q_notU hst 130 rfl rfl rfl ?_; intro a hst
                                       refine q_notU hst 130 rfl rfl rfl ?_; intro a hst
                                       refine q_notU hst 130 rfl rfl rfl ?_; intro a hst
                                       refine q_not hst 127 rfl rfl c2779 rfl ?_; intro a hst
                                       refine q_t hst (wt_of 118 rfl rfl c2765) rfl (fun _ hsh => x_pickF hst rfl c2779 rfl) ?_; intro a hst
                                       exact hj _ ⟨false, H, hst.keep _ ⟨rfl, rfl, rfl, rfl, rfl, rfl, rfl, rfl, trivial⟩⟩
                             · rw [if_neg c2735] at H
                               replace c2735 := Bool.eq_false_iff.2 c2735
                               refine q_not hst 109 rfl rfl c2735 rfl ?_; intro a hst
                               refine q_not hst 109 rfl rfl c2735 rfl ?_; intro a hst
                               refine q_not hst 109 rfl rfl c2735 rfl ?_; intro a hst
                               refine q_not hst 109 rfl rfl c2735 rfl ?_; intro a hst
                               refine q_not hst 109 rfl rfl c2735 rfl ?_; intro a hst
                               refine q_not hst 109 rfl rfl c2735 rfl ?_; intro a hst
                               refine q_not hst 109 rfl rfl c2735 rfl ?_; intro a hst
                               refine q_not hst 109 rfl rfl c2735 rfl ?_; intro a hst
                               refine q_not hst 109 rfl rfl c2735 rfl ?_; intro a hst
                               refine q_notU hst 118 rfl rfl rfl ?_; intro a hst
                               refine q_notU hst 118 rfl rfl rfl ?_; intro a hst
                               refine q_notU hst 118 rfl rfl rfl ?_; intro a hst
                               refine q_notU hst 118 rfl rfl rfl ?_; intro a hst
                               refine q_notU hst 118 rfl rfl rfl ?_; intro a hst
                               refine q_notU hst 118 rfl rfl rfl ?_; intro a hst
                               refine q_notU hst 118 rfl rfl rfl ?_; intro a hst
                               refine q_notU hst 118 rfl rfl rfl ?_; intro a hst
                               refine q_notU hst 118 rfl rfl rfl ?_; intro a hst
                               refine q_notU hst 127 rfl rfl rfl ?_; intro a hst
                               refine q_notU hst 127 rfl rfl rfl ?_; intro a hst
                               refine q_notU hst 127 rfl rfl rfl ?_; intro a hst
                               refine q_notU hst 130 rfl rfl rfl ?_; intro a hst
                               refine q_notU hst 130 rfl rfl rfl ?_; intro a hst
                               refine q_notU hst 130 rfl rfl rfl ?_; intro a hst
                               refine q_notU hst 130 rfl rfl rfl ?_; intro a hst
                               refine q_notU hst 130 rfl rfl rfl ?_; intro a hst
                               refine q_notU hst 130 rfl rfl rfl ?_; intro a hst
                               refine q_notU hst 130 rfl rfl rfl ?_; intro a hst
                               refine q_notU hst 130 rfl rfl rfl ?_; intro a hst
                               refine q_notU hst 130 rfl rfl rfl ?_; intro a hst
                               refine q_notU hst 130 rfl rfl rfl ?_; intro a hst
                               refine q_notU hst 130 rfl rfl rfl ?_; intro a hst
                               refine q_notU hst 130 rfl rfl rfl ?_; intro a hst
                               refine q_notU hst 127 rfl rfl rfl ?_; intro a hst
                               refine q_notU hst 118 rfl rfl rfl ?_; intro a hst
                               refine q_not hst 109 rfl rfl c2735 rfl ?_; intro a hst
                               refine q_t hst trivial rfl (fun _ hsh => x_pickF hst rfl c2735 rfl) ?_; intro a hst
                               exact hj _ ⟨false, H, hst.keep _ ⟨rfl, rfl, rfl, rfl, rfl, rfl, trivial⟩⟩
                       · intro hj
                         by_cases c2733 : (b_1904 || (sLt a1 r2719.2.1.Least)) = true
                         · refine r_not hst 101 rfl rfl c2733 rfl ?_; intro a hst
                           refine r_not hst 101 rfl rfl c2733 rfl ?_; intro a hst
                           refine r_not hst 101 rfl rfl c2733 rfl ?_; intro a hst
                           refine r_not hst 101 rfl rfl c2733 rfl ?_; intro a hst
                           refine r_t hst trivial rfl (x_orT (!sLt a1 r2719.2.1.Limit) hst rfl c2733 rfl) ?_; intro a hst
                           exact hj _ (hst.keep _ ⟨rfl, rfl, rfl, rfl, rfl, rfl, rfl, trivial⟩)
                         · replace c2733 := Bool.eq_false_iff.2 c2733
                           refine r_t hst (wt_of 101 rfl rfl c2733) rfl (x_move hst rfl) ?_; intro a hst
                           refine r_t hst (wt_of 101 rfl rfl c2733) rfl (x_fieldAddr (j' := 3) hst fa_43_3 rfl rfl) ?_; intro a hst
                           refine r_t hst (wt_of 101 rfl rfl c2733) rfl (x_loadB (i := 1) hst hsh sc_9 rfl rfl rfl) ?_; intro a hst
                           refine r_t hst (wt_of 101 rfl rfl c2733) rfl (x_cmpS (b := (!sLt a1 r2719.2.1.Limit)) hst rfl rfl rfl) ?_; intro a hst
                           refine r_t hst trivial rfl (x_orF hst rfl c2733 rfl) ?_; intro a hst
                           exact hj _ (hst.keep _ ⟨rfl, rfl, rfl, rfl, rfl, rfl, rfl, trivial⟩)
                     · intro hj
                       by_cases c2732 : b_1904 = true
                       · refine r_not hst 95 rfl rfl c2732 rfl ?_; intro a hst
                         refine r_not hst 95 rfl rfl c2732 rfl ?_; intro a hst
                         refine r_not hst 95 rfl rfl c2732 rfl ?_; intro a hst
                         refine r_not hst 95 rfl rfl c2732 rfl ?_; intro a hst
                         refine r_t hst trivial rfl (x_orT (sLt a1 r2719.2.1.Least) hst rfl c2732 rfl) ?_; intro a hst
                         exact hj _ (hst.keep _ ⟨rfl, rfl, rfl, rfl, rfl, rfl, rfl, rfl, trivial⟩)
                       · replace c2732 := Bool.eq_false_iff.2 c2732
                         refine r_t hst (wt_of 95 rfl rfl c2732) rfl (x_move hst rfl) ?_; intro a hst
                         refine r_t hst (wt_of 95 rfl rfl c2732) rfl (x_fieldAddr (j' := 2) hst fa_43_2 rfl rfl) ?_; intro a hst
                         refine r_t hst (wt_of 95 rfl rfl c2732) rfl (x_loadB (i := 1) hst hsh sc_9 rfl rfl rfl) ?_; intro a hst
                         refine r_t hst (wt_of 95 rfl rfl c2732) rfl (x_cmpS (b := sLt a1 r2719.2.1.Least) hst rfl rfl rfl) ?_; intro a hst
                         refine r_t hst trivial rfl (x_orF hst rfl c2732 rfl) ?_; intro a hst
                         exact hj _ (hst.keep _ ⟨rfl, rfl, rfl, rfl, rfl, rfl, rfl, rfl, trivial⟩)
                   · intro hj
                     by_cases c2730 : (!r2719.2.2) = true
                     · rw [if_pos c2730] at H
                       refine r_not hst 86 rfl rfl c2730 rfl ?_; intro a hst
                       refine r_not hst 86 rfl rfl c2730 rfl ?_; intro a hst
                       refine r_not hst 86 rfl rfl c2730 rfl ?_; intro a hst
                       refine r_not hst 86 rfl rfl c2730 rfl ?_; intro a hst
                       refine r_not hst 86 rfl rfl c2730 rfl ?_; intro a hst
                       refine r_not hst 86 rfl rfl c2730 rfl ?_; intro a hst
                       refine r_not hst 86 rfl rfl c2730 rfl ?_; intro a hst
                       refine r_t hst trivial rfl (x_pickT hst rfl c2730 rfl) ?_; intro a hst
                       exact hj _ _ ⟨true, H, hst.keep _ ⟨rfl, rfl, rfl, rfl, rfl, rfl, rfl, rfl, trivial⟩, hsh.pick [1, 0]⟩
                     · rw [if_neg c2730] at H
                       replace c2730 := Bool.eq_false_iff.2 c2730
                       refine r_t hst (wt_of 86 rfl rfl c2730) rfl (x_move hst rfl) ?_; intro a hst
                       refine r_t hst (wt_of 86 rfl rfl c2730) rfl (x_move hst rfl) ?_; intro a hst
                       refine r_t hst (wt_of 86 rfl rfl c2730) rfl (x_move hst rfl) ?_; intro a hst
                       obtain ⟨x2790, hx2790, H⟩ := Option.bind_eq_some_iff.1 H
                       refine r_t hst (wt_of 86 rfl rfl c2730) rfl (x_indexAddr hst Try.underlying25 el_41 rfl rfl (hsh.row 1 rfl) hx2790) ?_; intro a hst
                       refine r_t hst (wt_of 86 rfl rfl c2730) rfl (x_fieldAddrE (n' := Int.toNat i_1518 * k_Place.sz) hst fa_41_0 rfl rfl) ?_; intro a hst
                       refine r_t hst (wt_of 86 rfl rfl c2730) rfl (x_loadEF (j := 0) (cs := [.int .i64 x2790.Level, .int .i64 x2790.Number]) hst sc_3 rfl (hsh.row 1 rfl) (Same.refl _ _) hx2790 rfl (fun _ h => h) rfl) ?_; intro a hst
                       refine r_t hst (wt_of 86 rfl rfl c2730) rfl (x_cmpI (b := (r2719.1 != x2790.Level)) hst rfl rfl rfl) ?_; intro a hst
                       refine r_t hst trivial rfl (x_pickF hst rfl c2730 rfl) ?_; intro a hst
                       exact hj _ _ ⟨(r2719.1 != x2790.Level), H, hst.keep _ ⟨rfl, rfl, rfl, rfl, rfl, rfl, rfl, rfl, trivial⟩, hsh.pick [1, 0]⟩
                 · rw [if_neg c2644] at H
                   replace c2644 := Bool.eq_false_iff.2 c2644
                   refine wq_condF hst rfl c2644 ?_
                   refine wq_exit ?_
                   refine then_exit ?_
                   refine then_exit ?_
                   refine block_hit ?_
                   refine then_normal ?_
                   exact ⟨H, hst.keep _ ⟨rfl, trivial⟩, hsh.pick []⟩
end Go.Proofs.Ytbbepmmelpabbaa.Mo
