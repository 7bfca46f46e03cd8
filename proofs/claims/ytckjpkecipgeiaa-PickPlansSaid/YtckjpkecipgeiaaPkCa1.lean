/- Printed by gen.py: contracts. -/
import Derived.Test.YtckjpkecipgeiaaPkCa0
set_option linter.unusedVariables false
set_option linter.unusedSimpArgs false
set_option maxRecDepth 100000
namespace Go.Proofs.Ytckjpkecipgeiaa.Mo
open Go Go.Proofs.Ytckjpkecipgeiaa.Sy
open Go.Proofs
set_option maxHeartbeats 4000000 in
set_option maxRecDepth 100000 in
theorem r16_May.calls (w : World) (a0 : File) (r : Bool) (h : r16_May a0 = some r) :
    Calls Try.prog 77 ([.agg #[.int .i64 a0.Number, .int .i64 a0.Size, .string a0.Least, .string a0.Limit, .int .u64 a0.Low, .int .u64 a0.High]] : List Value).toArray w fun e w' => e = .returned (.bool r) ∧ SH (fun _ => False) w w' [] := by
  have H := h
  clear h
  unfold r16_May at H
  refine calls_enter Try.func77 rfl rfl ?_
  intro a hst
  have hsh := SH.zero (fun _ => False) w
  refine wp_seq ?_
  refine wp_region_lit ?_
  refine r_box hst hsh trivial rfl rfl rfl ?_
  intro g1 a w2 hgg1 hsh hst
  refine r_t hst trivial rfl (x_assign hst rfl) ?_; intro a hst
  refine wpList_nil ?_
  refine then_normal ?_
  refine wp_seq ?_
  refine wp_region_lit ?_
  refine r_t hst trivial rfl (x_fieldAddr (j' := 0) hst fa_43_0 rfl rfl) ?_; intro a hst
  refine r_t hst trivial rfl (x_loadB (i := 0) hst hsh sc_3 rfl rfl rfl) ?_; intro a hst
  refine r_t hst trivial rfl (x_cmpI (b := decide (1 ≤ a0.Number)) hst rfl rfl rfl) ?_; intro a hst
  refine r_t hst trivial rfl (x_move hst rfl) ?_; intro a hst
  refine wl_join0 (N := Try.f77.ntmps) 8 [(1, .pointer (some ⟨g1, 0, none⟩)), (2, .bool false), (10, .bool ((decide (1 ≤ a0.Number)) && (decide (a0.Number ≤ 2147483647))))] ?_ ?_
  · intro a hst
    refine r_t hst trivial rfl (x_move hst rfl) ?_; intro a hst
    refine wl_join0 (N := Try.f77.ntmps) 13 [(1, .pointer (some ⟨g1, 0, none⟩)), (2, .bool false), (15, .bool (((decide (1 ≤ a0.Number)) && (decide (a0.Number ≤ 2147483647))) && (decide (1 ≤ a0.Size))))] ?_ ?_
    · intro a hst
      refine r_t hst trivial rfl (x_move hst rfl) ?_; intro a hst
      refine wl_join0 (N := Try.f77.ntmps) 18 [(1, .pointer (some ⟨g1, 0, none⟩)), (2, .bool false), (20, .bool ((((decide (1 ≤ a0.Number)) && (decide (a0.Number ≤ 2147483647))) && (decide (1 ≤ a0.Size))) && (decide (a0.Size ≤ 268435456))))] ?_ ?_
      · intro a hst
        refine r_t hst trivial rfl (x_move hst rfl) ?_; intro a hst
        refine wl_join0 (N := Try.f77.ntmps) 24 [(1, .pointer (some ⟨g1, 0, none⟩)), (2, .bool false), (26, .bool (((((decide (1 ≤ a0.Number)) && (decide (a0.Number ≤ 2147483647))) && (decide (1 ≤ a0.Size))) && (decide (a0.Size ≤ 268435456))) && (decide (1 ≤ (a0.Least.size : Int)))))] ?_ ?_
        · intro a hst
          refine r_t hst trivial rfl (x_move hst rfl) ?_; intro a hst
          refine wl_join0 (N := Try.f77.ntmps) 30 [(1, .pointer (some ⟨g1, 0, none⟩)), (2, .bool false), (32, .bool ((((((decide (1 ≤ a0.Number)) && (decide (a0.Number ≤ 2147483647))) && (decide (1 ≤ a0.Size))) && (decide (a0.Size ≤ 268435456))) && (decide (1 ≤ (a0.Least.size : Int)))) && (decide ((a0.Least.size : Int) ≤ 1024))))] ?_ ?_
          · intro a hst
            refine r_t hst trivial rfl (x_move hst rfl) ?_; intro a hst
            refine wl_join0 (N := Try.f77.ntmps) 36 [(1, .pointer (some ⟨g1, 0, none⟩)), (2, .bool false), (38, .bool (((((((decide (1 ≤ a0.Number)) && (decide (a0.Number ≤ 2147483647))) && (decide (1 ≤ a0.Size))) && (decide (a0.Size ≤ 268435456))) && (decide (1 ≤ (a0.Least.size : Int)))) && (decide ((a0.Least.size : Int) ≤ 1024))) && (decide ((a0.Limit.size : Int) ≤ 1025))))] ?_ ?_
            · intro a hst
              refine r_t hst trivial rfl (x_move hst rfl) ?_; intro a hst
              refine wl_join0 (N := Try.f77.ntmps) 43 [(1, .pointer (some ⟨g1, 0, none⟩)), (2, .bool false), (45, .bool ((((((((decide (1 ≤ a0.Number)) && (decide (a0.Number ≤ 2147483647))) && (decide (1 ≤ a0.Size))) && (decide (a0.Size ≤ 268435456))) && (decide (1 ≤ (a0.Least.size : Int)))) && (decide ((a0.Least.size : Int) ≤ 1024))) && (decide ((a0.Limit.size : Int) ≤ 1025))) && (sLt a0.Least a0.Limit)))] ?_ ?_
              · intro a hst
                refine r_t hst trivial rfl (x_move hst rfl) ?_; intro a hst
                refine wl_join0 (N := Try.f77.ntmps) 48 [(1, .pointer (some ⟨g1, 0, none⟩)), (2, .bool false), (50, .bool (((((((((decide (1 ≤ a0.Number)) && (decide (a0.Number ≤ 2147483647))) && (decide (1 ≤ a0.Size))) && (decide (a0.Size ≤ 268435456))) && (decide (1 ≤ (a0.Least.size : Int)))) && (decide ((a0.Least.size : Int) ≤ 1024))) && (decide ((a0.Limit.size : Int) ≤ 1025))) && (sLt a0.Least a0.Limit)) && (decide (1 ≤ a0.Low))))] ?_ ?_
                · intro a hst
                  refine r_t hst trivial rfl (x_move hst rfl) ?_; intro a hst
                  refine wl_join0 (N := Try.f77.ntmps) 55 [(1, .pointer (some ⟨g1, 0, none⟩)), (2, .bool false), (57, .bool ((((((((((decide (1 ≤ a0.Number)) && (decide (a0.Number ≤ 2147483647))) && (decide (1 ≤ a0.Size))) && (decide (a0.Size ≤ 268435456))) && (decide (1 ≤ (a0.Least.size : Int)))) && (decide ((a0.Least.size : Int) ≤ 1024))) && (decide ((a0.Limit.size : Int) ≤ 1025))) && (sLt a0.Least a0.Limit)) && (decide (1 ≤ a0.Low))) && (decide (a0.Low ≤ a0.High))))] ?_ ?_
                  · intro a hst
                    refine r_t hst trivial rfl (x_move hst rfl) ?_; intro a hst
                    refine wl_join0 (N := Try.f77.ntmps) 60 [(2, .bool false), (62, .bool (((((((((((decide (1 ≤ a0.Number)) && (decide (a0.Number ≤ 2147483647))) && (decide (1 ≤ a0.Size))) && (decide (a0.Size ≤ 268435456))) && (decide (1 ≤ (a0.Least.size : Int)))) && (decide ((a0.Least.size : Int) ≤ 1024))) && (decide ((a0.Limit.size : Int) ≤ 1025))) && (sLt a0.Least a0.Limit)) && (decide (1 ≤ a0.Low))) && (decide (a0.Low ≤ a0.High))) && (decide (a0.High ≤ 72057594037927935))))] ?_ ?_
                    · intro a hst
                      refine r_t hst trivial rfl (x_assign hst rfl) ?_; intro a hst
                      refine wpList_nil ?_
                      refine then_normal ?_
                      refine wp_ret ?_
                      obtain rfl := Option.some.inj H
                      exact ret1 hst rfl rfl ⟨rfl, hsh.pick []⟩
                    · intro hj
                      by_cases c12 : ((((((((((decide (1 ≤ a0.Number)) && (decide (a0.Number ≤ 2147483647))) && (decide (1 ≤ a0.Size))) && (decide (a0.Size ≤ 268435456))) && (decide (1 ≤ (a0.Least.size : Int)))) && (decide ((a0.Least.size : Int) ≤ 1024))) && (decide ((a0.Limit.size : Int) ≤ 1025))) && (sLt a0.Least a0.Limit)) && (decide (1 ≤ a0.Low))) && (decide (a0.Low ≤ a0.High))) = true
                      · refine r_t hst (wt_of 58 rfl rfl c12) rfl (x_fieldAddr (j' := 5) hst fa_43_5 rfl rfl) ?_; intro a hst
                        refine r_t hst (wt_of 58 rfl rfl c12) rfl (x_loadB (i := 0) hst hsh sc_41 rfl rfl rfl) ?_; intro a hst
                        refine r_t hst (wt_of 58 rfl rfl c12) rfl (x_cmpI (b := decide (a0.High ≤ 72057594037927935)) hst rfl rfl rfl) ?_; intro a hst
                        refine r_t hst trivial rfl (x_andT hst rfl c12 rfl) ?_; intro a hst
                        exact hj _ (hst.keep _ ⟨rfl, rfl, trivial⟩)
                      · replace c12 := Bool.eq_false_iff.2 c12
                        refine r_not hst 58 rfl rfl c12 rfl ?_; intro a hst
                        refine r_not hst 58 rfl rfl c12 rfl ?_; intro a hst
                        refine r_not hst 58 rfl rfl c12 rfl ?_; intro a hst
                        refine r_t hst trivial rfl (x_andF (decide (a0.High ≤ 72057594037927935)) hst rfl c12 rfl) ?_; intro a hst
                        exact hj _ (hst.keep _ ⟨rfl, rfl, trivial⟩)
                  · intro hj
                    by_cases c11 : (((((((((decide (1 ≤ a0.Number)) && (decide (a0.Number ≤ 2147483647))) && (decide (1 ≤ a0.Size))) && (decide (a0.Size ≤ 268435456))) && (decide (1 ≤ (a0.Least.size : Int)))) && (decide ((a0.Least.size : Int) ≤ 1024))) && (decide ((a0.Limit.size : Int) ≤ 1025))) && (sLt a0.Least a0.Limit)) && (decide (1 ≤ a0.Low))) = true
                    · refine r_t hst (wt_of 51 rfl rfl c11) rfl (x_fieldAddr (j' := 4) hst fa_43_4 rfl rfl) ?_; intro a hst
                      refine r_t hst (wt_of 51 rfl rfl c11) rfl (x_loadB (i := 0) hst hsh sc_41 rfl rfl rfl) ?_; intro a hst
                      refine r_t hst (wt_of 51 rfl rfl c11) rfl (x_fieldAddr (j' := 5) hst fa_43_5 rfl rfl) ?_; intro a hst
                      refine r_t hst (wt_of 51 rfl rfl c11) rfl (x_loadB (i := 0) hst hsh sc_41 rfl rfl rfl) ?_; intro a hst
                      refine r_t hst (wt_of 51 rfl rfl c11) rfl (x_cmpI (b := decide (a0.Low ≤ a0.High)) hst rfl rfl rfl) ?_; intro a hst
                      refine r_t hst trivial rfl (x_andT hst rfl c11 rfl) ?_; intro a hst
                      exact hj _ (hst.keep _ ⟨rfl, rfl, rfl, trivial⟩)
                    · replace c11 := Bool.eq_false_iff.2 c11
                      refine r_not hst 51 rfl rfl c11 rfl ?_; intro a hst
                      refine r_not hst 51 rfl rfl c11 rfl ?_; intro a hst
                      refine r_not hst 51 rfl rfl c11 rfl ?_; intro a hst
                      refine r_not hst 51 rfl rfl c11 rfl ?_; intro a hst
                      refine r_not hst 51 rfl rfl c11 rfl ?_; intro a hst
                      refine r_t hst trivial rfl (x_andF (decide (a0.Low ≤ a0.High)) hst rfl c11 rfl) ?_; intro a hst
                      exact hj _ (hst.keep _ ⟨rfl, rfl, rfl, trivial⟩)
                · intro hj
                  by_cases c10 : ((((((((decide (1 ≤ a0.Number)) && (decide (a0.Number ≤ 2147483647))) && (decide (1 ≤ a0.Size))) && (decide (a0.Size ≤ 268435456))) && (decide (1 ≤ (a0.Least.size : Int)))) && (decide ((a0.Least.size : Int) ≤ 1024))) && (decide ((a0.Limit.size : Int) ≤ 1025))) && (sLt a0.Least a0.Limit)) = true
                  · refine r_t hst (wt_of 46 rfl rfl c10) rfl (x_fieldAddr (j' := 4) hst fa_43_4 rfl rfl) ?_; intro a hst
                    refine r_t hst (wt_of 46 rfl rfl c10) rfl (x_loadB (i := 0) hst hsh sc_41 rfl rfl rfl) ?_; intro a hst
                    refine r_t hst (wt_of 46 rfl rfl c10) rfl (x_cmpI (b := decide (1 ≤ a0.Low)) hst rfl rfl rfl) ?_; intro a hst
                    refine r_t hst trivial rfl (x_andT hst rfl c10 rfl) ?_; intro a hst
                    exact hj _ (hst.keep _ ⟨rfl, rfl, rfl, trivial⟩)
                  · replace c10 := Bool.eq_false_iff.2 c10
                    refine r_not hst 46 rfl rfl c10 rfl ?_; intro a hst
                    refine r_not hst 46 rfl rfl c10 rfl ?_; intro a hst
                    refine r_not hst 46 rfl rfl c10 rfl ?_; intro a hst
                    refine r_t hst trivial rfl (x_andF (decide (1 ≤ a0.Low)) hst rfl c10 rfl) ?_; intro a hst
                    exact hj _ (hst.keep _ ⟨rfl, rfl, rfl, trivial⟩)
              · intro hj
                by_cases c9 : (((((((decide (1 ≤ a0.Number)) && (decide (a0.Number ≤ 2147483647))) && (decide (1 ≤ a0.Size))) && (decide (a0.Size ≤ 268435456))) && (decide (1 ≤ (a0.Least.size : Int)))) && (decide ((a0.Least.size : Int) ≤ 1024))) && (decide ((a0.Limit.size : Int) ≤ 1025))) = true
                · refine r_t hst (wt_of 39 rfl rfl c9) rfl (x_fieldAddr (j' := 2) hst fa_43_2 rfl rfl) ?_; intro a hst
                  refine r_t hst (wt_of 39 rfl rfl c9) rfl (x_loadB (i := 0) hst hsh sc_9 rfl rfl rfl) ?_; intro a hst
                  refine r_t hst (wt_of 39 rfl rfl c9) rfl (x_fieldAddr (j' := 3) hst fa_43_3 rfl rfl) ?_; intro a hst
                  refine r_t hst (wt_of 39 rfl rfl c9) rfl (x_loadB (i := 0) hst hsh sc_9 rfl rfl rfl) ?_; intro a hst
                  refine r_t hst (wt_of 39 rfl rfl c9) rfl (x_cmpS (b := sLt a0.Least a0.Limit) hst rfl rfl rfl) ?_; intro a hst
                  refine r_t hst trivial rfl (x_andT hst rfl c9 rfl) ?_; intro a hst
                  exact hj _ (hst.keep _ ⟨rfl, rfl, rfl, trivial⟩)
                · replace c9 := Bool.eq_false_iff.2 c9
                  refine r_not hst 39 rfl rfl c9 rfl ?_; intro a hst
                  refine r_not hst 39 rfl rfl c9 rfl ?_; intro a hst
                  refine r_not hst 39 rfl rfl c9 rfl ?_; intro a hst
                  refine r_not hst 39 rfl rfl c9 rfl ?_; intro a hst
                  refine r_not hst 39 rfl rfl c9 rfl ?_; intro a hst
                  refine r_t hst trivial rfl (x_andF (sLt a0.Least a0.Limit) hst rfl c9 rfl) ?_; intro a hst
                  exact hj _ (hst.keep _ ⟨rfl, rfl, rfl, trivial⟩)
            · intro hj
              by_cases c8 : ((((((decide (1 ≤ a0.Number)) && (decide (a0.Number ≤ 2147483647))) && (decide (1 ≤ a0.Size))) && (decide (a0.Size ≤ 268435456))) && (decide (1 ≤ (a0.Least.size : Int)))) && (decide ((a0.Least.size : Int) ≤ 1024))) = true
              · refine r_t hst (wt_of 33 rfl rfl c8) rfl (x_fieldAddr (j' := 3) hst fa_43_3 rfl rfl) ?_; intro a hst
                refine r_t hst (wt_of 33 rfl rfl c8) rfl (x_loadB (i := 0) hst hsh sc_9 rfl rfl rfl) ?_; intro a hst
                refine r_t hst (wt_of 33 rfl rfl c8) rfl (x_lenStr hst Try.underlying9 rfl) ?_; intro a hst
                refine r_t hst (wt_of 33 rfl rfl c8) rfl (x_cmpI (b := decide ((a0.Limit.size : Int) ≤ 1025)) hst rfl rfl rfl) ?_; intro a hst
                refine r_t hst trivial rfl (x_andT hst rfl c8 rfl) ?_; intro a hst
                exact hj _ (hst.keep _ ⟨rfl, rfl, rfl, trivial⟩)
              · replace c8 := Bool.eq_false_iff.2 c8
                refine r_not hst 33 rfl rfl c8 rfl ?_; intro a hst
                refine r_not hst 33 rfl rfl c8 rfl ?_; intro a hst
                refine r_not hst 33 rfl rfl c8 rfl ?_; intro a hst
                refine r_not hst 33 rfl rfl c8 rfl ?_; intro a hst
                refine r_t hst trivial rfl (x_andF (decide ((a0.Limit.size : Int) ≤ 1025)) hst rfl c8 rfl) ?_; intro a hst
                exact hj _ (hst.keep _ ⟨rfl, rfl, rfl, trivial⟩)
          · intro hj
            by_cases c7 : (((((decide (1 ≤ a0.Number)) && (decide (a0.Number ≤ 2147483647))) && (decide (1 ≤ a0.Size))) && (decide (a0.Size ≤ 268435456))) && (decide (1 ≤ (a0.Least.size : Int)))) = true
            · refine r_t hst (wt_of 27 rfl rfl c7) rfl (x_fieldAddr (j' := 2) hst fa_43_2 rfl rfl) ?_; intro a hst
              refine r_t hst (wt_of 27 rfl rfl c7) rfl (x_loadB (i := 0) hst hsh sc_9 rfl rfl rfl) ?_; intro a hst
              refine r_t hst (wt_of 27 rfl rfl c7) rfl (x_lenStr hst Try.underlying9 rfl) ?_; intro a hst
              refine r_t hst (wt_of 27 rfl rfl c7) rfl (x_cmpI (b := decide ((a0.Least.size : Int) ≤ 1024)) hst rfl rfl rfl) ?_; intro a hst
              refine r_t hst trivial rfl (x_andT hst rfl c7 rfl) ?_; intro a hst
              exact hj _ (hst.keep _ ⟨rfl, rfl, rfl, trivial⟩)
            · replace c7 := Bool.eq_false_iff.2 c7
              refine r_not hst 27 rfl rfl c7 rfl ?_; intro a hst
              refine r_not hst 27 rfl rfl c7 rfl ?_; intro a hst
              refine r_not hst 27 rfl rfl c7 rfl ?_; intro a hst
              refine r_not hst 27 rfl rfl c7 rfl ?_; intro a hst
              refine r_t hst trivial rfl (x_andF (decide ((a0.Least.size : Int) ≤ 1024)) hst rfl c7 rfl) ?_; intro a hst
              exact hj _ (hst.keep _ ⟨rfl, rfl, rfl, trivial⟩)
        · intro hj
          by_cases c6 : ((((decide (1 ≤ a0.Number)) && (decide (a0.Number ≤ 2147483647))) && (decide (1 ≤ a0.Size))) && (decide (a0.Size ≤ 268435456))) = true
          · refine r_t hst (wt_of 21 rfl rfl c6) rfl (x_fieldAddr (j' := 2) hst fa_43_2 rfl rfl) ?_; intro a hst
            refine r_t hst (wt_of 21 rfl rfl c6) rfl (x_loadB (i := 0) hst hsh sc_9 rfl rfl rfl) ?_; intro a hst
            refine r_t hst (wt_of 21 rfl rfl c6) rfl (x_lenStr hst Try.underlying9 rfl) ?_; intro a hst
            refine r_t hst (wt_of 21 rfl rfl c6) rfl (x_cmpI (b := decide (1 ≤ (a0.Least.size : Int))) hst rfl rfl rfl) ?_; intro a hst
            refine r_t hst trivial rfl (x_andT hst rfl c6 rfl) ?_; intro a hst
            exact hj _ (hst.keep _ ⟨rfl, rfl, rfl, trivial⟩)
          · replace c6 := Bool.eq_false_iff.2 c6
            refine r_not hst 21 rfl rfl c6 rfl ?_; intro a hst
            refine r_not hst 21 rfl rfl c6 rfl ?_; intro a hst
            refine r_not hst 21 rfl rfl c6 rfl ?_; intro a hst
            refine r_not hst 21 rfl rfl c6 rfl ?_; intro a hst
            refine r_t hst trivial rfl (x_andF (decide (1 ≤ (a0.Least.size : Int))) hst rfl c6 rfl) ?_; intro a hst
            exact hj _ (hst.keep _ ⟨rfl, rfl, rfl, trivial⟩)
      · intro hj
        by_cases c5 : (((decide (1 ≤ a0.Number)) && (decide (a0.Number ≤ 2147483647))) && (decide (1 ≤ a0.Size))) = true
        · refine r_t hst (wt_of 16 rfl rfl c5) rfl (x_fieldAddr (j' := 1) hst fa_43_1 rfl rfl) ?_; intro a hst
          refine r_t hst (wt_of 16 rfl rfl c5) rfl (x_loadB (i := 0) hst hsh sc_3 rfl rfl rfl) ?_; intro a hst
          refine r_t hst (wt_of 16 rfl rfl c5) rfl (x_cmpI (b := decide (a0.Size ≤ 268435456)) hst rfl rfl rfl) ?_; intro a hst
          refine r_t hst trivial rfl (x_andT hst rfl c5 rfl) ?_; intro a hst
          exact hj _ (hst.keep _ ⟨rfl, rfl, rfl, trivial⟩)
        · replace c5 := Bool.eq_false_iff.2 c5
          refine r_not hst 16 rfl rfl c5 rfl ?_; intro a hst
          refine r_not hst 16 rfl rfl c5 rfl ?_; intro a hst
          refine r_not hst 16 rfl rfl c5 rfl ?_; intro a hst
          refine r_t hst trivial rfl (x_andF (decide (a0.Size ≤ 268435456)) hst rfl c5 rfl) ?_; intro a hst
          exact hj _ (hst.keep _ ⟨rfl, rfl, rfl, trivial⟩)
    · intro hj
      by_cases c4 : ((decide (1 ≤ a0.Number)) && (decide (a0.Number ≤ 2147483647))) = true
      · refine r_t hst (wt_of 11 rfl rfl c4) rfl (x_fieldAddr (j' := 1) hst fa_43_1 rfl rfl) ?_; intro a hst
        refine r_t hst (wt_of 11 rfl rfl c4) rfl (x_loadB (i := 0) hst hsh sc_3 rfl rfl rfl) ?_; intro a hst
        refine r_t hst (wt_of 11 rfl rfl c4) rfl (x_cmpI (b := decide (1 ≤ a0.Size)) hst rfl rfl rfl) ?_; intro a hst
        refine r_t hst trivial rfl (x_andT hst rfl c4 rfl) ?_; intro a hst
        exact hj _ (hst.keep _ ⟨rfl, rfl, rfl, trivial⟩)
      · replace c4 := Bool.eq_false_iff.2 c4
        refine r_not hst 11 rfl rfl c4 rfl ?_; intro a hst
        refine r_not hst 11 rfl rfl c4 rfl ?_; intro a hst
        refine r_not hst 11 rfl rfl c4 rfl ?_; intro a hst
        refine r_t hst trivial rfl (x_andF (decide (1 ≤ a0.Size)) hst rfl c4 rfl) ?_; intro a hst
        exact hj _ (hst.keep _ ⟨rfl, rfl, rfl, trivial⟩)
  · intro hj
    by_cases c3 : (decide (1 ≤ a0.Number)) = true
    · refine r_t hst (wt_of 6 rfl rfl c3) rfl (x_fieldAddr (j' := 0) hst fa_43_0 rfl rfl) ?_; intro a hst
      refine r_t hst (wt_of 6 rfl rfl c3) rfl (x_loadB (i := 0) hst hsh sc_3 rfl rfl rfl) ?_; intro a hst
      refine r_t hst (wt_of 6 rfl rfl c3) rfl (x_cmpI (b := decide (a0.Number ≤ 2147483647)) hst rfl rfl rfl) ?_; intro a hst
      refine r_t hst trivial rfl (x_andT hst rfl c3 rfl) ?_; intro a hst
      exact hj _ (hst.keep _ ⟨rfl, rfl, rfl, trivial⟩)
    · replace c3 := Bool.eq_false_iff.2 c3
      refine r_not hst 6 rfl rfl c3 rfl ?_; intro a hst
      refine r_not hst 6 rfl rfl c3 rfl ?_; intro a hst
      refine r_not hst 6 rfl rfl c3 rfl ?_; intro a hst
      refine r_t hst trivial rfl (x_andF (decide (a0.Number ≤ 2147483647)) hst rfl c3 rfl) ?_; intro a hst
      exact hj _ (hst.keep _ ⟨rfl, rfl, rfl, trivial⟩)

set_option maxHeartbeats 4000000 in
set_option maxRecDepth 100000 in
theorem r16_sorted.calls (k : Nat) (w : World) (va0 : Value) (Za0 : Nat → Prop) (wra0 : World) (hsa0 : Same Za0 wra0 w) (a0 : (List Int)) (hra0 : RD (Kd.int .i64) Za0 wra0 va0 a0) (r : (List Int)) (h : r16_sorted k a0 = some r) :
    Calls Try.prog 92 ([va0] : List Value).toArray w fun e w' => ∃ v0_ : Value, e = .returned (v0_) ∧ SH (fun _ => False) w w' [Row (Kd.int .i64) 3 v0_ r] := by
  have H := h
  clear h
  unfold r16_sorted at H
  refine calls_enter Try.func92 rfl rfl ?_
  intro a hst
  have hsh := SH.zero (fun _ => False) w
  refine wp_seq ?_
  refine wp_region_lit ?_
  refine r_t hst trivial rfl (x_assign hst rfl) ?_; intro a hst
  refine wpList_nil ?_
  refine then_normal ?_
  refine wp_seq ?_
  refine wp_region_lit ?_
  refine r_t hst trivial rfl (x_assign hst rfl) ?_; intro a hst
  refine wpList_nil ?_
  refine then_normal ?_
  refine wp_seq ?_
  refine wp_seq ?_
  refine wp_region_lit ?_
  refine r_t hst trivial rfl (x_assign hst rfl) ?_; intro a hst
  refine wpList_nil ?_
  refine then_normal ?_
  refine wp_block ?_
  have hsh := hsh.addNil (Kd.int .i64) 3
  refine wp_loop_fuel (fun k_346 a w' => ∃ (v_275 : Value), ∃ (l_276 : (List Int)), ∃ (i_277 : Int), r16_sorted.l0 a0 k_346 l_276 i_277 = some r ∧ ST Try.f92.ntmps a [(0, va0), (2, (.slice none 0 0)), (3, v_275), (4, .int .i64 i_277)] ∧ SH (fun _ => False) w w' [Row (Kd.int .i64) 3 v_275 l_276]) k ?_ ?_
  · exact ⟨(.slice none 0 0), ([]), 0, H, hst.keep _ ⟨rfl, rfl, rfl, rfl, trivial⟩, hsh.pick [0]⟩
  · rintro k_346 a W_278 ⟨v_275, l_276, i_277, H, hst, hsh⟩
    cases k_346 with
    | zero => rw [r16_sorted.l0] at H; cases H
    | succ k_346 =>
      rw [r16_sorted.l0] at H
      refine wp_seq ?_
      refine wp_seq ?_
      refine wp_region_lit ?_
      refine r_t hst trivial rfl (x_move hst rfl) ?_; intro a hst
      refine r_t hst trivial rfl (x_move hst rfl) ?_; intro a hst
      refine r_t hst trivial rfl (x_lenSl hst Try.underlying26 rfl hra0.slen) ?_; intro a hst
      refine r_t hst trivial rfl (x_cmpI (b := decide (i_277 < (a0.length : Int))) hst rfl rfl rfl) ?_; intro a hst
      refine wpList_nil ?_
      refine then_normal ?_
      by_cases c827 : (decide (i_277 < (a0.length : Int))) = true
      · rw [if_pos c827] at H
        refine wp_condT hst rfl c827 ?_
        refine wp_skip ?_
        refine then_normal ?_
        obtain ⟨J_379, hJ_379, H⟩ := Jn.elim H
        refine wp_cut (fun a w' => ∃ (v_376 : Value), ∃ (l_377 : (List Int)), J_379 l_377 = some r ∧ ST Try.f92.ntmps a [(0, va0), (2, (.slice none 0 0)), (3, v_376), (4, .int .i64 i_277)] ∧ SH (fun _ => False) w w' [Row (Kd.int .i64) 3 v_376 l_377]) ?_ ?_
        · rintro a W_378 ⟨v_376, l_377, H, hst, hsh⟩
          subst hJ_379
          dsimp only at H
          refine wp_region_lit ?_
          refine r_t hst trivial rfl (x_move hst rfl) ?_; intro a hst
          refine r_t hst trivial rfl (x_arI (r := w64 (i_277 + 1)) hst rfl rfl rfl) ?_; intro a hst
          refine r_t hst trivial rfl (x_assign hst rfl) ?_; intro a hst
          refine wpList_nil ?_
          refine then_normal ?_
          exact ⟨k_346, Nat.lt_succ_self _, v_376, l_377, (w64 (i_277 + 1)), H, hst.keep _ ⟨rfl, rfl, rfl, rfl, trivial⟩, hsh.pick [0]⟩
        · refine wp_block ?_
          refine wp_seq ?_
          refine wp_region_lit ?_
          refine r_t hst trivial rfl (x_move hst rfl) ?_; intro a hst
          refine r_t hst trivial rfl (x_lenSl hst Try.underlying26 rfl (hsh.row 0 rfl).slen) ?_; intro a hst
          refine r_t hst trivial rfl (x_assign hst rfl) ?_; intro a hst
          refine wpList_nil ?_
          refine then_normal ?_
          refine wp_seq ?_
          refine wp_region_lit ?_
          refine r_t hst trivial rfl (x_move hst rfl) ?_; intro a hst
          refine r_t hst trivial rfl (x_move hst rfl) ?_; intro a hst
          refine r_t hst trivial rfl (x_move hst rfl) ?_; intro a hst
          obtain ⟨x909, hx909, H⟩ := Option.bind_eq_some_iff.1 H
          refine r_t hst trivial rfl (x_indexAddr hst Try.underlying26 el_3 rfl rfl hra0 hx909) ?_; intro a hst
          refine r_t hst trivial rfl (x_loadEF (j := 0) (cs := [.int .i64 x909]) hst sc_3 rfl hra0 (Same.sh0 hsa0 hsh) hx909 rfl (fun _ h => h) rfl) ?_; intro a hst
          refine r_buildSlice (vs := [.int .i64 x909]) (cs := [.int .i64 x909]) hst hsh trivial rfl Try.underlying26 el_3 rfl rfl (by simp [Value.cells]) rfl rfl ?_
          intro g910 a w911 hgg910 hsh hst
          replace hsh := hsh.pick [1, 0]
          obtain ⟨l912, hl912, H⟩ := Option.bind_eq_some_iff.1 H
          refine r_append1 (xx := x909) (C := []) (M := []) hst hsh trivial rfl Try.underlying26 el_3 (by decide) (by decide) (by decide) rfl rfl (fun _ _ _ => rfl) hl912 ?_
          intro v913 a w914 hsh hst
          refine r_t hst trivial rfl (x_assign hst rfl) ?_; intro a hst
          refine wpList_nil ?_
          refine then_normal ?_
          refine wp_block ?_
          refine wp_loop_fuel (fun k_402 a w' => ∃ (l_390 : (List Int)), ∃ (i_391 : Int), r16_sorted.l1 J_379 k_402 l_390 i_391 = some r ∧ ST Try.f92.ntmps a [(0, va0), (2, (.slice none 0 0)), (3, v913), (4, .int .i64 i_277), (5, .int .i64 i_391)] ∧ SH (fun _ => False) w w' [Row (Kd.int .i64) 3 v913 l_390]) k_346 ?_ ?_
          · exact ⟨l912, (l_276.length : Int), H, hst.keep _ ⟨rfl, rfl, rfl, rfl, rfl, trivial⟩, hsh.pick [0]⟩
          · rintro k_402 a W_392 ⟨l_390, i_391, H, hst, hsh⟩
            cases k_402 with
            | zero => rw [r16_sorted.l1] at H; cases H
            | succ k_402 =>
              rw [r16_sorted.l1] at H
              refine wp_seq ?_
              refine wp_seq ?_
              refine wp_region_q (fun w' => SH (fun _ => False) w w' [Row (Kd.int .i64) 3 v913 l_390]) hsh.drew fo (by kernel_rfl) ?_
              refine q_t hst trivial rfl (fun _ hsh => x_move hst rfl) ?_; intro a hst
              refine q_t hst trivial rfl (fun _ hsh => x_cmpI (b := decide (0 < i_391)) hst rfl rfl rfl) ?_; intro a hst
              refine q_t hst trivial rfl (fun _ hsh => x_move hst rfl) ?_; intro a hst
              obtain ⟨J_407, hJ_407, H⟩ := Jn.elim H
              refine q_join 14 (fun a => ∃ (b_406 : Bool), J_407 b_406 = some r ∧ ST Try.f92.ntmps a [(0, va0), (2, (.slice none 0 0)), (3, v913), (4, .int .i64 i_277), (5, .int .i64 i_391), (34, .bool b_406)]) ?_ ?_
              · rintro a ⟨b_406, H, hst⟩
                subst hJ_407
                dsimp only at H
                refine q_nil ?_
                intro w975 hsh
                refine then_normal ?_
                by_cases c976 : b_406 = true
                · rw [if_pos c976] at H
                  refine wp_condT hst rfl c976 ?_
                  refine wp_skip ?_
                  refine then_normal ?_
                  refine wp_block ?_
                  refine wp_seq ?_
                  have hw976_0 := hsh.row 0 rfl
                  refine wp_region_t (.fin [(3, 0), (3, 1), (3, 2), (3, 3), (3, 4), (3, 5), (3, 6), (3, 7), (0, 8), (3, 9), (3, 10), (3, 11), (3, 12), (0, 13), (3, 14), (2, 15), (0, 16), (2, 17)]) (fun w' => SH (fun _ => False) w w' [Row (Kd.int .i64) 3 v913 l_390]) (fun w' => SH (fun _ => False) w w' [Row (Kd.int .i64) 3 v913 l_390]) (shut_sh _ _ _) (shut_sh _ _ _) (sub_sh [0] rfl) hsh.drew fo (by kernel_rfl) ?_
                  refine t_fin ?_
                  refine m_p hst trivial rfl (fun _ => x_move hst rfl) ?_; intro a hst
                  refine m_p hst trivial rfl (fun _ => x_move hst rfl) ?_; intro a hst
                  refine m_p hst trivial rfl (fun _ => x_arI (r := w64 (i_391 - 1)) hst rfl rfl rfl) ?_; intro a hst
                  refine m_p hst trivial rfl (fun _ => x_move hst rfl) ?_; intro a hst
                  refine m_p hst trivial rfl (fun _ => x_move hst rfl) ?_; intro a hst
                  refine m_p hst trivial rfl (fun _ => x_move hst rfl) ?_; intro a hst
                  refine m_p hst trivial rfl (fun _ => x_move hst rfl) ?_; intro a hst
                  obtain ⟨x977, hx977, H⟩ := Option.bind_eq_some_iff.1 H
                  refine m_p hst trivial rfl (fun _ => x_indexAddr hst Try.underlying26 el_3 rfl rfl hw976_0 hx977) ?_; intro a hst
                  refine m_t hst trivial rfl (fun _ hsh => x_loadEF (j := 0) (cs := [.int .i64 x977]) hst sc_3 rfl (hsh.row 0 rfl) (Same.refl _ _) hx977 rfl (fun _ h => h) rfl) ?_; intro a hst
                  refine m_p hst trivial rfl (fun _ => x_move hst rfl) ?_; intro a hst
                  refine m_p hst trivial rfl (fun _ => x_move hst rfl) ?_; intro a hst
                  refine m_p hst trivial rfl (fun _ => x_arI (r := w64 (i_391 - 1)) hst rfl rfl rfl) ?_; intro a hst
                  obtain ⟨x978, hx978, H⟩ := Option.bind_eq_some_iff.1 H
                  refine m_p hst trivial rfl (fun _ => x_indexAddr hst Try.underlying26 el_3 rfl rfl hw976_0 hx978) ?_; intro a hst
                  refine m_t hst trivial rfl (fun _ hsh => x_loadEF (j := 0) (cs := [.int .i64 x978]) hst sc_3 rfl (hsh.row 0 rfl) (Same.refl _ _) hx978 rfl (fun _ h => h) rfl) ?_; intro a hst
                  obtain ⟨x979, hx979, H⟩ := Option.bind_eq_some_iff.1 H
                  refine m_p hst trivial rfl (fun _ => x_indexAddr hst Try.underlying26 el_3 rfl rfl hw976_0 hx979) ?_; intro a hst
                  refine m_loud (.inr rfl) ?_
                  intro w980 hsh
                  obtain ⟨l981, hl981, H⟩ := Option.bind_eq_some_iff.1 H
                  refine r_storeE (i := 0) (off := 0) (new := x977) (cs' := [.int .i64 x977]) hst hsh trivial sc_3 rfl rfl rfl hx979 rfl (Nat.le_of_ble_eq_true rfl) rfl (fun _ _ _ h => by rw [h]; rfl) (fun _ _ => rfl) ?_; intro a w982 hsh hst
                  rw [← upd_some hl981] at hsh
                  refine m_turn hsh ?_
                  obtain ⟨x983, hx983, H⟩ := Option.bind_eq_some_iff.1 H
                  refine m_t hst trivial rfl (fun _ hsh => x_indexAddr hst Try.underlying26 el_3 rfl rfl (hsh.row 0 rfl) hx983) ?_; intro a hst
                  refine m_loud (.inr rfl) ?_
                  intro w984 hsh
                  obtain ⟨l985, hl985, H⟩ := Option.bind_eq_some_iff.1 H
                  refine r_storeE (i := 0) (off := 0) (new := x978) (cs' := [.int .i64 x978]) hst hsh trivial sc_3 rfl rfl rfl hx983 rfl (Nat.le_of_ble_eq_true rfl) rfl (fun _ _ _ h => by rw [h]; rfl) (fun _ _ => rfl) ?_; intro a w986 hsh hst
                  rw [← upd_some hl985] at hsh
                  refine m_turn hsh ?_
                  refine m_nil ?_
                  intro w987 hsh
                  refine qn_normal ?_
                  refine then_normal ?_
                  refine wp_region_lit ?_
                  refine r_t hst trivial rfl (x_move hst rfl) ?_; intro a hst
                  refine r_t hst trivial rfl (x_arI (r := w64 (i_391 - 1)) hst rfl rfl rfl) ?_; intro a hst
                  refine r_t hst trivial rfl (x_assign hst rfl) ?_; intro a hst
                  refine wpList_nil ?_
                  refine block_normal ?_
                  refine then_normal ?_
                  exact ⟨k_402, Nat.lt_succ_self _, l985, (w64 (i_391 - 1)), H, hst.keep _ ⟨rfl, rfl, rfl, rfl, rfl, trivial⟩, hsh.pick [0]⟩
                · rw [if_neg c976] at H
                  replace c976 := Bool.eq_false_iff.2 c976
                  refine wp_condF hst rfl c976 ?_
                  refine wp_exit ?_
                  refine then_exit ?_
                  refine then_exit ?_
                  refine block_hit ?_
                  refine block_normal ?_
                  refine then_normal ?_
                  exact ⟨v913, l_390, H, hst.keep _ ⟨rfl, rfl, rfl, rfl, trivial⟩, hsh.pick [0]⟩
              · intro hj
                by_cases c972 : (decide (0 < i_391)) = true
                · rw [if_pos c972] at H
                  refine q_t hst (wt_of 23 rfl rfl c972) rfl (fun _ hsh => x_move hst rfl) ?_; intro a hst
                  refine q_t hst (wt_of 23 rfl rfl c972) rfl (fun _ hsh => x_move hst rfl) ?_; intro a hst
                  refine q_t hst (wt_of 23 rfl rfl c972) rfl (fun _ hsh => x_arI (r := w64 (i_391 - 1)) hst rfl rfl rfl) ?_; intro a hst
                  obtain ⟨x988, hx988, H⟩ := Option.bind_eq_some_iff.1 H
                  refine q_t hst (wt_of 23 rfl rfl c972) rfl (fun _ hsh => x_indexAddr hst Try.underlying26 el_3 rfl rfl (hsh.row 0 rfl) hx988) ?_; intro a hst
                  refine q_t hst (wt_of 23 rfl rfl c972) rfl (fun _ hsh => x_loadEF (j := 0) (cs := [.int .i64 x988]) hst sc_3 rfl (hsh.row 0 rfl) (Same.refl _ _) hx988 rfl (fun _ h => h) rfl) ?_; intro a hst
                  refine q_t hst (wt_of 23 rfl rfl c972) rfl (fun _ hsh => x_move hst rfl) ?_; intro a hst
                  refine q_t hst (wt_of 23 rfl rfl c972) rfl (fun _ hsh => x_move hst rfl) ?_; intro a hst
                  obtain ⟨x989, hx989, H⟩ := Option.bind_eq_some_iff.1 H
                  refine q_t hst (wt_of 23 rfl rfl c972) rfl (fun _ hsh => x_indexAddr hst Try.underlying26 el_3 rfl rfl (hsh.row 0 rfl) hx989) ?_; intro a hst
                  refine q_t hst (wt_of 23 rfl rfl c972) rfl (fun _ hsh => x_loadEF (j := 0) (cs := [.int .i64 x989]) hst sc_3 rfl (hsh.row 0 rfl) (Same.refl _ _) hx989 rfl (fun _ h => h) rfl) ?_; intro a hst
                  refine q_t hst (wt_of 23 rfl rfl c972) rfl (fun _ hsh => x_cmpI (b := decide (x989 < x988)) hst rfl rfl rfl) ?_; intro a hst
                  refine q_t hst trivial rfl (fun _ hsh => x_pickT hst rfl c972 rfl) ?_; intro a hst
                  exact hj _ ⟨(decide (x989 < x988)), H, hst.keep _ ⟨rfl, rfl, rfl, rfl, rfl, rfl, trivial⟩⟩
                · rw [if_neg c972] at H
                  replace c972 := Bool.eq_false_iff.2 c972
                  refine q_not hst 23 rfl rfl c972 rfl ?_; intro a hst
                  refine q_not hst 23 rfl rfl c972 rfl ?_; intro a hst
                  refine q_not hst 23 rfl rfl c972 rfl ?_; intro a hst
                  refine q_not hst 23 rfl rfl c972 rfl ?_; intro a hst
                  refine q_not hst 23 rfl rfl c972 rfl ?_; intro a hst
                  refine q_not hst 23 rfl rfl c972 rfl ?_; intro a hst
                  refine q_not hst 23 rfl rfl c972 rfl ?_; intro a hst
                  refine q_not hst 23 rfl rfl c972 rfl ?_; intro a hst
                  refine q_not hst 23 rfl rfl c972 rfl ?_; intro a hst
                  refine q_not hst 23 rfl rfl c972 rfl ?_; intro a hst
                  refine q_t hst trivial rfl (fun _ hsh => x_pickF hst rfl c972 rfl) ?_; intro a hst
                  exact hj _ ⟨false, H, hst.keep _ ⟨rfl, rfl, rfl, rfl, rfl, rfl, trivial⟩⟩
      · rw [if_neg c827] at H
        replace c827 := Bool.eq_false_iff.2 c827
        refine wp_condF hst rfl c827 ?_
        refine wp_exit ?_
        refine then_exit ?_
        refine then_exit ?_
        refine block_hit ?_
        refine then_normal ?_
        refine wp_seq ?_
        refine wp_region_lit ?_
        refine r_t hst trivial rfl (x_move hst rfl) ?_; intro a hst
        refine r_t hst trivial rfl (x_assign hst rfl) ?_; intro a hst
        refine wpList_nil ?_
        refine then_normal ?_
        refine wp_ret ?_
        obtain rfl := Option.some.inj H
        exact ret1 hst rfl rfl ⟨v_275, rfl, hsh.pick [0]⟩

set_option maxHeartbeats 4000000 in
set_option maxRecDepth 100000 in
theorem r16_numbers.calls (k : Nat) (w : World) (va0 : Value) (Za0 : Nat → Prop) (wra0 : World) (hsa0 : Same Za0 wra0 w) (a0 : (List (List File))) (hra0 : RD (Kd.slice 43 k_File) Za0 wra0 va0 a0) (r : (List Int)) (h : r16_numbers k a0 = some r) :
    Calls Try.prog 78 ([va0] : List Value).toArray w fun e w' => ∃ v0_ : Value, e = .returned (v0_) ∧ SH (fun _ => False) w w' [Row (Kd.int .i64) 3 v0_ r] := by
  have H := h
  clear h
  unfold r16_numbers at H
  refine calls_enter Try.func78 rfl rfl ?_
  intro a hst
  have hsh := SH.zero (fun _ => False) w
  refine wp_seq ?_
  refine wp_region_lit ?_
  refine r_t hst trivial rfl (x_assign hst rfl) ?_; intro a hst
  refine wpList_nil ?_
  refine then_normal ?_
  refine wp_seq ?_
  refine wp_region_lit ?_
  refine r_t hst trivial rfl (x_assign hst rfl) ?_; intro a hst
  refine wpList_nil ?_
  refine then_normal ?_
  refine wp_seq ?_
  refine wp_seq ?_
  refine wp_region_lit ?_
  refine r_t hst trivial rfl (x_assign hst rfl) ?_; intro a hst
  refine wpList_nil ?_
  refine then_normal ?_
  refine wp_block ?_
  have hsh := hsh.addNil (Kd.int .i64) 3
  refine wp_loop_fuel (fun k_208 a w' => ∃ (v_167 : Value), ∃ (l_168 : (List Int)), ∃ (i_169 : Int), r16_numbers.l0 a0 k_208 l_168 i_169 = some r ∧ ST Try.f78.ntmps a [(0, va0), (2, (.slice none 0 0)), (3, v_167), (4, .int .i64 i_169)] ∧ SH (fun _ => False) w w' [Row (Kd.int .i64) 3 v_167 l_168]) k ?_ ?_
  · exact ⟨(.slice none 0 0), ([]), 0, H, hst.keep _ ⟨rfl, rfl, rfl, rfl, trivial⟩, hsh.pick [0]⟩
  · rintro k_208 a W_170 ⟨v_167, l_168, i_169, H, hst, hsh⟩
    cases k_208 with
    | zero => rw [r16_numbers.l0] at H; cases H
    | succ k_208 =>
      rw [r16_numbers.l0] at H
      refine wp_seq ?_
      refine wp_seq ?_
      refine wp_region_lit ?_
      refine r_t hst trivial rfl (x_move hst rfl) ?_; intro a hst
      refine r_t hst trivial rfl (x_move hst rfl) ?_; intro a hst
      refine r_t hst trivial rfl (x_lenSl hst Try.underlying23 rfl hra0.slen) ?_; intro a hst
      refine r_t hst trivial rfl (x_cmpI (b := decide (i_169 < (a0.length : Int))) hst rfl rfl rfl) ?_; intro a hst
      refine wpList_nil ?_
      refine then_normal ?_
      by_cases c1045 : (decide (i_169 < (a0.length : Int))) = true
      · rw [if_pos c1045] at H
        refine wp_condT hst rfl c1045 ?_
        refine wp_skip ?_
        refine then_normal ?_
        obtain ⟨J_226, hJ_226, H⟩ := Jn.elim H
        refine wp_cut (fun a w' => ∃ (v_223 : Value), ∃ (l_224 : (List Int)), J_226 l_224 = some r ∧ ST Try.f78.ntmps a [(0, va0), (2, (.slice none 0 0)), (3, v_223), (4, .int .i64 i_169)] ∧ SH (fun _ => False) w w' [Row (Kd.int .i64) 3 v_223 l_224]) ?_ ?_
        · rintro a W_225 ⟨v_223, l_224, H, hst, hsh⟩
          subst hJ_226
          dsimp only at H
          refine wp_region_lit ?_
          refine r_t hst trivial rfl (x_move hst rfl) ?_; intro a hst
          refine r_t hst trivial rfl (x_arI (r := w64 (i_169 + 1)) hst rfl rfl rfl) ?_; intro a hst
          refine r_t hst trivial rfl (x_assign hst rfl) ?_; intro a hst
          refine wpList_nil ?_
          refine then_normal ?_
          exact ⟨k_208, Nat.lt_succ_self _, v_223, l_224, (w64 (i_169 + 1)), H, hst.keep _ ⟨rfl, rfl, rfl, rfl, trivial⟩, hsh.pick [0]⟩
        · refine wp_block ?_
          refine wp_seq ?_
          refine wp_region_lit ?_
          refine r_t hst trivial rfl (x_assign hst rfl) ?_; intro a hst
          refine wpList_nil ?_
          refine then_normal ?_
          refine wp_block ?_
          refine wp_loop_fuel (fun k_240 a w' => ∃ (v_232 : Value), ∃ (l_233 : (List Int)), ∃ (i_234 : Int), r16_numbers.l1 a0 i_169 J_226 k_240 l_233 i_234 = some r ∧ ST Try.f78.ntmps a [(0, va0), (2, (.slice none 0 0)), (3, v_232), (4, .int .i64 i_169), (5, .int .i64 i_234)] ∧ SH (fun _ => False) w w' [Row (Kd.int .i64) 3 v_232 l_233]) k_208 ?_ ?_
          · exact ⟨v_167, l_168, 0, H, hst.keep _ ⟨rfl, rfl, rfl, rfl, rfl, trivial⟩, hsh.pick [0]⟩
          · rintro k_240 a W_235 ⟨v_232, l_233, i_234, H, hst, hsh⟩
            cases k_240 with
            | zero => rw [r16_numbers.l1] at H; cases H
            | succ k_240 =>
              rw [r16_numbers.l1] at H
              refine wp_seq ?_
              refine wp_seq ?_
              refine wp_region_lit ?_
              refine r_t hst trivial rfl (x_move hst rfl) ?_; intro a hst
              refine r_t hst trivial rfl (x_move hst rfl) ?_; intro a hst
              refine r_t hst trivial rfl (x_move hst rfl) ?_; intro a hst
              obtain ⟨x1222, hx1222, H⟩ := Option.bind_eq_some_iff.1 H
              refine r_t hst trivial rfl (x_indexAddr hst Try.underlying23 el_31 rfl rfl hra0 hx1222) ?_; intro a hst
              obtain ⟨_, hk1223, hc1224⟩ := RD.cells2 hra0 hx1222
              obtain ⟨v1225, rfl, hr1226⟩ := hk1223
              refine r_t hst trivial rfl (x_loadC hst sc_31 rfl (hc1224 _ (Same.sh0 hsa0 hsh) 0 _ rfl)) ?_; intro a hst
              refine r_t hst trivial rfl (x_lenSl hst Try.underlying31 rfl hr1226.slen) ?_; intro a hst
              refine r_t hst trivial rfl (x_cmpI (b := decide (i_234 < (x1222.length : Int))) hst rfl rfl rfl) ?_; intro a hst
              refine wpList_nil ?_
              refine then_normal ?_
              by_cases c1227 : (decide (i_234 < (x1222.length : Int))) = true
              · rw [if_pos c1227] at H
                refine wp_condT hst rfl c1227 ?_
                refine wp_skip ?_
                refine then_normal ?_
                refine wp_seq ?_
                refine wp_block ?_
                refine wp_region_lit ?_
                refine r_t hst trivial rfl (x_move hst rfl) ?_; intro a hst
                refine r_t hst trivial rfl (x_move hst rfl) ?_; intro a hst
                refine r_t hst trivial rfl (x_move hst rfl) ?_; intro a hst
                obtain ⟨x1239, hx1239, H⟩ := Option.bind_eq_some_iff.1 H
                refine r_t hst trivial rfl (x_indexAddr hst Try.underlying23 el_31 rfl rfl hra0 hx1239) ?_; intro a hst
                obtain ⟨_, hk1240, hc1241⟩ := RD.cells2 hra0 hx1239
                obtain ⟨v1242, rfl, hr1243⟩ := hk1240
                refine r_t hst trivial rfl (x_loadC hst sc_31 rfl (hc1241 _ (Same.sh0 hsa0 hsh) 0 _ rfl)) ?_; intro a hst
                refine r_t hst trivial rfl (x_move hst rfl) ?_; intro a hst
                obtain ⟨x1244, hx1244, H⟩ := Option.bind_eq_some_iff.1 H
                refine r_t hst trivial rfl (x_indexAddr hst Try.underlying31 el_43 rfl rfl hr1243 hx1244) ?_; intro a hst
                refine r_t hst trivial rfl (x_fieldAddrE (n' := Int.toNat i_234 * k_File.sz) hst fa_43_0 rfl rfl) ?_; intro a hst
                refine r_t hst trivial rfl (x_loadEF (j := 0) (cs := [.int .i64 x1244.Number, .int .i64 x1244.Size, .string x1244.Least, .string x1244.Limit, .int .u64 x1244.Low, .int .u64 x1244.High]) hst sc_3 rfl hr1243 (Same.sh0 hsa0 hsh) hx1244 rfl (fun _ h => h) rfl) ?_; intro a hst
                refine r_buildSlice (vs := [.int .i64 x1244.Number]) (cs := [.int .i64 x1244.Number]) hst hsh trivial rfl Try.underlying26 el_3 rfl rfl (by simp [Value.cells]) rfl rfl ?_
                intro g1245 a w1246 hgg1245 hsh hst
                replace hsh := hsh.pick [1, 0]
                obtain ⟨l1247, hl1247, H⟩ := Option.bind_eq_some_iff.1 H
                refine r_append1 (xx := x1244.Number) (C := []) (M := []) hst hsh trivial rfl Try.underlying26 el_3 (by decide) (by decide) (by decide) rfl rfl (fun _ _ _ => rfl) hl1247 ?_
                intro v1248 a w1249 hsh hst
                refine r_t hst trivial rfl (x_assign hst rfl) ?_; intro a hst
                refine wpList_nil ?_
                refine block_normal ?_
                refine then_normal ?_
                refine wp_region_lit ?_
                refine r_t hst trivial rfl (x_move hst rfl) ?_; intro a hst
                refine r_t hst trivial rfl (x_arI (r := w64 (i_234 + 1)) hst rfl rfl rfl) ?_; intro a hst
                refine r_t hst trivial rfl (x_assign hst rfl) ?_; intro a hst
                refine wpList_nil ?_
                refine then_normal ?_
                exact ⟨k_240, Nat.lt_succ_self _, v1248, l1247, (w64 (i_234 + 1)), H, hst.keep _ ⟨rfl, rfl, rfl, rfl, rfl, trivial⟩, hsh.pick [0]⟩
              · rw [if_neg c1227] at H
                replace c1227 := Bool.eq_false_iff.2 c1227
                refine wp_condF hst rfl c1227 ?_
                refine wp_exit ?_
                refine then_exit ?_
                refine then_exit ?_
                refine block_hit ?_
                refine block_normal ?_
                refine then_normal ?_
                exact ⟨v_232, l_233, H, hst.keep _ ⟨rfl, rfl, rfl, rfl, trivial⟩, hsh.pick [0]⟩
      · rw [if_neg c1045] at H
        replace c1045 := Bool.eq_false_iff.2 c1045
        refine wp_condF hst rfl c1045 ?_
        refine wp_exit ?_
        refine then_exit ?_
        refine then_exit ?_
        refine block_hit ?_
        refine then_normal ?_
        refine wp_seq ?_
        refine wp_region_lit ?_
        refine r_t hst trivial rfl (x_move hst rfl) ?_; intro a hst
        obtain ⟨r1250, hr1250, H⟩ := Option.bind_eq_some_iff.1 H
        refine r_callD hst trivial rfl fn_92 rfl (r16_sorted.calls k_208 _ _ _ _ (Same.refl _ _) _ (hsh.row 0 rfl) r1250 hr1250) ?_
        rintro e w1251 ⟨v1252, rfl, hc⟩
        replace hsh := hsh.call0 hc
        clear hc
        refine ⟨_, rfl, fun a hst => ?_⟩
        refine r_t hst trivial rfl (x_assign hst rfl) ?_; intro a hst
        refine wpList_nil ?_
        refine then_normal ?_
        refine wp_ret ?_
        obtain rfl := Option.some.inj H
        exact ret1 hst rfl rfl ⟨v1252, rfl, hsh.pick [0]⟩

set_option maxHeartbeats 4000000 in
set_option maxRecDepth 100000 in
theorem r16_Valid.calls (k : Nat) (w : World) (va0 : Value) (Za0 : Nat → Prop) (wra0 : World) (hsa0 : Same Za0 wra0 w) (a0 : (List (List File))) (hra0 : RD (Kd.slice 43 k_File) Za0 wra0 va0 a0) (r : Bool) (h : r16_Valid k a0 = some r) :
    Calls Try.prog 68 ([va0] : List Value).toArray w fun e w' => e = .returned (.bool r) ∧ SH (fun _ => False) w w' [] := by
  have H := h
  clear h
  unfold r16_Valid at H
  refine calls_enter Try.func68 rfl rfl ?_
  intro a hst
  have hsh := SH.zero (fun _ => False) w
  refine wp_seq ?_
  refine wp_region_lit ?_
  refine r_t hst trivial rfl (x_assign hst rfl) ?_; intro a hst
  refine wpList_nil ?_
  refine then_normal ?_
  refine wp_seq ?_
  refine wp_seq ?_
  refine wp_region_lit ?_
  refine r_t hst trivial rfl (x_move hst rfl) ?_; intro a hst
  refine r_t hst trivial rfl (x_lenSl hst Try.underlying23 rfl hra0.slen) ?_; intro a hst
  refine r_t hst trivial rfl (x_cmpI (b := decide ((a0.length : Int) < 1)) hst rfl rfl rfl) ?_; intro a hst
  refine r_t hst trivial rfl (x_move hst rfl) ?_; intro a hst
  refine wl_join0 (N := Try.f68.ntmps) 8 [(0, va0), (2, .bool false), (14, .bool ((decide ((a0.length : Int) < 1)) || (decide (7 < (a0.length : Int)))))] ?_ ?_
  · intro a hst
    refine wpList_nil ?_
    refine then_normal ?_
    by_cases c4 : ((decide ((a0.length : Int) < 1)) || (decide (7 < (a0.length : Int)))) = true
    · rw [if_pos c4] at H
      refine wp_condT hst rfl c4 ?_
      refine wp_seq ?_
      refine wp_region_lit ?_
      refine r_t hst trivial rfl (x_assign hst rfl) ?_; intro a hst
      refine wpList_nil ?_
      refine then_normal ?_
      refine wp_ret ?_
      refine then_ret ?_
      obtain rfl := Option.some.inj H
      exact ret1 hst rfl rfl ⟨rfl, hsh.pick []⟩
    · rw [if_neg c4] at H
      replace c4 := Bool.eq_false_iff.2 c4
      refine wp_condF hst rfl c4 ?_
      refine wp_skip ?_
      refine then_normal ?_
      refine wp_seq ?_
      refine wp_seq ?_
      refine wp_region_lit ?_
      refine r_t hst trivial rfl (x_assign hst rfl) ?_; intro a hst
      refine wpList_nil ?_
      refine then_normal ?_
      refine wp_block ?_
      refine wp_loop_fuel (fun k_1006 a w' => ∃ (i_804 : Int), r16_Valid.l0 a0 k_1006 i_804 = some r ∧ ST Try.f68.ntmps a [(0, va0), (2, .bool false), (3, .int .i64 i_804)] ∧ SH (fun _ => False) w w' []) k ?_ ?_
      · exact ⟨0, H, hst.keep _ ⟨rfl, rfl, rfl, trivial⟩, hsh.pick []⟩
      · rintro k_1006 a W_805 ⟨i_804, H, hst, hsh⟩
        cases k_1006 with
        | zero => rw [r16_Valid.l0] at H; cases H
        | succ k_1006 =>
          rw [r16_Valid.l0] at H
          refine wp_seq ?_
          refine wp_seq ?_
          refine wp_region_lit ?_
          refine r_t hst trivial rfl (x_move hst rfl) ?_; intro a hst
          refine r_t hst trivial rfl (x_move hst rfl) ?_; intro a hst
          refine r_t hst trivial rfl (x_lenSl hst Try.underlying23 rfl hra0.slen) ?_; intro a hst
          refine r_t hst trivial rfl (x_cmpI (b := decide (i_804 < (a0.length : Int))) hst rfl rfl rfl) ?_; intro a hst
          refine wpList_nil ?_
          refine then_normal ?_
          by_cases c6316 : (decide (i_804 < (a0.length : Int))) = true
          · rw [if_pos c6316] at H
            refine wp_condT hst rfl c6316 ?_
            refine wp_skip ?_
            refine then_normal ?_
            obtain ⟨J_1106, hJ_1106, H⟩ := Jn.elim H
            refine wp_cut (fun a w' => J_1106 = some r ∧ ST Try.f68.ntmps a [(0, va0), (2, .bool false), (3, .int .i64 i_804)] ∧ SH (fun _ => False) w w' []) ?_ ?_
            · rintro a W_1105 ⟨H, hst, hsh⟩
              subst hJ_1106
              refine wp_region_lit ?_
              refine r_t hst trivial rfl (x_move hst rfl) ?_; intro a hst
              refine r_t hst trivial rfl (x_arI (r := w64 (i_804 + 1)) hst rfl rfl rfl) ?_; intro a hst
              refine r_t hst trivial rfl (x_assign hst rfl) ?_; intro a hst
              refine wpList_nil ?_
              refine then_normal ?_
              exact ⟨k_1006, Nat.lt_succ_self _, (w64 (i_804 + 1)), H, hst.keep _ ⟨rfl, rfl, rfl, trivial⟩, hsh.pick []⟩
            · refine wp_block ?_
              refine wp_seq ?_
              refine wp_region_lit ?_
              refine r_t hst trivial rfl (x_assign hst rfl) ?_; intro a hst
              refine wpList_nil ?_
              refine then_normal ?_
              refine wp_block ?_
              refine wp_loop_fuel (fun k_1174 a w' => ∃ (i_1140 : Int), r16_Valid.l1 a0 i_804 J_1106 k_1174 i_1140 = some r ∧ ST Try.f68.ntmps a [(0, va0), (2, .bool false), (3, .int .i64 i_804), (4, .int .i64 i_1140)] ∧ SH (fun _ => False) w w' []) k_1006 ?_ ?_
              · exact ⟨0, H, hst.keep _ ⟨rfl, rfl, rfl, rfl, trivial⟩, hsh.pick []⟩
              · rintro k_1174 a W_1141 ⟨i_1140, H, hst, hsh⟩
                cases k_1174 with
                | zero => rw [r16_Valid.l1] at H; cases H
                | succ k_1174 =>
                  rw [r16_Valid.l1] at H
                  refine wp_seq ?_
                  refine wp_seq ?_
                  refine wp_region_lit ?_
                  refine r_t hst trivial rfl (x_move hst rfl) ?_; intro a hst
                  refine r_t hst trivial rfl (x_move hst rfl) ?_; intro a hst
                  refine r_t hst trivial rfl (x_move hst rfl) ?_; intro a hst
                  obtain ⟨x7373, hx7373, H⟩ := Option.bind_eq_some_iff.1 H
                  refine r_t hst trivial rfl (x_indexAddr hst Try.underlying23 el_31 rfl rfl hra0 hx7373) ?_; intro a hst
                  obtain ⟨_, hk7374, hc7375⟩ := RD.cells2 hra0 hx7373
                  obtain ⟨v7376, rfl, hr7377⟩ := hk7374
                  refine r_t hst trivial rfl (x_loadC hst sc_31 rfl (hc7375 _ (Same.sh0 hsa0 hsh) 0 _ rfl)) ?_; intro a hst
                  refine r_t hst trivial rfl (x_lenSl hst Try.underlying31 rfl hr7377.slen) ?_; intro a hst
                  refine r_t hst trivial rfl (x_cmpI (b := decide (i_1140 < (x7373.length : Int))) hst rfl rfl rfl) ?_; intro a hst
                  refine wpList_nil ?_
                  refine then_normal ?_
                  by_cases c7378 : (decide (i_1140 < (x7373.length : Int))) = true
                  · rw [if_pos c7378] at H
                    refine wp_condT hst rfl c7378 ?_
                    refine wp_skip ?_
                    refine then_normal ?_
                    refine wp_seq ?_
                    refine wp_block ?_
                    refine wp_seq ?_
                    refine wp_seq ?_
                    refine wp_region_lit ?_
                    refine r_t hst trivial rfl (x_move hst rfl) ?_; intro a hst
                    refine r_t hst trivial rfl (x_move hst rfl) ?_; intro a hst
                    obtain ⟨x7487, hx7487, H⟩ := Option.bind_eq_some_iff.1 H
                    refine r_t hst trivial rfl (x_indexAddr hst Try.underlying23 el_31 rfl rfl hra0 hx7487) ?_; intro a hst
                    obtain ⟨_, hk7488, hc7489⟩ := RD.cells2 hra0 hx7487
                    obtain ⟨v7490, rfl, hr7491⟩ := hk7488
                    refine r_t hst trivial rfl (x_loadC hst sc_31 rfl (hc7489 _ (Same.sh0 hsa0 hsh) 0 _ rfl)) ?_; intro a hst
                    refine r_t hst trivial rfl (x_move hst rfl) ?_; intro a hst
                    obtain ⟨x7492, hx7492, H⟩ := Option.bind_eq_some_iff.1 H
                    refine r_t hst trivial rfl (x_indexAddr hst Try.underlying31 el_43 rfl rfl hr7491 hx7492) ?_; intro a hst
                    refine r_t hst trivial rfl (x_loadEsF (j := 0) (cs := [.int .i64 x7492.Number, .int .i64 x7492.Size, .string x7492.Least, .string x7492.Limit, .int .u64 x7492.Low, .int .u64 x7492.High]) (ps := [.int .i64 x7492.Number, .int .i64 x7492.Size, .string x7492.Least, .string x7492.Limit, .int .u64 x7492.Low, .int .u64 x7492.High]) hst ag_43 rfl hr7491 (Same.sh0 hsa0 hsh) hx7492 rfl (fun _ h => h) rfl) ?_; intro a hst
                    obtain ⟨r7493, hr7493, H⟩ := Option.bind_eq_some_iff.1 H
                    refine r_callD hst trivial rfl fn_77 rfl (r16_May.calls _ x7492 r7493 hr7493) ?_
                    rintro e w7494 ⟨rfl, hc⟩
                    replace hsh := hsh.call0 hc
                    clear hc
                    refine ⟨_, rfl, fun a hst => ?_⟩
                    refine r_t hst trivial rfl (x_notB hst rfl) ?_; intro a hst
                    refine wpList_nil ?_
                    refine then_normal ?_
                    by_cases c7495 : (!r7493) = true
                    · rw [if_pos c7495] at H
                      refine wp_condT hst rfl c7495 ?_
                      refine wp_seq ?_
                      refine wp_region_lit ?_
                      refine r_t hst trivial rfl (x_assign hst rfl) ?_; intro a hst
                      refine wpList_nil ?_
                      refine then_normal ?_
                      refine wp_ret ?_
                      refine then_ret ?_
                      refine block_ret ?_
                      refine then_ret ?_
                      refine then_ret ?_
                      refine block_ret ?_
                      refine block_ret ?_
                      refine then_ret ?_
                      refine then_ret ?_
                      refine block_ret ?_
                      refine then_ret ?_
                      obtain rfl := Option.some.inj H
                      exact ret1 hst rfl rfl ⟨rfl, hsh.pick []⟩
                    · rw [if_neg c7495] at H
                      replace c7495 := Bool.eq_false_iff.2 c7495
                      refine wp_condF hst rfl c7495 ?_
                      refine wp_skip ?_
                      refine then_normal ?_
                      refine wp_seq ?_
                      refine wp_region_q (fun w' => SH (fun _ => False) w w' []) hsh.drew fo (by kernel_rfl) ?_
                      refine q_t hst trivial rfl (fun _ hsh => x_move hst rfl) ?_; intro a hst
                      refine q_t hst trivial rfl (fun _ hsh => x_cmpI (b := decide (0 < i_1140)) hst rfl rfl rfl) ?_; intro a hst
                      refine q_t hst trivial rfl (fun _ hsh => x_move hst rfl) ?_; intro a hst
                      refine q_join0 (N := Try.f68.ntmps) 6 [(0, va0), (2, .bool false), (3, .int .i64 i_804), (4, .int .i64 i_1140), (44, .bool ((decide (0 < i_1140)) && (i_804 == 0)))] ?_ ?_
                      · intro a hst
                        refine q_t hst trivial rfl (fun _ hsh => x_move hst rfl) ?_; intro a hst
                        obtain ⟨J_1191, hJ_1191, H⟩ := Jn.elim H
                        refine q_join 26 (fun a => ∃ (b_1190 : Bool), J_1191 b_1190 = some r ∧ ST Try.f68.ntmps a [(0, va0), (2, .bool false), (3, .int .i64 i_804), (4, .int .i64 i_1140), (64, .bool b_1190)]) ?_ ?_
                        · rintro a ⟨b_1190, H, hst⟩
                          subst hJ_1191
                          dsimp only at H
                          refine q_t hst trivial rfl (fun _ hsh => x_move hst rfl) ?_; intro a hst
                          obtain ⟨J_1197, hJ_1197, H⟩ := Jn.elim H
                          refine q_join 54 (fun a => ∃ (b_1196 : Bool), J_1197 b_1196 = some r ∧ ST Try.f68.ntmps a [(0, va0), (2, .bool false), (3, .int .i64 i_804), (4, .int .i64 i_1140), (92, .bool b_1196)]) ?_ ?_
                          · rintro a ⟨b_1196, H, hst⟩
                            subst hJ_1197
                            dsimp only at H
                            refine q_nil ?_
                            intro w7537 hsh
                            refine then_normal ?_
                            by_cases c7538 : b_1196 = true
                            · rw [if_pos c7538] at H
                              refine wp_condT hst rfl c7538 ?_
                              refine wp_seq ?_
                              refine wp_region_lit ?_
                              refine r_t hst trivial rfl (x_assign hst rfl) ?_; intro a hst
                              refine wpList_nil ?_
                              refine then_normal ?_
                              refine wp_ret ?_
                              refine block_ret ?_
                              refine then_ret ?_
                              refine then_ret ?_
                              refine block_ret ?_
                              refine block_ret ?_
                              refine then_ret ?_
                              refine then_ret ?_
                              refine block_ret ?_
                              refine then_ret ?_
                              obtain rfl := Option.some.inj H
                              exact ret1 hst rfl rfl ⟨rfl, hsh.pick []⟩
                            · rw [if_neg c7538] at H
                              replace c7538 := Bool.eq_false_iff.2 c7538
                              refine wp_condF hst rfl c7538 ?_
                              refine wp_skip ?_
                              refine block_normal ?_
                              refine then_normal ?_
                              refine wp_region_lit ?_
                              refine r_t hst trivial rfl (x_move hst rfl) ?_; intro a hst
                              refine r_t hst trivial rfl (x_arI (r := w64 (i_1140 + 1)) hst rfl rfl rfl) ?_; intro a hst
                              refine r_t hst trivial rfl (x_assign hst rfl) ?_; intro a hst
                              refine wpList_nil ?_
                              refine then_normal ?_
                              exact ⟨k_1174, Nat.lt_succ_self _, (w64 (i_1140 + 1)), H, hst.keep _ ⟨rfl, rfl, rfl, rfl, trivial⟩, hsh.pick []⟩
                          · intro hj
                            by_cases c7510 : b_1190 = true
                            · rw [if_pos c7510] at H
                              refine q_not hst 65 rfl rfl c7510 rfl ?_; intro a hst
                              refine q_not hst 65 rfl rfl c7510 rfl ?_; intro a hst
                              refine q_not hst 65 rfl rfl c7510 rfl ?_; intro a hst
                              refine q_notU hst 68 rfl rfl rfl ?_; intro a hst
                              refine q_notU hst 68 rfl rfl rfl ?_; intro a hst
                              refine q_not hst 65 rfl rfl c7510 rfl ?_; intro a hst
                              refine q_not hst 65 rfl rfl c7510 rfl ?_; intro a hst
                              refine q_notU hst 72 rfl rfl rfl ?_; intro a hst
                              refine q_notU hst 72 rfl rfl rfl ?_; intro a hst
                              refine q_notU hst 72 rfl rfl rfl ?_; intro a hst
                              refine q_notU hst 72 rfl rfl rfl ?_; intro a hst
                              refine q_notU hst 72 rfl rfl rfl ?_; intro a hst
                              refine q_notU hst 72 rfl rfl rfl ?_; intro a hst
                              refine q_notU hst 72 rfl rfl rfl ?_; intro a hst
                              refine q_notU hst 72 rfl rfl rfl ?_; intro a hst
                              refine q_notU hst 72 rfl rfl rfl ?_; intro a hst
                              refine q_notU hst 72 rfl rfl rfl ?_; intro a hst
                              refine q_notU hst 72 rfl rfl rfl ?_; intro a hst
                              refine q_notU hst 72 rfl rfl rfl ?_; intro a hst
                              refine q_notU hst 72 rfl rfl rfl ?_; intro a hst
                              refine q_notU hst 72 rfl rfl rfl ?_; intro a hst
                              refine q_notU hst 72 rfl rfl rfl ?_; intro a hst
                              refine q_notU hst 72 rfl rfl rfl ?_; intro a hst
                              refine q_notU hst 72 rfl rfl rfl ?_; intro a hst
                              refine q_notU hst 72 rfl rfl rfl ?_; intro a hst
                              refine q_not hst 65 rfl rfl c7510 rfl ?_; intro a hst
                              refine q_t hst trivial rfl (fun _ hsh => x_pickT hst rfl c7510 rfl) ?_; intro a hst
                              exact hj _ ⟨true, H, hst.keep _ ⟨rfl, rfl, rfl, rfl, rfl, trivial⟩⟩
                            · rw [if_neg c7510] at H
                              replace c7510 := Bool.eq_false_iff.2 c7510
                              refine q_t hst (wt_of 65 rfl rfl c7510) rfl (fun _ hsh => x_move hst rfl) ?_; intro a hst
                              refine q_t hst (wt_of 65 rfl rfl c7510) rfl (fun _ hsh => x_cmpI (b := decide (0 < i_1140)) hst rfl rfl rfl) ?_; intro a hst
                              refine q_t hst (wt_of 65 rfl rfl c7510) rfl (fun _ hsh => x_move hst rfl) ?_; intro a hst
                              refine q_join0 (N := Try.f68.ntmps) 33 [(0, va0), (2, .bool false), (3, .int .i64 i_804), (4, .int .i64 i_1140), (65, .bool b_1190), (71, .bool ((decide (0 < i_1140)) && (decide (0 < i_804))))] ?_ ?_
                              · intro a hst
                                refine q_t hst (wt_of 65 rfl rfl c7510) rfl (fun _ hsh => x_move hst rfl) ?_; intro a hst
                                obtain ⟨J_1203, hJ_1203, H⟩ := Jn.elim H
                                refine q_join 53 (fun a => ∃ (b_1202 : Bool), J_1203 b_1202 = some r ∧ ST Try.f68.ntmps a [(0, va0), (2, .bool false), (3, .int .i64 i_804), (4, .int .i64 i_1140), (65, .bool b_1190), (91, .bool b_1202)]) ?_ ?_
                                · rintro a ⟨b_1202, H, hst⟩
                                  subst hJ_1203
                                  dsimp only at H
                                  refine q_t hst trivial rfl (fun _ hsh => x_pickF hst rfl c7510 rfl) ?_; intro a hst
                                  exact hj _ ⟨b_1202, H, hst.keep _ ⟨rfl, rfl, rfl, rfl, rfl, trivial⟩⟩
                                · intro hj
                                  by_cases c7540 : ((decide (0 < i_1140)) && (decide (0 < i_804))) = true
                                  · rw [if_pos c7540] at H
                                    refine q_t hst (wt_of 72 rfl rfl c7540) rfl (fun _ hsh => x_move hst rfl) ?_; intro a hst
                                    refine q_t hst (wt_of 72 rfl rfl c7540) rfl (fun _ hsh => x_move hst rfl) ?_; intro a hst
                                    obtain ⟨x7553, hx7553, H⟩ := Option.bind_eq_some_iff.1 H
                                    refine q_t hst (wt_of 72 rfl rfl c7540) rfl (fun _ hsh => x_indexAddr hst Try.underlying23 el_31 rfl rfl hra0 hx7553) ?_; intro a hst
                                    obtain ⟨_, hk7554, hc7555⟩ := RD.cells2 hra0 hx7553
                                    obtain ⟨v7556, rfl, hr7557⟩ := hk7554
                                    refine q_t hst (wt_of 72 rfl rfl c7540) rfl (fun _ hsh => x_loadC hst sc_31 rfl (hc7555 _ (Same.sh0 hsa0 hsh) 0 _ rfl)) ?_; intro a hst
                                    refine q_t hst (wt_of 72 rfl rfl c7540) rfl (fun _ hsh => x_move hst rfl) ?_; intro a hst
                                    refine q_t hst (wt_of 72 rfl rfl c7540) rfl (fun _ hsh => x_arI (r := w64 (i_1140 - 1)) hst rfl rfl rfl) ?_; intro a hst
                                    obtain ⟨x7558, hx7558, H⟩ := Option.bind_eq_some_iff.1 H
                                    refine q_t hst (wt_of 72 rfl rfl c7540) rfl (fun _ hsh => x_indexAddr hst Try.underlying31 el_43 rfl rfl hr7557 hx7558) ?_; intro a hst
                                    refine q_t hst (wt_of 72 rfl rfl c7540) rfl (fun _ hsh => x_fieldAddrE (n' := Int.toNat (w64 (i_1140 - 1)) * k_File.sz + 3) hst fa_43_3 rfl rfl) ?_; intro a hst
                                    refine q_t hst (wt_of 72 rfl rfl c7540) rfl (fun _ hsh => x_loadEF (j := 3) (cs := [.int .i64 x7558.Number, .int .i64 x7558.Size, .string x7558.Least, .string x7558.Limit, .int .u64 x7558.Low, .int .u64 x7558.High]) hst sc_9 rfl hr7557 (Same.sh0 hsa0 hsh) hx7558 rfl (fun _ h => h) rfl) ?_; intro a hst
                                    refine q_t hst (wt_of 72 rfl rfl c7540) rfl (fun _ hsh => x_move hst rfl) ?_; intro a hst
                                    refine q_t hst (wt_of 72 rfl rfl c7540) rfl (fun _ hsh => x_move hst rfl) ?_; intro a hst
                                    obtain ⟨x7559, hx7559, H⟩ := Option.bind_eq_some_iff.1 H
                                    refine q_t hst (wt_of 72 rfl rfl c7540) rfl (fun _ hsh => x_indexAddr hst Try.underlying23 el_31 rfl rfl hra0 hx7559) ?_; intro a hst
                                    obtain ⟨_, hk7560, hc7561⟩ := RD.cells2 hra0 hx7559
                                    obtain ⟨v7562, rfl, hr7563⟩ := hk7560
                                    refine q_t hst (wt_of 72 rfl rfl c7540) rfl (fun _ hsh => x_loadC hst sc_31 rfl (hc7561 _ (Same.sh0 hsa0 hsh) 0 _ rfl)) ?_; intro a hst
                                    refine q_t hst (wt_of 72 rfl rfl c7540) rfl (fun _ hsh => x_move hst rfl) ?_; intro a hst
                                    obtain ⟨x7564, hx7564, H⟩ := Option.bind_eq_some_iff.1 H
                                    refine q_t hst (wt_of 72 rfl rfl c7540) rfl (fun _ hsh => x_indexAddr hst Try.underlying31 el_43 rfl rfl hr7563 hx7564) ?_; intro a hst
                                    refine q_t hst (wt_of 72 rfl rfl c7540) rfl (fun _ hsh => x_fieldAddrE (n' := Int.toNat i_1140 * k_File.sz + 2) hst fa_43_2 rfl rfl) ?_; intro a hst
                                    refine q_t hst (wt_of 72 rfl rfl c7540) rfl (fun _ hsh => x_loadEF (j := 2) (cs := [.int .i64 x7564.Number, .int .i64 x7564.Size, .string x7564.Least, .string x7564.Limit, .int .u64 x7564.Low, .int .u64 x7564.High]) hst sc_9 rfl hr7563 (Same.sh0 hsa0 hsh) hx7564 rfl (fun _ h => h) rfl) ?_; intro a hst
                                    refine q_t hst (wt_of 72 rfl rfl c7540) rfl (fun _ hsh => x_cmpS (b := (!(sLt x7558.Limit x7564.Least || sEq x7558.Limit x7564.Least))) hst rfl rfl rfl) ?_; intro a hst
                                    refine q_t hst (wt_of 65 rfl rfl c7510) rfl (fun _ hsh => x_pickT hst rfl c7540 rfl) ?_; intro a hst
                                    exact hj _ ⟨(!(sLt x7558.Limit x7564.Least || sEq x7558.Limit x7564.Least)), H, hst.keep _ ⟨rfl, rfl, rfl, rfl, rfl, rfl, trivial⟩⟩
                                  · rw [if_neg c7540] at H
                                    replace c7540 := Bool.eq_false_iff.2 c7540
                                    refine q_not hst 72 rfl rfl c7540 rfl ?_; intro a hst
                                    refine q_not hst 72 rfl rfl c7540 rfl ?_; intro a hst
                                    refine q_not hst 72 rfl rfl c7540 rfl ?_; intro a hst
                                    refine q_not hst 72 rfl rfl c7540 rfl ?_; intro a hst
                                    refine q_not hst 72 rfl rfl c7540 rfl ?_; intro a hst
                                    refine q_not hst 72 rfl rfl c7540 rfl ?_; intro a hst
                                    refine q_not hst 72 rfl rfl c7540 rfl ?_; intro a hst
                                    refine q_not hst 72 rfl rfl c7540 rfl ?_; intro a hst
                                    refine q_not hst 72 rfl rfl c7540 rfl ?_; intro a hst
                                    refine q_not hst 72 rfl rfl c7540 rfl ?_; intro a hst
                                    refine q_not hst 72 rfl rfl c7540 rfl ?_; intro a hst
                                    refine q_not hst 72 rfl rfl c7540 rfl ?_; intro a hst
                                    refine q_not hst 72 rfl rfl c7540 rfl ?_; intro a hst
                                    refine q_not hst 72 rfl rfl c7540 rfl ?_; intro a hst
                                    refine q_not hst 72 rfl rfl c7540 rfl ?_; intro a hst
                                    refine q_not hst 72 rfl rfl c7540 rfl ?_; intro a hst
                                    refine q_not hst 72 rfl rfl c7540 rfl ?_; intro a hst
                                    refine q_not hst 72 rfl rfl c7540 rfl ?_; intro a hst
                                    refine q_t hst (wt_of 65 rfl rfl c7510) rfl (fun _ hsh => x_pickF hst rfl c7540 rfl) ?_; intro a hst
                                    exact hj _ ⟨false, H, hst.keep _ ⟨rfl, rfl, rfl, rfl, rfl, rfl, trivial⟩⟩
                              · intro hj
                                by_cases c7539 : (decide (0 < i_1140)) = true
                                · refine q_t hst (wt_of 68 rfl rfl c7539) rfl (fun _ hsh => x_move hst rfl) ?_; intro a hst
                                  refine q_t hst (wt_of 68 rfl rfl c7539) rfl (fun _ hsh => x_cmpI (b := decide (0 < i_804)) hst rfl rfl rfl) ?_; intro a hst
                                  refine q_t hst (wt_of 65 rfl rfl c7510) rfl (fun _ hsh => x_andT hst rfl c7539 rfl) ?_; intro a hst
                                  exact hj _ (hst.keep _ ⟨rfl, rfl, rfl, rfl, rfl, rfl, trivial⟩)
                                · replace c7539 := Bool.eq_false_iff.2 c7539
                                  refine q_not hst 68 rfl rfl c7539 rfl ?_; intro a hst
                                  refine q_not hst 68 rfl rfl c7539 rfl ?_; intro a hst
                                  refine q_t hst (wt_of 65 rfl rfl c7510) rfl (fun _ hsh => x_andF (decide (0 < i_804)) hst rfl c7539 rfl) ?_; intro a hst
                                  exact hj _ (hst.keep _ ⟨rfl, rfl, rfl, rfl, rfl, rfl, trivial⟩)
                        · intro hj
                          by_cases c7497 : ((decide (0 < i_1140)) && (i_804 == 0)) = true
                          · rw [if_pos c7497] at H
                            refine q_t hst (wt_of 45 rfl rfl c7497) rfl (fun _ hsh => x_move hst rfl) ?_; intro a hst
                            refine q_t hst (wt_of 45 rfl rfl c7497) rfl (fun _ hsh => x_move hst rfl) ?_; intro a hst
                            obtain ⟨x7565, hx7565, H⟩ := Option.bind_eq_some_iff.1 H
                            refine q_t hst (wt_of 45 rfl rfl c7497) rfl (fun _ hsh => x_indexAddr hst Try.underlying23 el_31 rfl rfl hra0 hx7565) ?_; intro a hst
                            obtain ⟨_, hk7566, hc7567⟩ := RD.cells2 hra0 hx7565
                            obtain ⟨v7568, rfl, hr7569⟩ := hk7566
                            refine q_t hst (wt_of 45 rfl rfl c7497) rfl (fun _ hsh => x_loadC hst sc_31 rfl (hc7567 _ (Same.sh0 hsa0 hsh) 0 _ rfl)) ?_; intro a hst
                            refine q_t hst (wt_of 45 rfl rfl c7497) rfl (fun _ hsh => x_move hst rfl) ?_; intro a hst
                            refine q_t hst (wt_of 45 rfl rfl c7497) rfl (fun _ hsh => x_arI (r := w64 (i_1140 - 1)) hst rfl rfl rfl) ?_; intro a hst
                            obtain ⟨x7570, hx7570, H⟩ := Option.bind_eq_some_iff.1 H
                            refine q_t hst (wt_of 45 rfl rfl c7497) rfl (fun _ hsh => x_indexAddr hst Try.underlying31 el_43 rfl rfl hr7569 hx7570) ?_; intro a hst
                            refine q_t hst (wt_of 45 rfl rfl c7497) rfl (fun _ hsh => x_fieldAddrE (n' := Int.toNat (w64 (i_1140 - 1)) * k_File.sz) hst fa_43_0 rfl rfl) ?_; intro a hst
                            refine q_t hst (wt_of 45 rfl rfl c7497) rfl (fun _ hsh => x_loadEF (j := 0) (cs := [.int .i64 x7570.Number, .int .i64 x7570.Size, .string x7570.Least, .string x7570.Limit, .int .u64 x7570.Low, .int .u64 x7570.High]) hst sc_3 rfl hr7569 (Same.sh0 hsa0 hsh) hx7570 rfl (fun _ h => h) rfl) ?_; intro a hst
                            refine q_t hst (wt_of 45 rfl rfl c7497) rfl (fun _ hsh => x_move hst rfl) ?_; intro a hst
                            refine q_t hst (wt_of 45 rfl rfl c7497) rfl (fun _ hsh => x_move hst rfl) ?_; intro a hst
                            obtain ⟨x7571, hx7571, H⟩ := Option.bind_eq_some_iff.1 H
                            refine q_t hst (wt_of 45 rfl rfl c7497) rfl (fun _ hsh => x_indexAddr hst Try.underlying23 el_31 rfl rfl hra0 hx7571) ?_; intro a hst
                            obtain ⟨_, hk7572, hc7573⟩ := RD.cells2 hra0 hx7571
                            obtain ⟨v7574, rfl, hr7575⟩ := hk7572
                            refine q_t hst (wt_of 45 rfl rfl c7497) rfl (fun _ hsh => x_loadC hst sc_31 rfl (hc7573 _ (Same.sh0 hsa0 hsh) 0 _ rfl)) ?_; intro a hst
                            refine q_t hst (wt_of 45 rfl rfl c7497) rfl (fun _ hsh => x_move hst rfl) ?_; intro a hst
                            obtain ⟨x7576, hx7576, H⟩ := Option.bind_eq_some_iff.1 H
                            refine q_t hst (wt_of 45 rfl rfl c7497) rfl (fun _ hsh => x_indexAddr hst Try.underlying31 el_43 rfl rfl hr7575 hx7576) ?_; intro a hst
                            refine q_t hst (wt_of 45 rfl rfl c7497) rfl (fun _ hsh => x_fieldAddrE (n' := Int.toNat i_1140 * k_File.sz) hst fa_43_0 rfl rfl) ?_; intro a hst
                            refine q_t hst (wt_of 45 rfl rfl c7497) rfl (fun _ hsh => x_loadEF (j := 0) (cs := [.int .i64 x7576.Number, .int .i64 x7576.Size, .string x7576.Least, .string x7576.Limit, .int .u64 x7576.Low, .int .u64 x7576.High]) hst sc_3 rfl hr7575 (Same.sh0 hsa0 hsh) hx7576 rfl (fun _ h => h) rfl) ?_; intro a hst
                            refine q_t hst (wt_of 45 rfl rfl c7497) rfl (fun _ hsh => x_cmpI (b := decide (x7576.Number ≤ x7570.Number)) hst rfl rfl rfl) ?_; intro a hst
                            refine q_t hst trivial rfl (fun _ hsh => x_pickT hst rfl c7497 rfl) ?_; intro a hst
                            exact hj _ ⟨(decide (x7576.Number ≤ x7570.Number)), H, hst.keep _ ⟨rfl, rfl, rfl, rfl, rfl, trivial⟩⟩
                          · rw [if_neg c7497] at H
                            replace c7497 := Bool.eq_false_iff.2 c7497
                            refine q_not hst 45 rfl rfl c7497 rfl ?_; intro a hst
                            refine q_not hst 45 rfl rfl c7497 rfl ?_; intro a hst
                            refine q_not hst 45 rfl rfl c7497 rfl ?_; intro a hst
                            refine q_not hst 45 rfl rfl c7497 rfl ?_; intro a hst
                            refine q_not hst 45 rfl rfl c7497 rfl ?_; intro a hst
                            refine q_not hst 45 rfl rfl c7497 rfl ?_; intro a hst
                            refine q_not hst 45 rfl rfl c7497 rfl ?_; intro a hst
                            refine q_not hst 45 rfl rfl c7497 rfl ?_; intro a hst
                            refine q_not hst 45 rfl rfl c7497 rfl ?_; intro a hst
                            refine q_not hst 45 rfl rfl c7497 rfl ?_; intro a hst
                            refine q_not hst 45 rfl rfl c7497 rfl ?_; intro a hst
                            refine q_not hst 45 rfl rfl c7497 rfl ?_; intro a hst
                            refine q_not hst 45 rfl rfl c7497 rfl ?_; intro a hst
                            refine q_not hst 45 rfl rfl c7497 rfl ?_; intro a hst
                            refine q_not hst 45 rfl rfl c7497 rfl ?_; intro a hst
                            refine q_not hst 45 rfl rfl c7497 rfl ?_; intro a hst
                            refine q_not hst 45 rfl rfl c7497 rfl ?_; intro a hst
                            refine q_not hst 45 rfl rfl c7497 rfl ?_; intro a hst
                            refine q_t hst trivial rfl (fun _ hsh => x_pickF hst rfl c7497 rfl) ?_; intro a hst
                            exact hj _ ⟨false, H, hst.keep _ ⟨rfl, rfl, rfl, rfl, rfl, trivial⟩⟩
                      · intro hj
                        by_cases c7496 : (decide (0 < i_1140)) = true
                        · refine q_t hst (wt_of 41 rfl rfl c7496) rfl (fun _ hsh => x_move hst rfl) ?_; intro a hst
                          refine q_t hst (wt_of 41 rfl rfl c7496) rfl (fun _ hsh => x_cmpI (b := (i_804 == 0)) hst rfl rfl rfl) ?_; intro a hst
                          refine q_t hst trivial rfl (fun _ hsh => x_andT hst rfl c7496 rfl) ?_; intro a hst
                          exact hj _ (hst.keep _ ⟨rfl, rfl, rfl, rfl, rfl, trivial⟩)
                        · replace c7496 := Bool.eq_false_iff.2 c7496
                          refine q_not hst 41 rfl rfl c7496 rfl ?_; intro a hst
                          refine q_not hst 41 rfl rfl c7496 rfl ?_; intro a hst
                          refine q_t hst trivial rfl (fun _ hsh => x_andF (i_804 == 0) hst rfl c7496 rfl) ?_; intro a hst
                          exact hj _ (hst.keep _ ⟨rfl, rfl, rfl, rfl, rfl, trivial⟩)
                  · rw [if_neg c7378] at H
                    replace c7378 := Bool.eq_false_iff.2 c7378
                    refine wp_condF hst rfl c7378 ?_
                    refine wp_exit ?_
                    refine then_exit ?_
                    refine then_exit ?_
                    refine block_hit ?_
                    refine block_normal ?_
                    refine then_normal ?_
                    exact ⟨H, hst.keep _ ⟨rfl, rfl, rfl, trivial⟩, hsh.pick []⟩
          · rw [if_neg c6316] at H
            replace c6316 := Bool.eq_false_iff.2 c6316
            refine wp_condF hst rfl c6316 ?_
            refine wp_exit ?_
            refine then_exit ?_
            refine then_exit ?_
            refine block_hit ?_
            refine then_normal ?_
            refine wp_seq ?_
            refine wp_region_lit ?_
            refine r_t hst trivial rfl (x_move hst rfl) ?_; intro a hst
            obtain ⟨r7577, hr7577, H⟩ := Option.bind_eq_some_iff.1 H
            refine r_callD hst trivial rfl fn_78 rfl (r16_numbers.calls k_1006 _ _ _ _ (Same.sh0 hsa0 hsh) _ hra0 r7577 hr7577) ?_
            rintro e w7578 ⟨v7579, rfl, hc⟩
            replace hsh := hsh.call0 hc
            clear hc
            refine ⟨_, rfl, fun a hst => ?_⟩
            refine r_t hst trivial rfl (x_assign hst rfl) ?_; intro a hst
            refine wpList_nil ?_
            refine then_normal ?_
            obtain ⟨J_1214, hJ_1214, H⟩ := Jn.elim H
            refine wp_cut (fun a w' => J_1214 = some r ∧ ST Try.f68.ntmps a [(2, .bool false)] ∧ SH (fun _ => False) w w' []) ?_ ?_
            · rintro a W_1213 ⟨H, hst, hsh⟩
              subst hJ_1214
              refine wp_seq ?_
              refine wp_region_lit ?_
              refine r_t hst trivial rfl (x_assign hst rfl) ?_; intro a hst
              refine wpList_nil ?_
              refine then_normal ?_
              refine wp_ret ?_
              obtain rfl := Option.some.inj H
              exact ret1 hst rfl rfl ⟨rfl, hsh.pick []⟩
            · refine wp_seq ?_
              refine wp_region_lit ?_
              refine r_t hst trivial rfl (x_assign hst rfl) ?_; intro a hst
              refine wpList_nil ?_
              refine then_normal ?_
              refine wp_block ?_
              refine wp_loop_fuel (fun k_1222 a w' => ∃ (i_1218 : Int), r16_Valid.l2 r7577 J_1214 k_1222 i_1218 = some r ∧ ST Try.f68.ntmps a [(2, .bool false), (5, v7579), (6, .int .i64 i_1218)] ∧ SH (fun _ => False) w w' [Row (Kd.int .i64) 3 v7579 r7577]) k_1006 ?_ ?_
              · exact ⟨1, H, hst.keep _ ⟨rfl, rfl, rfl, trivial⟩, hsh.pick [0]⟩
              · rintro k_1222 a W_1219 ⟨i_1218, H, hst, hsh⟩
                cases k_1222 with
                | zero => rw [r16_Valid.l2] at H; cases H
                | succ k_1222 =>
                  rw [r16_Valid.l2] at H
                  refine wp_seq ?_
                  refine wp_seq ?_
                  refine wp_region_lit ?_
                  refine r_t hst trivial rfl (x_move hst rfl) ?_; intro a hst
                  refine r_t hst trivial rfl (x_move hst rfl) ?_; intro a hst
                  refine r_t hst trivial rfl (x_lenSl hst Try.underlying26 rfl (hsh.row 0 rfl).slen) ?_; intro a hst
                  refine r_t hst trivial rfl (x_cmpI (b := decide (i_1218 < (r7577.length : Int))) hst rfl rfl rfl) ?_; intro a hst
                  refine wpList_nil ?_
                  refine then_normal ?_
                  by_cases c7632 : (decide (i_1218 < (r7577.length : Int))) = true
                  · rw [if_pos c7632] at H
                    refine wp_condT hst rfl c7632 ?_
                    refine wp_skip ?_
                    refine then_normal ?_
                    refine wp_seq ?_
                    refine wp_block ?_
                    refine wp_seq ?_
                    refine wp_region_q (fun w' => SH (fun _ => False) w w' [Row (Kd.int .i64) 3 v7579 r7577]) hsh.drew fo (by kernel_rfl) ?_
                    refine q_t hst trivial rfl (fun _ hsh => x_move hst rfl) ?_; intro a hst
                    refine q_t hst trivial rfl (fun _ hsh => x_move hst rfl) ?_; intro a hst
                    refine q_t hst trivial rfl (fun _ hsh => x_arI (r := w64 (i_1218 - 1)) hst rfl rfl rfl) ?_; intro a hst
                    obtain ⟨x7637, hx7637, H⟩ := Option.bind_eq_some_iff.1 H
                    refine q_t hst trivial rfl (fun _ hsh => x_indexAddr hst Try.underlying26 el_3 rfl rfl (hsh.row 0 rfl) hx7637) ?_; intro a hst
                    refine q_t hst trivial rfl (fun _ hsh => x_loadEF (j := 0) (cs := [.int .i64 x7637]) hst sc_3 rfl (hsh.row 0 rfl) (Same.refl _ _) hx7637 rfl (fun _ h => h) rfl) ?_; intro a hst
                    refine q_t hst trivial rfl (fun _ hsh => x_move hst rfl) ?_; intro a hst
                    refine q_t hst trivial rfl (fun _ hsh => x_move hst rfl) ?_; intro a hst
                    obtain ⟨x7638, hx7638, H⟩ := Option.bind_eq_some_iff.1 H
                    refine q_t hst trivial rfl (fun _ hsh => x_indexAddr hst Try.underlying26 el_3 rfl rfl (hsh.row 0 rfl) hx7638) ?_; intro a hst
                    refine q_t hst trivial rfl (fun _ hsh => x_loadEF (j := 0) (cs := [.int .i64 x7638]) hst sc_3 rfl (hsh.row 0 rfl) (Same.refl _ _) hx7638 rfl (fun _ h => h) rfl) ?_; intro a hst
                    refine q_t hst trivial rfl (fun _ hsh => x_cmpI (b := (x7637 == x7638)) hst rfl rfl rfl) ?_; intro a hst
                    refine q_nil ?_
                    intro w7639 hsh
                    refine then_normal ?_
                    by_cases c7640 : (x7637 == x7638) = true
                    · rw [if_pos c7640] at H
                      refine wp_condT hst rfl c7640 ?_
                      refine wp_seq ?_
                      refine wp_region_lit ?_
                      refine r_t hst trivial rfl (x_assign hst rfl) ?_; intro a hst
                      refine wpList_nil ?_
                      refine then_normal ?_
                      refine wp_ret ?_
                      refine block_ret ?_
                      refine then_ret ?_
                      refine then_ret ?_
                      refine block_ret ?_
                      refine then_ret ?_
                      obtain rfl := Option.some.inj H
                      exact ret1 hst rfl rfl ⟨rfl, hsh.pick []⟩
                    · rw [if_neg c7640] at H
                      replace c7640 := Bool.eq_false_iff.2 c7640
                      refine wp_condF hst rfl c7640 ?_
                      refine wp_skip ?_
                      refine block_normal ?_
                      refine then_normal ?_
                      refine wp_region_lit ?_
                      refine r_t hst trivial rfl (x_move hst rfl) ?_; intro a hst
                      refine r_t hst trivial rfl (x_arI (r := w64 (i_1218 + 1)) hst rfl rfl rfl) ?_; intro a hst
                      refine r_t hst trivial rfl (x_assign hst rfl) ?_; intro a hst
                      refine wpList_nil ?_
                      refine then_normal ?_
                      exact ⟨k_1222, Nat.lt_succ_self _, (w64 (i_1218 + 1)), H, hst.keep _ ⟨rfl, rfl, rfl, trivial⟩, hsh.pick [0]⟩
                  · rw [if_neg c7632] at H
                    replace c7632 := Bool.eq_false_iff.2 c7632
                    refine wp_condF hst rfl c7632 ?_
                    refine wp_exit ?_
                    refine then_exit ?_
                    refine then_exit ?_
                    refine block_hit ?_
                    refine then_normal ?_
                    exact ⟨H, hst.keep _ ⟨rfl, trivial⟩, hsh.pick []⟩
  · intro hj
    by_cases c3 : (decide ((a0.length : Int) < 1)) = true
    · refine r_not hst 10 rfl rfl c3 rfl ?_; intro a hst
      refine r_not hst 10 rfl rfl c3 rfl ?_; intro a hst
      refine r_not hst 10 rfl rfl c3 rfl ?_; intro a hst
      refine r_t hst trivial rfl (x_orT (decide (7 < (a0.length : Int))) hst rfl c3 rfl) ?_; intro a hst
      exact hj _ (hst.keep _ ⟨rfl, rfl, rfl, trivial⟩)
    · replace c3 := Bool.eq_false_iff.2 c3
      refine r_t hst (wt_of 10 rfl rfl c3) rfl (x_move hst rfl) ?_; intro a hst
      refine r_t hst (wt_of 10 rfl rfl c3) rfl (x_lenSl hst Try.underlying23 rfl hra0.slen) ?_; intro a hst
      refine r_t hst (wt_of 10 rfl rfl c3) rfl (x_cmpI (b := decide (7 < (a0.length : Int))) hst rfl rfl rfl) ?_; intro a hst
      refine r_t hst trivial rfl (x_orF hst rfl c3 rfl) ?_; intro a hst
      exact hj _ (hst.keep _ ⟨rfl, rfl, rfl, trivial⟩)

set_option maxHeartbeats 4000000 in
set_option maxRecDepth 100000 in
theorem r22_rates.calls (w : World) (a0 : Config) (va0_0 : Value) (Za0_0 : Nat → Prop) (wra0_0 : World) (hsa0_0 : Same Za0_0 wra0_0 w) (hra0_0 : RD (Kd.int .i64) Za0_0 wra0_0 va0_0 a0.Heights) (r : Bool) (h : r22_rates a0 = some r) :
    Calls Try.prog 69 ([.agg #[.int .i64 a0.Block, .int .i64 a0.Mem, .int .i64 a0.Frozen, .int .i64 a0.Shape.Page, .int .i64 a0.Shape.Restart, .int .i64 a0.Shape.Bits, .int .i64 a0.Cut, .int .i64 a0.Files0, .int .i64 a0.Stop0, .int .i64 a0.Base, .int .i64 a0.Ratio, .int .i64 a0.Levels, .int .i64 a0.Chunk, .int .i64 a0.Roll, .int .i64 a0.Clients, va0_0]] : List Value).toArray w fun e w' => e = .returned (.bool r) ∧ SH (fun _ => False) w w' [] := by
  have H := h
  clear h
  unfold r22_rates at H
  refine calls_enter Try.func69 rfl rfl ?_
  intro a hst
  have hsh := SH.zero (fun _ => False) w
  refine wp_seq ?_
  refine wp_region_lit ?_
  refine r_box hst hsh trivial rfl rfl rfl ?_
  intro g1 a w2 hgg1 hsh hst
  refine r_t hst trivial rfl (x_assign hst rfl) ?_; intro a hst
  refine wpList_nil ?_
  refine then_normal ?_
  refine wp_seq ?_
  refine wp_region_lit ?_
  refine r_t hst trivial rfl (x_fieldAddr (j' := 9) hst fa_28_7 rfl rfl) ?_; intro a hst
  refine r_t hst trivial rfl (x_loadB (i := 0) hst hsh sc_3 rfl rfl rfl) ?_; intro a hst
  refine r_t hst trivial rfl (x_cmpI (b := decide (1 ≤ a0.Base)) hst rfl rfl rfl) ?_; intro a hst
  refine r_t hst trivial rfl (x_move hst rfl) ?_; intro a hst
  refine wl_join0 (N := Try.f69.ntmps) 8 [(1, .pointer (some ⟨g1, 0, none⟩)), (2, .bool false), (10, .bool ((decide (1 ≤ a0.Base)) && (decide (a0.Base ≤ 268435456))))] ?_ ?_
  · intro a hst
    refine r_t hst trivial rfl (x_move hst rfl) ?_; intro a hst
    refine wl_join0 (N := Try.f69.ntmps) 13 [(1, .pointer (some ⟨g1, 0, none⟩)), (2, .bool false), (15, .bool (((decide (1 ≤ a0.Base)) && (decide (a0.Base ≤ 268435456))) && (decide (2 ≤ a0.Ratio))))] ?_ ?_
    · intro a hst
      refine r_t hst trivial rfl (x_move hst rfl) ?_; intro a hst
      refine wl_join0 (N := Try.f69.ntmps) 18 [(2, .bool false), (20, .bool ((((decide (1 ≤ a0.Base)) && (decide (a0.Base ≤ 268435456))) && (decide (2 ≤ a0.Ratio))) && (decide (a0.Ratio ≤ 100))))] ?_ ?_
      · intro a hst
        refine r_t hst trivial rfl (x_assign hst rfl) ?_; intro a hst
        refine wpList_nil ?_
        refine then_normal ?_
        refine wp_ret ?_
        obtain rfl := Option.some.inj H
        exact ret1 hst rfl rfl ⟨rfl, hsh.pick []⟩
      · intro hj
        by_cases c5 : (((decide (1 ≤ a0.Base)) && (decide (a0.Base ≤ 268435456))) && (decide (2 ≤ a0.Ratio))) = true
        · refine r_t hst (wt_of 16 rfl rfl c5) rfl (x_fieldAddr (j' := 10) hst fa_28_8 rfl rfl) ?_; intro a hst
          refine r_t hst (wt_of 16 rfl rfl c5) rfl (x_loadB (i := 0) hst hsh sc_3 rfl rfl rfl) ?_; intro a hst
          refine r_t hst (wt_of 16 rfl rfl c5) rfl (x_cmpI (b := decide (a0.Ratio ≤ 100)) hst rfl rfl rfl) ?_; intro a hst
          refine r_t hst trivial rfl (x_andT hst rfl c5 rfl) ?_; intro a hst
          exact hj _ (hst.keep _ ⟨rfl, rfl, trivial⟩)
        · replace c5 := Bool.eq_false_iff.2 c5
          refine r_not hst 16 rfl rfl c5 rfl ?_; intro a hst
          refine r_not hst 16 rfl rfl c5 rfl ?_; intro a hst
          refine r_not hst 16 rfl rfl c5 rfl ?_; intro a hst
          refine r_t hst trivial rfl (x_andF (decide (a0.Ratio ≤ 100)) hst rfl c5 rfl) ?_; intro a hst
          exact hj _ (hst.keep _ ⟨rfl, rfl, trivial⟩)
    · intro hj
      by_cases c4 : ((decide (1 ≤ a0.Base)) && (decide (a0.Base ≤ 268435456))) = true
      · refine r_t hst (wt_of 11 rfl rfl c4) rfl (x_fieldAddr (j' := 10) hst fa_28_8 rfl rfl) ?_; intro a hst
        refine r_t hst (wt_of 11 rfl rfl c4) rfl (x_loadB (i := 0) hst hsh sc_3 rfl rfl rfl) ?_; intro a hst
        refine r_t hst (wt_of 11 rfl rfl c4) rfl (x_cmpI (b := decide (2 ≤ a0.Ratio)) hst rfl rfl rfl) ?_; intro a hst
        refine r_t hst trivial rfl (x_andT hst rfl c4 rfl) ?_; intro a hst
        exact hj _ (hst.keep _ ⟨rfl, rfl, rfl, trivial⟩)
      · replace c4 := Bool.eq_false_iff.2 c4
        refine r_not hst 11 rfl rfl c4 rfl ?_; intro a hst
        refine r_not hst 11 rfl rfl c4 rfl ?_; intro a hst
        refine r_not hst 11 rfl rfl c4 rfl ?_; intro a hst
        refine r_t hst trivial rfl (x_andF (decide (2 ≤ a0.Ratio)) hst rfl c4 rfl) ?_; intro a hst
        exact hj _ (hst.keep _ ⟨rfl, rfl, rfl, trivial⟩)
  · intro hj
    by_cases c3 : (decide (1 ≤ a0.Base)) = true
    · refine r_t hst (wt_of 6 rfl rfl c3) rfl (x_fieldAddr (j' := 9) hst fa_28_7 rfl rfl) ?_; intro a hst
      refine r_t hst (wt_of 6 rfl rfl c3) rfl (x_loadB (i := 0) hst hsh sc_3 rfl rfl rfl) ?_; intro a hst
      refine r_t hst (wt_of 6 rfl rfl c3) rfl (x_cmpI (b := decide (a0.Base ≤ 268435456)) hst rfl rfl rfl) ?_; intro a hst
      refine r_t hst trivial rfl (x_andT hst rfl c3 rfl) ?_; intro a hst
      exact hj _ (hst.keep _ ⟨rfl, rfl, rfl, trivial⟩)
    · replace c3 := Bool.eq_false_iff.2 c3
      refine r_not hst 6 rfl rfl c3 rfl ?_; intro a hst
      refine r_not hst 6 rfl rfl c3 rfl ?_; intro a hst
      refine r_not hst 6 rfl rfl c3 rfl ?_; intro a hst
      refine r_t hst trivial rfl (x_andF (decide (a0.Base ≤ 268435456)) hst rfl c3 rfl) ?_; intro a hst
      exact hj _ (hst.keep _ ⟨rfl, rfl, rfl, trivial⟩)

set_option maxHeartbeats 4000000 in
set_option maxRecDepth 100000 in
theorem r22_May.calls (k : Nat) (w : World) (va0 : Value) (Za0 : Nat → Prop) (wra0 : World) (hsa0 : Same Za0 wra0 w) (a0 : (List (List File))) (hra0 : RD (Kd.slice 43 k_File) Za0 wra0 va0 a0) (a1 : Config) (va1_0 : Value) (Za1_0 : Nat → Prop) (wra1_0 : World) (hsa1_0 : Same Za1_0 wra1_0 w) (hra1_0 : RD (Kd.int .i64) Za1_0 wra1_0 va1_0 a1.Heights) (r : Bool) (h : r22_May k a0 a1 = some r) :
    Calls Try.prog 54 ([va0, .agg #[.int .i64 a1.Block, .int .i64 a1.Mem, .int .i64 a1.Frozen, .int .i64 a1.Shape.Page, .int .i64 a1.Shape.Restart, .int .i64 a1.Shape.Bits, .int .i64 a1.Cut, .int .i64 a1.Files0, .int .i64 a1.Stop0, .int .i64 a1.Base, .int .i64 a1.Ratio, .int .i64 a1.Levels, .int .i64 a1.Chunk, .int .i64 a1.Roll, .int .i64 a1.Clients, va1_0]] : List Value).toArray w fun e w' => e = .returned (.bool r) ∧ SH (fun _ => False) w w' [] := by
  have H := h
  clear h
  unfold r22_May at H
  refine calls_enter Try.func54 rfl rfl ?_
  intro a hst
  have hsh := SH.zero (fun _ => False) w
  refine wp_seq ?_
  refine wp_region_lit ?_
  refine r_box hst hsh trivial rfl rfl rfl ?_
  intro g1 a w2 hgg1 hsh hst
  refine r_t hst trivial rfl (x_assign hst rfl) ?_; intro a hst
  refine wpList_nil ?_
  refine then_normal ?_
  refine wp_seq ?_
  refine wp_region_lit ?_
  refine r_t hst trivial rfl (x_move hst rfl) ?_; intro a hst
  obtain ⟨r3, hr3, H⟩ := Option.bind_eq_some_iff.1 H
  refine r_callD hst trivial rfl fn_68 rfl (r16_Valid.calls k _ _ _ _ (Same.sh0 hsa0 hsh) _ hra0 r3 hr3) ?_
  rintro e w4 ⟨rfl, hc⟩
  replace hsh := hsh.call0 hc
  clear hc
  refine ⟨_, rfl, fun a hst => ?_⟩
  refine r_t hst trivial rfl (x_move hst rfl) ?_; intro a hst
  refine wl_join0 (N := Try.f54.ntmps) 9 [(3, .pointer (some ⟨g1, 0, none⟩)), (4, .bool false), (13, .bool (r3 && (a1.Levels == (a0.length : Int))))] ?_ ?_
  · intro a hst
    refine r_t hst trivial rfl (x_move hst rfl) ?_; intro a hst
    refine wl_join0 (N := Try.f54.ntmps) 14 [(3, .pointer (some ⟨g1, 0, none⟩)), (4, .bool false), (18, .bool ((r3 && (a1.Levels == (a0.length : Int))) && (decide (2 ≤ a1.Levels))))] ?_ ?_
    · intro a hst
      refine r_t hst trivial rfl (x_move hst rfl) ?_; intro a hst
      refine wl_join0 (N := Try.f54.ntmps) 19 [(3, .pointer (some ⟨g1, 0, none⟩)), (4, .bool false), (23, .bool (((r3 && (a1.Levels == (a0.length : Int))) && (decide (2 ≤ a1.Levels))) && (decide (1 ≤ a1.Files0))))] ?_ ?_
      · intro a hst
        refine r_t hst trivial rfl (x_move hst rfl) ?_; intro a hst
        refine wl_join0 (N := Try.f54.ntmps) 24 [(3, .pointer (some ⟨g1, 0, none⟩)), (4, .bool false), (28, .bool ((((r3 && (a1.Levels == (a0.length : Int))) && (decide (2 ≤ a1.Levels))) && (decide (1 ≤ a1.Files0))) && (decide (1 ≤ a1.Cut))))] ?_ ?_
        · intro a hst
          refine r_t hst trivial rfl (x_move hst rfl) ?_; intro a hst
          obtain ⟨J_2, hJ_2, H⟩ := Jn.elim H
          refine wl_join 28 (fun a w' => ∃ (b_1 : Bool), J_2 b_1 = some r ∧ ST Try.f54.ntmps a [(4, .bool false), (32, .bool b_1)] ∧ SH (fun _ => False) w w' []) ?_ ?_
          · rintro a W_3 ⟨b_1, H, hst, hsh⟩
            subst hJ_2
            dsimp only at H
            refine r_t hst trivial rfl (x_assign hst rfl) ?_; intro a hst
            refine wpList_nil ?_
            refine then_normal ?_
            refine wp_ret ?_
            obtain rfl := Option.some.inj H
            exact ret1 hst rfl rfl ⟨rfl, hsh.pick []⟩
          · intro hj
            by_cases c9 : ((((r3 && (a1.Levels == (a0.length : Int))) && (decide (2 ≤ a1.Levels))) && (decide (1 ≤ a1.Files0))) && (decide (1 ≤ a1.Cut))) = true
            · rw [if_pos c9] at H
              refine r_t hst (wt_of 29 rfl rfl c9) rfl (x_loadBs (i := 0) (ps := [.int .i64 a1.Block, .int .i64 a1.Mem, .int .i64 a1.Frozen, .int .i64 a1.Shape.Page, .int .i64 a1.Shape.Restart, .int .i64 a1.Shape.Bits, .int .i64 a1.Cut, .int .i64 a1.Files0, .int .i64 a1.Stop0, .int .i64 a1.Base, .int .i64 a1.Ratio, .int .i64 a1.Levels, .int .i64 a1.Chunk, .int .i64 a1.Roll, .int .i64 a1.Clients, va1_0]) hst hsh ag_28 rfl rfl rfl) ?_; intro a hst
              obtain ⟨r12, hr12, H⟩ := Option.bind_eq_some_iff.1 H
              refine r_callD hst (wt_of 29 rfl rfl c9) rfl fn_69 rfl (r22_rates.calls _ a1 _ _ _ (Same.sh0 hsa1_0 hsh) hra1_0 r12 hr12) ?_
              rintro e w13 ⟨rfl, hc⟩
              replace hsh := hsh.call0 hc
              clear hc
              refine ⟨_, rfl, fun a hst => ?_⟩
              refine r_t hst trivial rfl (x_pickT hst rfl c9 rfl) ?_; intro a hst
              exact hj _ _ ⟨r12, H, hst.keep _ ⟨rfl, rfl, trivial⟩, hsh.pick []⟩
            · rw [if_neg c9] at H
              replace c9 := Bool.eq_false_iff.2 c9
              refine r_not hst 29 rfl rfl c9 rfl ?_; intro a hst
              refine r_not hst 29 rfl rfl c9 rfl ?_; intro a hst
              refine r_t hst trivial rfl (x_pickF hst rfl c9 rfl) ?_; intro a hst
              exact hj _ _ ⟨false, H, hst.keep _ ⟨rfl, rfl, trivial⟩, hsh.pick []⟩
        · intro hj
          by_cases c8 : (((r3 && (a1.Levels == (a0.length : Int))) && (decide (2 ≤ a1.Levels))) && (decide (1 ≤ a1.Files0))) = true
          · refine r_t hst (wt_of 24 rfl rfl c8) rfl (x_fieldAddr (j' := 6) hst fa_28_4 rfl rfl) ?_; intro a hst
            refine r_t hst (wt_of 24 rfl rfl c8) rfl (x_loadB (i := 0) hst hsh sc_3 rfl rfl rfl) ?_; intro a hst
            refine r_t hst (wt_of 24 rfl rfl c8) rfl (x_cmpI (b := decide (1 ≤ a1.Cut)) hst rfl rfl rfl) ?_; intro a hst
            refine r_t hst trivial rfl (x_andT hst rfl c8 rfl) ?_; intro a hst
            exact hj _ (hst.keep _ ⟨rfl, rfl, rfl, trivial⟩)
          · replace c8 := Bool.eq_false_iff.2 c8
            refine r_not hst 24 rfl rfl c8 rfl ?_; intro a hst
            refine r_not hst 24 rfl rfl c8 rfl ?_; intro a hst
            refine r_not hst 24 rfl rfl c8 rfl ?_; intro a hst
            refine r_t hst trivial rfl (x_andF (decide (1 ≤ a1.Cut)) hst rfl c8 rfl) ?_; intro a hst
            exact hj _ (hst.keep _ ⟨rfl, rfl, rfl, trivial⟩)
      · intro hj
        by_cases c7 : ((r3 && (a1.Levels == (a0.length : Int))) && (decide (2 ≤ a1.Levels))) = true
        · refine r_t hst (wt_of 19 rfl rfl c7) rfl (x_fieldAddr (j' := 7) hst fa_28_5 rfl rfl) ?_; intro a hst
          refine r_t hst (wt_of 19 rfl rfl c7) rfl (x_loadB (i := 0) hst hsh sc_3 rfl rfl rfl) ?_; intro a hst
          refine r_t hst (wt_of 19 rfl rfl c7) rfl (x_cmpI (b := decide (1 ≤ a1.Files0)) hst rfl rfl rfl) ?_; intro a hst
          refine r_t hst trivial rfl (x_andT hst rfl c7 rfl) ?_; intro a hst
          exact hj _ (hst.keep _ ⟨rfl, rfl, rfl, trivial⟩)
        · replace c7 := Bool.eq_false_iff.2 c7
          refine r_not hst 19 rfl rfl c7 rfl ?_; intro a hst
          refine r_not hst 19 rfl rfl c7 rfl ?_; intro a hst
          refine r_not hst 19 rfl rfl c7 rfl ?_; intro a hst
          refine r_t hst trivial rfl (x_andF (decide (1 ≤ a1.Files0)) hst rfl c7 rfl) ?_; intro a hst
          exact hj _ (hst.keep _ ⟨rfl, rfl, rfl, trivial⟩)
    · intro hj
      by_cases c6 : (r3 && (a1.Levels == (a0.length : Int))) = true
      · refine r_t hst (wt_of 14 rfl rfl c6) rfl (x_fieldAddr (j' := 11) hst fa_28_9 rfl rfl) ?_; intro a hst
        refine r_t hst (wt_of 14 rfl rfl c6) rfl (x_loadB (i := 0) hst hsh sc_3 rfl rfl rfl) ?_; intro a hst
        refine r_t hst (wt_of 14 rfl rfl c6) rfl (x_cmpI (b := decide (2 ≤ a1.Levels)) hst rfl rfl rfl) ?_; intro a hst
        refine r_t hst trivial rfl (x_andT hst rfl c6 rfl) ?_; intro a hst
        exact hj _ (hst.keep _ ⟨rfl, rfl, rfl, trivial⟩)
      · replace c6 := Bool.eq_false_iff.2 c6
        refine r_not hst 14 rfl rfl c6 rfl ?_; intro a hst
        refine r_not hst 14 rfl rfl c6 rfl ?_; intro a hst
        refine r_not hst 14 rfl rfl c6 rfl ?_; intro a hst
        refine r_t hst trivial rfl (x_andF (decide (2 ≤ a1.Levels)) hst rfl c6 rfl) ?_; intro a hst
        exact hj _ (hst.keep _ ⟨rfl, rfl, rfl, trivial⟩)
  · intro hj
    by_cases c5 : r3 = true
    · refine r_t hst (wt_of 7 rfl rfl c5) rfl (x_fieldAddr (j' := 11) hst fa_28_9 rfl rfl) ?_; intro a hst
      refine r_t hst (wt_of 7 rfl rfl c5) rfl (x_loadB (i := 0) hst hsh sc_3 rfl rfl rfl) ?_; intro a hst
      refine r_t hst (wt_of 7 rfl rfl c5) rfl (x_move hst rfl) ?_; intro a hst
      refine r_t hst (wt_of 7 rfl rfl c5) rfl (x_lenSl hst Try.underlying23 rfl hra0.slen) ?_; intro a hst
      refine r_t hst (wt_of 7 rfl rfl c5) rfl (x_cmpI (b := (a1.Levels == (a0.length : Int))) hst rfl rfl rfl) ?_; intro a hst
      refine r_t hst trivial rfl (x_andT hst rfl c5 rfl) ?_; intro a hst
      exact hj _ (hst.keep _ ⟨rfl, rfl, rfl, trivial⟩)
    · replace c5 := Bool.eq_false_iff.2 c5
      refine r_not hst 7 rfl rfl c5 rfl ?_; intro a hst
      refine r_not hst 7 rfl rfl c5 rfl ?_; intro a hst
      refine r_not hst 7 rfl rfl c5 rfl ?_; intro a hst
      refine r_not hst 7 rfl rfl c5 rfl ?_; intro a hst
      refine r_not hst 7 rfl rfl c5 rfl ?_; intro a hst
      refine r_t hst trivial rfl (x_andF (a1.Levels == (a0.length : Int)) hst rfl c5 rfl) ?_; intro a hst
      exact hj _ (hst.keep _ ⟨rfl, rfl, rfl, trivial⟩)

set_option maxHeartbeats 4000000 in
set_option maxRecDepth 100000 in
theorem r16_level.calls (k : Nat) (w : World) (va0 : Value) (Za0 : Nat → Prop) (wra0 : World) (hsa0 : Same Za0 wra0 w) (a0 : (List (List File))) (hra0 : RD (Kd.slice 43 k_File) Za0 wra0 va0 a0) (a1 : Int) (r : (List File)) (h : r16_level k a0 a1 = some r) :
    Calls Try.prog 70 ([va0, .int .i64 a1] : List Value).toArray w fun e w' => ∃ v0_ : Value, e = .returned (v0_) ∧ SH (fun _ => False) w w' [] ∧ RD k_File Za0 wra0 v0_ r := by
  have H := h
  clear h
  unfold r16_level at H
  refine calls_enter Try.func70 rfl rfl ?_
  intro a hst
  have hsh := SH.zero (fun _ => False) w
  refine wp_seq ?_
  refine wp_region_lit ?_
  refine r_t hst trivial rfl (x_assign hst rfl) ?_; intro a hst
  refine wpList_nil ?_
  refine then_normal ?_
  refine wp_seq ?_
  refine wp_seq ?_
  refine wp_region_lit ?_
  refine r_t hst trivial rfl (x_move hst rfl) ?_; intro a hst
  obtain ⟨r6, hr6, H⟩ := Option.bind_eq_some_iff.1 H
  refine r_callD hst trivial rfl fn_68 rfl (r16_Valid.calls k _ _ _ _ (Same.sh0 hsa0 hsh) _ hra0 r6 hr6) ?_
  rintro e w7 ⟨rfl, hc⟩
  replace hsh := hsh.call0 hc
  clear hc
  refine ⟨_, rfl, fun a hst => ?_⟩
  refine r_t hst trivial rfl (x_notB hst rfl) ?_; intro a hst
  refine r_t hst trivial rfl (x_move hst rfl) ?_; intro a hst
  refine wl_join0 (N := Try.f70.ntmps) 7 [(0, va0), (1, .int .i64 a1), (4, (.slice none 0 0)), (11, .bool ((!r6) || (decide (a1 < 0))))] ?_ ?_
  · intro a hst
    refine r_t hst trivial rfl (x_move hst rfl) ?_; intro a hst
    refine wl_join0 (N := Try.f70.ntmps) 13 [(0, va0), (1, .int .i64 a1), (4, (.slice none 0 0)), (17, .bool (((!r6) || (decide (a1 < 0))) || (decide ((a0.length : Int) ≤ a1))))] ?_ ?_
    · intro a hst
      refine wpList_nil ?_
      refine then_normal ?_
      by_cases c10 : (((!r6) || (decide (a1 < 0))) || (decide ((a0.length : Int) ≤ a1))) = true
      · rw [if_pos c10] at H
        refine wp_condT hst rfl c10 ?_
        refine wp_seq ?_
        refine wp_region_lit ?_
        refine r_t hst trivial rfl (x_assign hst rfl) ?_; intro a hst
        refine wpList_nil ?_
        refine then_normal ?_
        refine wp_ret ?_
        refine then_ret ?_
        obtain rfl := Option.some.inj H
        exact ret1 hst rfl rfl ⟨(.slice none 0 0), rfl, hsh.pick [], (RD.nil _ _ _)⟩
      · rw [if_neg c10] at H
        replace c10 := Bool.eq_false_iff.2 c10
        refine wp_condF hst rfl c10 ?_
        refine wp_skip ?_
        refine then_normal ?_
        refine wp_seq ?_
        refine wp_region_lit ?_
        refine r_t hst trivial rfl (x_move hst rfl) ?_; intro a hst
        refine r_t hst trivial rfl (x_move hst rfl) ?_; intro a hst
        obtain ⟨x11, hx11, H⟩ := Option.bind_eq_some_iff.1 H
        refine r_t hst trivial rfl (x_indexAddr hst Try.underlying23 el_31 rfl rfl hra0 hx11) ?_; intro a hst
        obtain ⟨_, hk12, hc13⟩ := RD.cells2 hra0 hx11
        obtain ⟨v14, rfl, hr15⟩ := hk12
        refine r_t hst trivial rfl (x_loadC hst sc_31 rfl (hc13 _ (Same.sh0 hsa0 hsh) 0 _ rfl)) ?_; intro a hst
        refine r_t hst trivial rfl (x_assign hst rfl) ?_; intro a hst
        refine wpList_nil ?_
        refine then_normal ?_
        refine wp_ret ?_
        obtain rfl := Option.some.inj H
        exact ret1 hst rfl rfl ⟨v14, rfl, hsh.pick [], hr15⟩
    · intro hj
      by_cases c9 : ((!r6) || (decide (a1 < 0))) = true
      · refine r_not hst 12 rfl rfl c9 rfl ?_; intro a hst
        refine r_not hst 12 rfl rfl c9 rfl ?_; intro a hst
        refine r_not hst 12 rfl rfl c9 rfl ?_; intro a hst
        refine r_not hst 12 rfl rfl c9 rfl ?_; intro a hst
        refine r_t hst trivial rfl (x_orT (decide ((a0.length : Int) ≤ a1)) hst rfl c9 rfl) ?_; intro a hst
        exact hj _ (hst.keep _ ⟨rfl, rfl, rfl, rfl, trivial⟩)
      · replace c9 := Bool.eq_false_iff.2 c9
        refine r_t hst (wt_of 12 rfl rfl c9) rfl (x_move hst rfl) ?_; intro a hst
        refine r_t hst (wt_of 12 rfl rfl c9) rfl (x_move hst rfl) ?_; intro a hst
        refine r_t hst (wt_of 12 rfl rfl c9) rfl (x_lenSl hst Try.underlying23 rfl hra0.slen) ?_; intro a hst
        refine r_t hst (wt_of 12 rfl rfl c9) rfl (x_cmpI (b := decide ((a0.length : Int) ≤ a1)) hst rfl rfl rfl) ?_; intro a hst
        refine r_t hst trivial rfl (x_orF hst rfl c9 rfl) ?_; intro a hst
        exact hj _ (hst.keep _ ⟨rfl, rfl, rfl, rfl, trivial⟩)
  · intro hj
    by_cases c8 : (!r6) = true
    · refine r_not hst 8 rfl rfl c8 rfl ?_; intro a hst
      refine r_not hst 8 rfl rfl c8 rfl ?_; intro a hst
      refine r_t hst trivial rfl (x_orT (decide (a1 < 0)) hst rfl c8 rfl) ?_; intro a hst
      exact hj _ (hst.keep _ ⟨rfl, rfl, rfl, rfl, trivial⟩)
    · replace c8 := Bool.eq_false_iff.2 c8
      refine r_t hst (wt_of 8 rfl rfl c8) rfl (x_move hst rfl) ?_; intro a hst
      refine r_t hst (wt_of 8 rfl rfl c8) rfl (x_cmpI (b := decide (a1 < 0)) hst rfl rfl rfl) ?_; intro a hst
      refine r_t hst trivial rfl (x_orF hst rfl c8 rfl) ?_; intro a hst
      exact hj _ (hst.keep _ ⟨rfl, rfl, rfl, rfl, trivial⟩)

set_option maxHeartbeats 4000000 in
set_option maxRecDepth 100000 in
theorem r16_Size.calls (k : Nat) (w : World) (va0 : Value) (Za0 : Nat → Prop) (wra0 : World) (hsa0 : Same Za0 wra0 w) (a0 : (List (List File))) (hra0 : RD (Kd.slice 43 k_File) Za0 wra0 va0 a0) (a1 : Int) (r : Int) (h : r16_Size k a0 a1 = some r) :
    Calls Try.prog 55 ([va0, .int .i64 a1] : List Value).toArray w fun e w' => e = .returned (.int .i64 r) ∧ SH (fun _ => False) w w' [] := by
  have H := h
  clear h
  unfold r16_Size at H
  refine calls_enter Try.func55 rfl rfl ?_
  intro a hst
  have hsh := SH.zero (fun _ => False) w
  refine wp_seq ?_
  refine wp_region_lit ?_
  refine r_t hst trivial rfl (x_assign hst rfl) ?_; intro a hst
  refine wpList_nil ?_
  refine then_normal ?_
  refine wp_seq ?_
  refine wp_region_lit ?_
  refine r_t hst trivial rfl (x_assign hst rfl) ?_; intro a hst
  refine wpList_nil ?_
  refine then_normal ?_
  refine wp_seq ?_
  refine wp_region_lit ?_
  refine r_t hst trivial rfl (x_move hst rfl) ?_; intro a hst
  refine r_t hst trivial rfl (x_move hst rfl) ?_; intro a hst
  obtain ⟨r1, hr1, H⟩ := Option.bind_eq_some_iff.1 H
  refine r_callD hst trivial rfl fn_70 rfl (r16_level.calls k _ _ _ _ (Same.sh0 hsa0 hsh) _ hra0 a1 r1 hr1) ?_
  rintro e w2 ⟨v3, rfl, hc, hv4⟩
  replace hsh := hsh.call0 hc
  clear hc
  refine ⟨_, rfl, fun a hst => ?_⟩
  refine r_t hst trivial rfl (x_assign hst rfl) ?_; intro a hst
  refine wpList_nil ?_
  refine then_normal ?_
  refine wp_seq ?_
  refine wp_seq ?_
  refine wp_region_lit ?_
  refine r_t hst trivial rfl (x_assign hst rfl) ?_; intro a hst
  refine wpList_nil ?_
  refine then_normal ?_
  refine wp_block ?_
  refine wp_loop_fuel (fun k_22 a w' => ∃ (i_16 : Int), ∃ (i_17 : Int), r16_Size.l0 r1 k_22 i_16 i_17 = some r ∧ ST Try.f55.ntmps a [(4, .int .i64 0), (5, .int .i64 i_16), (6, v3), (7, .int .i64 i_17)] ∧ SH (fun _ => False) w w' []) k ?_ ?_
  · exact ⟨0, 0, H, hst.keep _ ⟨rfl, rfl, rfl, rfl, trivial⟩, hsh.pick []⟩
  · rintro k_22 a W_18 ⟨i_16, i_17, H, hst, hsh⟩
    cases k_22 with
    | zero => rw [r16_Size.l0] at H; cases H
    | succ k_22 =>
      rw [r16_Size.l0] at H
      refine wp_seq ?_
      refine wp_seq ?_
      refine wp_region_lit ?_
      refine r_t hst trivial rfl (x_move hst rfl) ?_; intro a hst
      refine r_t hst trivial rfl (x_move hst rfl) ?_; intro a hst
      refine r_t hst trivial rfl (x_lenSl hst Try.underlying31 rfl hv4.slen) ?_; intro a hst
      refine r_t hst trivial rfl (x_cmpI (b := decide (i_17 < (r1.length : Int))) hst rfl rfl rfl) ?_; intro a hst
      refine wpList_nil ?_
      refine then_normal ?_
      by_cases c26 : (decide (i_17 < (r1.length : Int))) = true
      · rw [if_pos c26] at H
        refine wp_condT hst rfl c26 ?_
        refine wp_skip ?_
        refine then_normal ?_
        refine wp_seq ?_
        refine wp_block ?_
        refine wp_region_lit ?_
        refine r_t hst trivial rfl (x_move hst rfl) ?_; intro a hst
        refine r_t hst trivial rfl (x_move hst rfl) ?_; intro a hst
        refine r_t hst trivial rfl (x_move hst rfl) ?_; intro a hst
        obtain ⟨x28, hx28, H⟩ := Option.bind_eq_some_iff.1 H
        refine r_t hst trivial rfl (x_indexAddr hst Try.underlying31 el_43 rfl rfl hv4 hx28) ?_; intro a hst
        refine r_t hst trivial rfl (x_fieldAddrE (n' := Int.toNat i_17 * k_File.sz + 1) hst fa_43_1 rfl rfl) ?_; intro a hst
        refine r_t hst trivial rfl (x_loadEF (j := 1) (cs := [.int .i64 x28.Number, .int .i64 x28.Size, .string x28.Least, .string x28.Limit, .int .u64 x28.Low, .int .u64 x28.High]) hst sc_3 rfl hv4 (Same.sh0 hsa0 hsh) hx28 rfl (fun _ h => h) rfl) ?_; intro a hst
        refine r_t hst trivial rfl (x_arI (r := w64 (i_16 + x28.Size)) hst rfl rfl rfl) ?_; intro a hst
        refine r_t hst trivial rfl (x_assign hst rfl) ?_; intro a hst
        refine wpList_nil ?_
        refine block_normal ?_
        refine then_normal ?_
        refine wp_region_lit ?_
        refine r_t hst trivial rfl (x_move hst rfl) ?_; intro a hst
        refine r_t hst trivial rfl (x_arI (r := w64 (i_17 + 1)) hst rfl rfl rfl) ?_; intro a hst
        refine r_t hst trivial rfl (x_assign hst rfl) ?_; intro a hst
        refine wpList_nil ?_
        refine then_normal ?_
        exact ⟨k_22, Nat.lt_succ_self _, (w64 (i_16 + x28.Size)), (w64 (i_17 + 1)), H, hst.keep _ ⟨rfl, rfl, rfl, rfl, trivial⟩, hsh.pick []⟩
      · rw [if_neg c26] at H
        replace c26 := Bool.eq_false_iff.2 c26
        refine wp_condF hst rfl c26 ?_
        refine wp_exit ?_
        refine then_exit ?_
        refine then_exit ?_
        refine block_hit ?_
        refine then_normal ?_
        refine wp_seq ?_
        refine wp_region_lit ?_
        refine r_t hst trivial rfl (x_move hst rfl) ?_; intro a hst
        refine r_t hst trivial rfl (x_assign hst rfl) ?_; intro a hst
        refine wpList_nil ?_
        refine then_normal ?_
        refine wp_ret ?_
        obtain rfl := Option.some.inj H
        exact ret1 hst rfl rfl ⟨rfl, hsh.pick []⟩

set_option maxHeartbeats 4000000 in
set_option maxRecDepth 100000 in
theorem r22_Bears.calls (k : Nat) (w : World) (a0 : Config) (va0_0 : Value) (Za0_0 : Nat → Prop) (wra0_0 : World) (hsa0_0 : Same Za0_0 wra0_0 w) (hra0_0 : RD (Kd.int .i64) Za0_0 wra0_0 va0_0 a0.Heights) (a1 : Int) (r : Int) (h : r22_Bears k a0 a1 = some r) :
    Calls Try.prog 56 ([.agg #[.int .i64 a0.Block, .int .i64 a0.Mem, .int .i64 a0.Frozen, .int .i64 a0.Shape.Page, .int .i64 a0.Shape.Restart, .int .i64 a0.Shape.Bits, .int .i64 a0.Cut, .int .i64 a0.Files0, .int .i64 a0.Stop0, .int .i64 a0.Base, .int .i64 a0.Ratio, .int .i64 a0.Levels, .int .i64 a0.Chunk, .int .i64 a0.Roll, .int .i64 a0.Clients, va0_0], .int .i64 a1] : List Value).toArray w fun e w' => e = .returned (.int .i64 r) ∧ SH (fun _ => False) w w' [] := by
  have H := h
  clear h
  unfold r22_Bears at H
  refine calls_enter Try.func56 rfl rfl ?_
  intro a hst
  have hsh := SH.zero (fun _ => False) w
  refine wp_seq ?_
  refine wp_region_lit ?_
  refine r_box hst hsh trivial rfl rfl rfl ?_
  intro g1 a w2 hgg1 hsh hst
  refine r_t hst trivial rfl (x_assign hst rfl) ?_; intro a hst
  refine wpList_nil ?_
  refine then_normal ?_
  refine wp_seq ?_
  refine wp_seq ?_
  refine wp_region_lit ?_
  refine r_t hst trivial rfl (x_move hst rfl) ?_; intro a hst
  refine r_t hst trivial rfl (x_cmpI (b := decide (a1 < 1)) hst rfl rfl rfl) ?_; intro a hst
  refine r_t hst trivial rfl (x_move hst rfl) ?_; intro a hst
  refine wl_join0 (N := Try.f56.ntmps) 6 [(1, .int .i64 a1), (2, .pointer (some ⟨g1, 0, none⟩)), (4, .int .i64 0), (12, .bool ((decide (a1 < 1)) || (decide (7 ≤ a1))))] ?_ ?_
  · intro a hst
    refine r_t hst trivial rfl (x_move hst rfl) ?_; intro a hst
    obtain ⟨J_5, hJ_5, H⟩ := Jn.elim H
    refine wl_join 11 (fun a w' => ∃ (b_4 : Bool), J_5 b_4 = some r ∧ ST Try.f56.ntmps a [(1, .int .i64 a1), (2, .pointer (some ⟨g1, 0, none⟩)), (4, .int .i64 0), (17, .bool b_4)] ∧ SH (fun _ => False) w w' [Box g1 [.int .i64 a0.Block, .int .i64 a0.Mem, .int .i64 a0.Frozen, .int .i64 a0.Shape.Page, .int .i64 a0.Shape.Restart, .int .i64 a0.Shape.Bits, .int .i64 a0.Cut, .int .i64 a0.Files0, .int .i64 a0.Stop0, .int .i64 a0.Base, .int .i64 a0.Ratio, .int .i64 a0.Levels, .int .i64 a0.Chunk, .int .i64 a0.Roll, .int .i64 a0.Clients, va0_0] 28]) ?_ ?_
    · rintro a W_6 ⟨b_4, H, hst, hsh⟩
      subst hJ_5
      dsimp only at H
      refine wpList_nil ?_
      refine then_normal ?_
      by_cases c14 : b_4 = true
      · rw [if_pos c14] at H
        refine wp_condT hst rfl c14 ?_
        refine wp_seq ?_
        refine wp_region_lit ?_
        refine r_t hst trivial rfl (x_assign hst rfl) ?_; intro a hst
        refine wpList_nil ?_
        refine then_normal ?_
        refine wp_ret ?_
        refine then_ret ?_
        obtain rfl := Option.some.inj H
        exact ret1 hst rfl rfl ⟨rfl, hsh.pick []⟩
      · rw [if_neg c14] at H
        replace c14 := Bool.eq_false_iff.2 c14
        refine wp_condF hst rfl c14 ?_
        refine wp_skip ?_
        refine then_normal ?_
        refine wp_seq ?_
        refine wp_region_lit ?_
        refine r_t hst trivial rfl (x_fieldAddr (j' := 9) hst fa_28_7 rfl rfl) ?_; intro a hst
        refine r_t hst trivial rfl (x_loadB (i := 0) hst hsh sc_3 rfl rfl rfl) ?_; intro a hst
        refine r_t hst trivial rfl (x_assign hst rfl) ?_; intro a hst
        refine wpList_nil ?_
        refine then_normal ?_
        refine wp_seq ?_
        refine wp_seq ?_
        refine wp_region_lit ?_
        refine r_t hst trivial rfl (x_assign hst rfl) ?_; intro a hst
        refine wpList_nil ?_
        refine then_normal ?_
        refine wp_block ?_
        refine wp_loop_fuel (fun k_28 a w' => ∃ (i_22 : Int), ∃ (i_23 : Int), r22_Bears.l0 a0 a1 k_28 i_22 i_23 = some r ∧ ST Try.f56.ntmps a [(1, .int .i64 a1), (2, .pointer (some ⟨g1, 0, none⟩)), (4, .int .i64 0), (5, .int .i64 i_22), (6, .int .i64 i_23)] ∧ SH (fun _ => False) w w' [Box g1 [.int .i64 a0.Block, .int .i64 a0.Mem, .int .i64 a0.Frozen, .int .i64 a0.Shape.Page, .int .i64 a0.Shape.Restart, .int .i64 a0.Shape.Bits, .int .i64 a0.Cut, .int .i64 a0.Files0, .int .i64 a0.Stop0, .int .i64 a0.Base, .int .i64 a0.Ratio, .int .i64 a0.Levels, .int .i64 a0.Chunk, .int .i64 a0.Roll, .int .i64 a0.Clients, va0_0] 28]) k ?_ ?_
        · exact ⟨a0.Base, 1, H, hst.keep _ ⟨rfl, rfl, rfl, rfl, rfl, trivial⟩, hsh.pick [0]⟩
        · rintro k_28 a W_24 ⟨i_22, i_23, H, hst, hsh⟩
          cases k_28 with
          | zero => rw [r22_Bears.l0] at H; cases H
          | succ k_28 =>
            rw [r22_Bears.l0] at H
            refine wp_seq ?_
            refine wp_seq ?_
            refine wp_region_lit ?_
            refine r_t hst trivial rfl (x_move hst rfl) ?_; intro a hst
            refine r_t hst trivial rfl (x_move hst rfl) ?_; intro a hst
            refine r_t hst trivial rfl (x_cmpI (b := decide (i_23 < a1)) hst rfl rfl rfl) ?_; intro a hst
            refine wpList_nil ?_
            refine then_normal ?_
            by_cases c26 : (decide (i_23 < a1)) = true
            · rw [if_pos c26] at H
              refine wp_condT hst rfl c26 ?_
              refine wp_skip ?_
              refine then_normal ?_
              refine wp_seq ?_
              refine wp_block ?_
              refine wp_region_lit ?_
              refine r_t hst trivial rfl (x_move hst rfl) ?_; intro a hst
              refine r_t hst trivial rfl (x_fieldAddr (j' := 10) hst fa_28_8 rfl rfl) ?_; intro a hst
              refine r_t hst trivial rfl (x_loadB (i := 0) hst hsh sc_3 rfl rfl rfl) ?_; intro a hst
              refine r_t hst trivial rfl (x_arI (r := w64 (i_22 * a0.Ratio)) hst rfl rfl rfl) ?_; intro a hst
              refine r_t hst trivial rfl (x_minI hst rfl rfl) ?_; intro a hst
              refine r_t hst trivial rfl (x_assign hst rfl) ?_; intro a hst
              refine wpList_nil ?_
              refine block_normal ?_
              refine then_normal ?_
              refine wp_region_lit ?_
              refine r_t hst trivial rfl (x_move hst rfl) ?_; intro a hst
              refine r_t hst trivial rfl (x_arI (r := w64 (i_23 + 1)) hst rfl rfl rfl) ?_; intro a hst
              refine r_t hst trivial rfl (x_assign hst rfl) ?_; intro a hst
              refine wpList_nil ?_
              refine then_normal ?_
              exact ⟨k_28, Nat.lt_succ_self _, (minI (w64 (i_22 * a0.Ratio)) 1099511627776), (w64 (i_23 + 1)), H, hst.keep _ ⟨rfl, rfl, rfl, rfl, rfl, trivial⟩, hsh.pick [0]⟩
            · rw [if_neg c26] at H
              replace c26 := Bool.eq_false_iff.2 c26
              refine wp_condF hst rfl c26 ?_
              refine wp_exit ?_
              refine then_exit ?_
              refine then_exit ?_
              refine block_hit ?_
              refine then_normal ?_
              refine wp_seq ?_
              refine wp_region_lit ?_
              refine r_t hst trivial rfl (x_move hst rfl) ?_; intro a hst
              refine r_t hst trivial rfl (x_assign hst rfl) ?_; intro a hst
              refine wpList_nil ?_
              refine then_normal ?_
              refine wp_ret ?_
              obtain rfl := Option.some.inj H
              exact ret1 hst rfl rfl ⟨rfl, hsh.pick []⟩
    · intro hj
      by_cases c11 : ((decide (a1 < 1)) || (decide (7 ≤ a1))) = true
      · rw [if_pos c11] at H
        refine r_not hst 13 rfl rfl c11 rfl ?_; intro a hst
        refine r_not hst 13 rfl rfl c11 rfl ?_; intro a hst
        refine r_not hst 13 rfl rfl c11 rfl ?_; intro a hst
        refine r_t hst trivial rfl (x_pickT hst rfl c11 rfl) ?_; intro a hst
        exact hj _ _ ⟨true, H, hst.keep _ ⟨rfl, rfl, rfl, rfl, trivial⟩, hsh.pick [0]⟩
      · rw [if_neg c11] at H
        replace c11 := Bool.eq_false_iff.2 c11
        refine r_t hst (wt_of 13 rfl rfl c11) rfl (x_loadBs (i := 0) (ps := [.int .i64 a0.Block, .int .i64 a0.Mem, .int .i64 a0.Frozen, .int .i64 a0.Shape.Page, .int .i64 a0.Shape.Restart, .int .i64 a0.Shape.Bits, .int .i64 a0.Cut, .int .i64 a0.Files0, .int .i64 a0.Stop0, .int .i64 a0.Base, .int .i64 a0.Ratio, .int .i64 a0.Levels, .int .i64 a0.Chunk, .int .i64 a0.Roll, .int .i64 a0.Clients, va0_0]) hst hsh ag_28 rfl rfl rfl) ?_; intro a hst
        obtain ⟨r27, hr27, H⟩ := Option.bind_eq_some_iff.1 H
        refine r_callD hst (wt_of 13 rfl rfl c11) rfl fn_69 rfl (r22_rates.calls _ a0 _ _ _ (Same.sh0 hsa0_0 hsh) hra0_0 r27 hr27) ?_
        rintro e w28 ⟨rfl, hc⟩
        replace hsh := hsh.call0 hc
        clear hc
        refine ⟨_, rfl, fun a hst => ?_⟩
        refine r_t hst (wt_of 13 rfl rfl c11) rfl (x_notB hst rfl) ?_; intro a hst
        refine r_t hst trivial rfl (x_pickF hst rfl c11 rfl) ?_; intro a hst
        exact hj _ _ ⟨(!r27), H, hst.keep _ ⟨rfl, rfl, rfl, rfl, trivial⟩, hsh.pick [0]⟩
  · intro hj
    by_cases c10 : (decide (a1 < 1)) = true
    · refine r_not hst 9 rfl rfl c10 rfl ?_; intro a hst
      refine r_not hst 9 rfl rfl c10 rfl ?_; intro a hst
      refine r_t hst trivial rfl (x_orT (decide (7 ≤ a1)) hst rfl c10 rfl) ?_; intro a hst
      exact hj _ (hst.keep _ ⟨rfl, rfl, rfl, rfl, trivial⟩)
    · replace c10 := Bool.eq_false_iff.2 c10
      refine r_t hst (wt_of 9 rfl rfl c10) rfl (x_move hst rfl) ?_; intro a hst
      refine r_t hst (wt_of 9 rfl rfl c10) rfl (x_cmpI (b := decide (7 ≤ a1)) hst rfl rfl rfl) ?_; intro a hst
      refine r_t hst trivial rfl (x_orF hst rfl c10 rfl) ?_; intro a hst
      exact hj _ (hst.keep _ ⟨rfl, rfl, rfl, rfl, trivial⟩)

set_option maxHeartbeats 4000000 in
set_option maxRecDepth 100000 in
theorem r22_Score.calls (k : Nat) (w : World) (va0 : Value) (Za0 : Nat → Prop) (wra0 : World) (hsa0 : Same Za0 wra0 w) (a0 : (List (List File))) (hra0 : RD (Kd.slice 43 k_File) Za0 wra0 va0 a0) (a1 : Config) (va1_0 : Value) (Za1_0 : Nat → Prop) (wra1_0 : World) (hsa1_0 : Same Za1_0 wra1_0 w) (hra1_0 : RD (Kd.int .i64) Za1_0 wra1_0 va1_0 a1.Heights) (a2 : Int) (r : Int) (h : r22_Score k a0 a1 a2 = some r) :
    Calls Try.prog 30 ([va0, .agg #[.int .i64 a1.Block, .int .i64 a1.Mem, .int .i64 a1.Frozen, .int .i64 a1.Shape.Page, .int .i64 a1.Shape.Restart, .int .i64 a1.Shape.Bits, .int .i64 a1.Cut, .int .i64 a1.Files0, .int .i64 a1.Stop0, .int .i64 a1.Base, .int .i64 a1.Ratio, .int .i64 a1.Levels, .int .i64 a1.Chunk, .int .i64 a1.Roll, .int .i64 a1.Clients, va1_0], .int .i64 a2] : List Value).toArray w fun e w' => e = .returned (.int .i64 r) ∧ SH (fun _ => False) w w' [] := by
  have H := h
  clear h
  unfold r22_Score at H
  refine calls_enter Try.func30 rfl rfl ?_
  intro a hst
  have hsh := SH.zero (fun _ => False) w
  refine wp_seq ?_
  refine wp_region_lit ?_
  refine r_box hst hsh trivial rfl rfl rfl ?_
  intro g1 a w2 hgg1 hsh hst
  refine r_t hst trivial rfl (x_assign hst rfl) ?_; intro a hst
  refine wpList_nil ?_
  refine then_normal ?_
  refine wp_seq ?_
  refine wp_seq ?_
  refine wp_region_lit ?_
  refine r_t hst trivial rfl (x_move hst rfl) ?_; intro a hst
  refine r_t hst trivial rfl (x_loadBs (i := 0) (ps := [.int .i64 a1.Block, .int .i64 a1.Mem, .int .i64 a1.Frozen, .int .i64 a1.Shape.Page, .int .i64 a1.Shape.Restart, .int .i64 a1.Shape.Bits, .int .i64 a1.Cut, .int .i64 a1.Files0, .int .i64 a1.Stop0, .int .i64 a1.Base, .int .i64 a1.Ratio, .int .i64 a1.Levels, .int .i64 a1.Chunk, .int .i64 a1.Roll, .int .i64 a1.Clients, va1_0]) hst hsh ag_28 rfl rfl rfl) ?_; intro a hst
  obtain ⟨r8, hr8, H⟩ := Option.bind_eq_some_iff.1 H
  refine r_callD hst trivial rfl fn_54 rfl (r22_May.calls k _ _ _ _ (Same.sh0 hsa0 hsh) _ hra0 a1 _ _ _ (Same.sh0 hsa1_0 hsh) hra1_0 r8 hr8) ?_
  rintro e w9 ⟨rfl, hc⟩
  replace hsh := hsh.call0 hc
  clear hc
  refine ⟨_, rfl, fun a hst => ?_⟩
  refine r_t hst trivial rfl (x_notB hst rfl) ?_; intro a hst
  refine r_t hst trivial rfl (x_move hst rfl) ?_; intro a hst
  refine wl_join0 (N := Try.f30.ntmps) 8 [(0, va0), (2, .int .i64 a2), (4, .pointer (some ⟨g1, 0, none⟩)), (6, .int .i64 0), (14, .bool ((!r8) || (decide (a2 < 0))))] ?_ ?_
  · intro a hst
    refine r_t hst trivial rfl (x_move hst rfl) ?_; intro a hst
    refine wl_join0 (N := Try.f30.ntmps) 15 [(0, va0), (2, .int .i64 a2), (4, .pointer (some ⟨g1, 0, none⟩)), (6, .int .i64 0), (21, .bool (((!r8) || (decide (a2 < 0))) || (decide ((w64 ((a0.length : Int) - 1)) ≤ a2))))] ?_ ?_
    · intro a hst
      refine wpList_nil ?_
      refine then_normal ?_
      by_cases c12 : (((!r8) || (decide (a2 < 0))) || (decide ((w64 ((a0.length : Int) - 1)) ≤ a2))) = true
      · rw [if_pos c12] at H
        refine wp_condT hst rfl c12 ?_
        refine wp_seq ?_
        refine wp_region_lit ?_
        refine r_t hst trivial rfl (x_assign hst rfl) ?_; intro a hst
        refine wpList_nil ?_
        refine then_normal ?_
        refine wp_ret ?_
        refine then_ret ?_
        obtain rfl := Option.some.inj H
        exact ret1 hst rfl rfl ⟨rfl, hsh.pick []⟩
      · rw [if_neg c12] at H
        replace c12 := Bool.eq_false_iff.2 c12
        refine wp_condF hst rfl c12 ?_
        refine wp_skip ?_
        refine then_normal ?_
        refine wp_seq ?_
        refine wp_seq ?_
        refine wp_region_lit ?_
        refine r_t hst trivial rfl (x_move hst rfl) ?_; intro a hst
        refine r_t hst trivial rfl (x_cmpI (b := (a2 == 0)) hst rfl rfl rfl) ?_; intro a hst
        refine wpList_nil ?_
        refine then_normal ?_
        by_cases c21 : (a2 == 0) = true
        · rw [if_pos c21] at H
          refine wp_condT hst rfl c21 ?_
          refine wp_seq ?_
          refine wp_region_q (fun w' => SH (fun _ => False) w w' [Box g1 [.int .i64 a1.Block, .int .i64 a1.Mem, .int .i64 a1.Frozen, .int .i64 a1.Shape.Page, .int .i64 a1.Shape.Restart, .int .i64 a1.Shape.Bits, .int .i64 a1.Cut, .int .i64 a1.Files0, .int .i64 a1.Stop0, .int .i64 a1.Base, .int .i64 a1.Ratio, .int .i64 a1.Levels, .int .i64 a1.Chunk, .int .i64 a1.Roll, .int .i64 a1.Clients, va1_0] 28]) hsh.drew fo (by kernel_rfl) ?_
          refine q_t hst trivial rfl (fun _ hsh => x_move hst rfl) ?_; intro a hst
          obtain ⟨x22, hx22, H⟩ := Option.bind_eq_some_iff.1 H
          refine q_t hst trivial rfl (fun _ hsh => x_indexAddr hst Try.underlying23 el_31 rfl rfl hra0 hx22) ?_; intro a hst
          obtain ⟨_, hk23, hc24⟩ := RD.cells2 hra0 hx22
          obtain ⟨v25, rfl, hr26⟩ := hk23
          refine q_t hst trivial rfl (fun _ hsh => x_loadC hst sc_31 rfl (hc24 _ (Same.sh0 hsa0 hsh) 0 _ rfl)) ?_; intro a hst
          refine q_t hst trivial rfl (fun _ hsh => x_lenSl hst Try.underlying31 rfl hr26.slen) ?_; intro a hst
          refine q_t hst trivial rfl (fun _ hsh => x_arI (r := w64 (1000 * (x22.length : Int))) hst rfl rfl rfl) ?_; intro a hst
          refine q_t hst trivial rfl (fun _ hsh => x_fieldAddr (j' := 7) hst fa_28_5 rfl rfl) ?_; intro a hst
          refine q_t hst trivial rfl (fun _ hsh => x_loadB (i := 0) hst hsh sc_3 rfl rfl rfl) ?_; intro a hst
          refine q_t hst trivial rfl (fun _ hsh => x_minI hst rfl rfl) ?_; intro a hst
          by_cases c27 : (minI a1.Files0 268435456) = 0
          · rw [if_pos c27] at H; cases H
          · rw [if_neg c27] at H
            refine q_t hst trivial rfl (fun _ hsh => x_quo hst rfl rfl c27) ?_; intro a hst
            refine q_t hst trivial rfl (fun _ hsh => x_assign hst rfl) ?_; intro a hst
            refine q_nil ?_
            intro w28 hsh
            refine then_normal ?_
            refine wp_ret ?_
            refine then_ret ?_
            obtain rfl := Option.some.inj H
            exact ret1 hst rfl rfl ⟨rfl, hsh.pick []⟩
        · rw [if_neg c21] at H
          replace c21 := Bool.eq_false_iff.2 c21
          refine wp_condF hst rfl c21 ?_
          refine wp_skip ?_
          refine then_normal ?_
          refine wp_seq ?_
          refine wp_region_q (fun w' => SH (fun _ => False) w w' [Box g1 [.int .i64 a1.Block, .int .i64 a1.Mem, .int .i64 a1.Frozen, .int .i64 a1.Shape.Page, .int .i64 a1.Shape.Restart, .int .i64 a1.Shape.Bits, .int .i64 a1.Cut, .int .i64 a1.Files0, .int .i64 a1.Stop0, .int .i64 a1.Base, .int .i64 a1.Ratio, .int .i64 a1.Levels, .int .i64 a1.Chunk, .int .i64 a1.Roll, .int .i64 a1.Clients, va1_0] 28]) hsh.drew fo (by kernel_rfl) ?_
          refine q_t hst trivial rfl (fun _ hsh => x_move hst rfl) ?_; intro a hst
          refine q_t hst trivial rfl (fun _ hsh => x_move hst rfl) ?_; intro a hst
          obtain ⟨r29, hr29, H⟩ := Option.bind_eq_some_iff.1 H
          refine q_call hst trivial rfl fn_55 rfl (fun w9 hsh => q_calls hsh (r16_Size.calls k _ _ _ _ (Same.sh0 hsa0 hsh) _ hra0 a2 r29 hr29)) ?_; intro a hst
          refine q_t hst trivial rfl (fun _ hsh => x_arI (r := w64 (1000 * r29)) hst rfl rfl rfl) ?_; intro a hst
          refine q_t hst trivial rfl (fun _ hsh => x_loadBs (i := 0) (ps := [.int .i64 a1.Block, .int .i64 a1.Mem, .int .i64 a1.Frozen, .int .i64 a1.Shape.Page, .int .i64 a1.Shape.Restart, .int .i64 a1.Shape.Bits, .int .i64 a1.Cut, .int .i64 a1.Files0, .int .i64 a1.Stop0, .int .i64 a1.Base, .int .i64 a1.Ratio, .int .i64 a1.Levels, .int .i64 a1.Chunk, .int .i64 a1.Roll, .int .i64 a1.Clients, va1_0]) hst hsh ag_28 rfl rfl rfl) ?_; intro a hst
          refine q_t hst trivial rfl (fun _ hsh => x_move hst rfl) ?_; intro a hst
          obtain ⟨r31, hr31, H⟩ := Option.bind_eq_some_iff.1 H
          refine q_call hst trivial rfl fn_56 rfl (fun w9 hsh => q_calls hsh (r22_Bears.calls k _ a1 _ _ _ (Same.sh0 hsa1_0 hsh) hra1_0 a2 r31 hr31)) ?_; intro a hst
          by_cases c33 : r31 = 0
          · rw [if_pos c33] at H; cases H
          · rw [if_neg c33] at H
            refine q_t hst trivial rfl (fun _ hsh => x_quo hst rfl rfl c33) ?_; intro a hst
            refine q_t hst trivial rfl (fun _ hsh => x_assign hst rfl) ?_; intro a hst
            refine q_nil ?_
            intro w34 hsh
            refine then_normal ?_
            refine wp_ret ?_
            obtain rfl := Option.some.inj H
            exact ret1 hst rfl rfl ⟨rfl, hsh.pick []⟩
    · intro hj
      by_cases c11 : ((!r8) || (decide (a2 < 0))) = true
      · refine r_not hst 15 rfl rfl c11 rfl ?_; intro a hst
        refine r_not hst 15 rfl rfl c11 rfl ?_; intro a hst
        refine r_not hst 15 rfl rfl c11 rfl ?_; intro a hst
        refine r_not hst 15 rfl rfl c11 rfl ?_; intro a hst
        refine r_not hst 15 rfl rfl c11 rfl ?_; intro a hst
        refine r_t hst trivial rfl (x_orT (decide ((w64 ((a0.length : Int) - 1)) ≤ a2)) hst rfl c11 rfl) ?_; intro a hst
        exact hj _ (hst.keep _ ⟨rfl, rfl, rfl, rfl, rfl, trivial⟩)
      · replace c11 := Bool.eq_false_iff.2 c11
        refine r_t hst (wt_of 15 rfl rfl c11) rfl (x_move hst rfl) ?_; intro a hst
        refine r_t hst (wt_of 15 rfl rfl c11) rfl (x_move hst rfl) ?_; intro a hst
        refine r_t hst (wt_of 15 rfl rfl c11) rfl (x_lenSl hst Try.underlying23 rfl hra0.slen) ?_; intro a hst
        refine r_t hst (wt_of 15 rfl rfl c11) rfl (x_arI (r := w64 ((a0.length : Int) - 1)) hst rfl rfl rfl) ?_; intro a hst
        refine r_t hst (wt_of 15 rfl rfl c11) rfl (x_cmpI (b := decide ((w64 ((a0.length : Int) - 1)) ≤ a2)) hst rfl rfl rfl) ?_; intro a hst
        refine r_t hst trivial rfl (x_orF hst rfl c11 rfl) ?_; intro a hst
        exact hj _ (hst.keep _ ⟨rfl, rfl, rfl, rfl, rfl, trivial⟩)
  · intro hj
    by_cases c10 : (!r8) = true
    · refine r_not hst 11 rfl rfl c10 rfl ?_; intro a hst
      refine r_not hst 11 rfl rfl c10 rfl ?_; intro a hst
      refine r_t hst trivial rfl (x_orT (decide (a2 < 0)) hst rfl c10 rfl) ?_; intro a hst
      exact hj _ (hst.keep _ ⟨rfl, rfl, rfl, rfl, rfl, trivial⟩)
    · replace c10 := Bool.eq_false_iff.2 c10
      refine r_t hst (wt_of 11 rfl rfl c10) rfl (x_move hst rfl) ?_; intro a hst
      refine r_t hst (wt_of 11 rfl rfl c10) rfl (x_cmpI (b := decide (a2 < 0)) hst rfl rfl rfl) ?_; intro a hst
      refine r_t hst trivial rfl (x_orF hst rfl c10 rfl) ?_; intro a hst
      exact hj _ (hst.keep _ ⟨rfl, rfl, rfl, rfl, rfl, trivial⟩)

set_option maxHeartbeats 4000000 in
set_option maxRecDepth 100000 in
theorem r22_first.calls (k : Nat) (w : World) (va0 : Value) (Za0 : Nat → Prop) (wra0 : World) (hsa0 : Same Za0 wra0 w) (a0 : (List File)) (hra0 : RD k_File Za0 wra0 va0 a0) (a1 : Int) (va2 : Value) (Za2 : Nat → Prop) (wra2 : World) (hsa2 : Same Za2 wra2 w) (a2 : (List ByteArray)) (hra2 : RD Kd.str Za2 wra2 va2 a2) (r : File) (h : r22_first k a0 a1 a2 = some r) :
    Calls Try.prog 31 ([va0, .int .i64 a1, va2] : List Value).toArray w fun e w' => e = .returned (.agg #[.int .i64 r.Number, .int .i64 r.Size, .string r.Least, .string r.Limit, .int .u64 r.Low, .int .u64 r.High]) ∧ SH (fun _ => False) w w' [] := by
  have H := h
  clear h
  unfold r22_first at H
  refine calls_enter Try.func31 rfl rfl ?_
  intro a hst
  have hsh := SH.zero (fun _ => False) w
  refine wp_seq ?_
  refine wp_region_lit ?_
  refine r_alloc hst hsh trivial rfl zr_43 ?_
  intro g1 a w2 hgg1 hsh hst
  refine wpList_nil ?_
  refine then_normal ?_
  refine wp_seq ?_
  refine wp_seq ?_
  refine wp_region_lit ?_
  refine r_t hst trivial rfl (x_move hst rfl) ?_; intro a hst
  refine r_t hst trivial rfl (x_cmpI (b := (a1 == 0)) hst rfl rfl rfl) ?_; intro a hst
  refine r_t hst trivial rfl (x_move hst rfl) ?_; intro a hst
  refine wl_join0 (N := Try.f31.ntmps) 8 [(0, va0), (1, .int .i64 a1), (2, va2), (6, .pointer (some ⟨g1, 0, none⟩)), (15, .bool ((a1 == 0) || (decide ((a2.length : Int) ≤ a1))))] ?_ ?_
  · intro a hst
    refine wpList_nil ?_
    refine then_normal ?_
    by_cases c8 : ((a1 == 0) || (decide ((a2.length : Int) ≤ a1))) = true
    · rw [if_pos c8] at H
      refine wp_condT hst rfl c8 ?_
      refine wp_seq ?_
      refine wp_region_lit ?_
      refine r_t hst trivial rfl (x_move hst rfl) ?_; intro a hst
      obtain ⟨x9, hx9, H⟩ := Option.bind_eq_some_iff.1 H
      refine r_t hst trivial rfl (x_indexAddr hst Try.underlying31 el_43 rfl rfl hra0 hx9) ?_; intro a hst
      refine r_t hst trivial rfl (x_loadEsF (j := 0) (cs := [.int .i64 x9.Number, .int .i64 x9.Size, .string x9.Least, .string x9.Limit, .int .u64 x9.Low, .int .u64 x9.High]) (ps := [.int .i64 x9.Number, .int .i64 x9.Size, .string x9.Least, .string x9.Limit, .int .u64 x9.Low, .int .u64 x9.High]) hst ag_43 rfl hra0 (Same.sh0 hsa0 hsh) hx9 rfl (fun _ h => h) rfl) ?_; intro a hst
      refine r_storeBs (i := 0) (cs' := [.int .i64 x9.Number, .int .i64 x9.Size, .string x9.Least, .string x9.Limit, .int .u64 x9.Low, .int .u64 x9.High]) (vs := [.int .i64 x9.Number, .int .i64 x9.Size, .string x9.Least, .string x9.Limit, .int .u64 x9.Low, .int .u64 x9.High]) hst hsh trivial ag_43 rfl rfl rfl rfl rfl rfl ?_; intro a w10 hsh hst
      refine wpList_nil ?_
      refine then_normal ?_
      refine wp_ret ?_
      refine then_ret ?_
      obtain rfl := Option.some.inj H
      exact retC hst rfl rfl (box_var (i := 0) hsh ag_43 rfl rfl) ⟨rfl, hsh.pick []⟩
    · rw [if_neg c8] at H
      replace c8 := Bool.eq_false_iff.2 c8
      refine wp_condF hst rfl c8 ?_
      refine wp_skip ?_
      refine then_normal ?_
      refine wp_seq ?_
      refine wp_seq ?_
      refine wp_region_lit ?_
      refine r_t hst trivial rfl (x_assign hst rfl) ?_; intro a hst
      refine wpList_nil ?_
      refine then_normal ?_
      refine wp_block ?_
      refine wp_loop_fuel (fun k_16 a w' => ∃ (i_12 : Int), r22_first.l0 a0 a1 a2 k_16 i_12 = some r ∧ ST Try.f31.ntmps a [(0, va0), (1, .int .i64 a1), (2, va2), (6, .pointer (some ⟨g1, 0, none⟩)), (7, .int .i64 i_12)] ∧ SH (fun _ => False) w w' [Box g1 [.int .i64 0, .int .i64 0, .string (ByteArray.mk #[]), .string (ByteArray.mk #[]), .int .u64 0, .int .u64 0] 43]) k ?_ ?_
      · exact ⟨0, H, hst.keep _ ⟨rfl, rfl, rfl, rfl, rfl, trivial⟩, hsh.pick [0]⟩
      · rintro k_16 a W_13 ⟨i_12, H, hst, hsh⟩
        cases k_16 with
        | zero => rw [r22_first.l0] at H; cases H
        | succ k_16 =>
          rw [r22_first.l0] at H
          refine wp_seq ?_
          refine wp_seq ?_
          refine wp_region_lit ?_
          refine r_t hst trivial rfl (x_move hst rfl) ?_; intro a hst
          refine r_t hst trivial rfl (x_move hst rfl) ?_; intro a hst
          refine r_t hst trivial rfl (x_lenSl hst Try.underlying31 rfl hra0.slen) ?_; intro a hst
          refine r_t hst trivial rfl (x_cmpI (b := decide (i_12 < (a0.length : Int))) hst rfl rfl rfl) ?_; intro a hst
          refine wpList_nil ?_
          refine then_normal ?_
          by_cases c82 : (decide (i_12 < (a0.length : Int))) = true
          · rw [if_pos c82] at H
            refine wp_condT hst rfl c82 ?_
            refine wp_skip ?_
            refine then_normal ?_
            refine wp_seq ?_
            refine wp_block ?_
            refine wp_seq ?_
            refine wp_region_q (fun w' => SH (fun _ => False) w w' [Box g1 [.int .i64 0, .int .i64 0, .string (ByteArray.mk #[]), .string (ByteArray.mk #[]), .int .u64 0, .int .u64 0] 43]) hsh.drew fo (by kernel_rfl) ?_
            refine q_t hst trivial rfl (fun _ hsh => x_move hst rfl) ?_; intro a hst
            refine q_t hst trivial rfl (fun _ hsh => x_move hst rfl) ?_; intro a hst
            obtain ⟨x89, hx89, H⟩ := Option.bind_eq_some_iff.1 H
            refine q_t hst trivial rfl (fun _ hsh => x_indexAddr hst Try.underlying31 el_43 rfl rfl hra0 hx89) ?_; intro a hst
            refine q_t hst trivial rfl (fun _ hsh => x_fieldAddrE (n' := Int.toNat i_12 * k_File.sz + 2) hst fa_43_2 rfl rfl) ?_; intro a hst
            refine q_t hst trivial rfl (fun _ hsh => x_loadEF (j := 2) (cs := [.int .i64 x89.Number, .int .i64 x89.Size, .string x89.Least, .string x89.Limit, .int .u64 x89.Low, .int .u64 x89.High]) hst sc_9 rfl hra0 (Same.sh0 hsa0 hsh) hx89 rfl (fun _ h => h) rfl) ?_; intro a hst
            refine q_t hst trivial rfl (fun _ hsh => x_move hst rfl) ?_; intro a hst
            refine q_t hst trivial rfl (fun _ hsh => x_move hst rfl) ?_; intro a hst
            obtain ⟨x90, hx90, H⟩ := Option.bind_eq_some_iff.1 H
            refine q_t hst trivial rfl (fun _ hsh => x_indexAddr hst Try.underlying29 el_9 rfl rfl hra2 hx90) ?_; intro a hst
            refine q_t hst trivial rfl (fun _ hsh => x_loadEF (j := 0) (cs := [.string x90]) hst sc_9 rfl hra2 (Same.sh0 hsa2 hsh) hx90 rfl (fun _ h => h) rfl) ?_; intro a hst
            refine q_t hst trivial rfl (fun _ hsh => x_cmpS (b := (!sLt x89.Least x90)) hst rfl rfl rfl) ?_; intro a hst
            refine q_nil ?_
            intro w91 hsh
            refine then_normal ?_
            by_cases c92 : (!sLt x89.Least x90) = true
            · rw [if_pos c92] at H
              refine wp_condT hst rfl c92 ?_
              refine wp_seq ?_
              refine wp_region_lit ?_
              refine r_t hst trivial rfl (x_move hst rfl) ?_; intro a hst
              refine r_t hst trivial rfl (x_move hst rfl) ?_; intro a hst
              obtain ⟨x93, hx93, H⟩ := Option.bind_eq_some_iff.1 H
              refine r_t hst trivial rfl (x_indexAddr hst Try.underlying31 el_43 rfl rfl hra0 hx93) ?_; intro a hst
              refine r_t hst trivial rfl (x_loadEsF (j := 0) (cs := [.int .i64 x93.Number, .int .i64 x93.Size, .string x93.Least, .string x93.Limit, .int .u64 x93.Low, .int .u64 x93.High]) (ps := [.int .i64 x93.Number, .int .i64 x93.Size, .string x93.Least, .string x93.Limit, .int .u64 x93.Low, .int .u64 x93.High]) hst ag_43 rfl hra0 (Same.sh0 hsa0 hsh) hx93 rfl (fun _ h => h) rfl) ?_; intro a hst
              refine r_storeBs (i := 0) (cs' := [.int .i64 x93.Number, .int .i64 x93.Size, .string x93.Least, .string x93.Limit, .int .u64 x93.Low, .int .u64 x93.High]) (vs := [.int .i64 x93.Number, .int .i64 x93.Size, .string x93.Least, .string x93.Limit, .int .u64 x93.Low, .int .u64 x93.High]) hst hsh trivial ag_43 rfl rfl rfl rfl rfl rfl ?_; intro a w94 hsh hst
              refine wpList_nil ?_
              refine then_normal ?_
              refine wp_ret ?_
              refine block_ret ?_
              refine then_ret ?_
              refine then_ret ?_
              refine block_ret ?_
              refine then_ret ?_
              obtain rfl := Option.some.inj H
              exact retC hst rfl rfl (box_var (i := 0) hsh ag_43 rfl rfl) ⟨rfl, hsh.pick []⟩
            · rw [if_neg c92] at H
              replace c92 := Bool.eq_false_iff.2 c92
              refine wp_condF hst rfl c92 ?_
              refine wp_skip ?_
              refine block_normal ?_
              refine then_normal ?_
              refine wp_region_lit ?_
              refine r_t hst trivial rfl (x_move hst rfl) ?_; intro a hst
              refine r_t hst trivial rfl (x_arI (r := w64 (i_12 + 1)) hst rfl rfl rfl) ?_; intro a hst
              refine r_t hst trivial rfl (x_assign hst rfl) ?_; intro a hst
              refine wpList_nil ?_
              refine then_normal ?_
              exact ⟨k_16, Nat.lt_succ_self _, (w64 (i_12 + 1)), H, hst.keep _ ⟨rfl, rfl, rfl, rfl, rfl, trivial⟩, hsh.pick [0]⟩
          · rw [if_neg c82] at H
            replace c82 := Bool.eq_false_iff.2 c82
            refine wp_condF hst rfl c82 ?_
            refine wp_exit ?_
            refine then_exit ?_
            refine then_exit ?_
            refine block_hit ?_
            refine then_normal ?_
            refine wp_seq ?_
            refine wp_region_lit ?_
            refine r_t hst trivial rfl (x_move hst rfl) ?_; intro a hst
            obtain ⟨x95, hx95, H⟩ := Option.bind_eq_some_iff.1 H
            refine r_t hst trivial rfl (x_indexAddr hst Try.underlying31 el_43 rfl rfl hra0 hx95) ?_; intro a hst
            refine r_t hst trivial rfl (x_loadEsF (j := 0) (cs := [.int .i64 x95.Number, .int .i64 x95.Size, .string x95.Least, .string x95.Limit, .int .u64 x95.Low, .int .u64 x95.High]) (ps := [.int .i64 x95.Number, .int .i64 x95.Size, .string x95.Least, .string x95.Limit, .int .u64 x95.Low, .int .u64 x95.High]) hst ag_43 rfl hra0 (Same.sh0 hsa0 hsh) hx95 rfl (fun _ h => h) rfl) ?_; intro a hst
            refine r_storeBs (i := 0) (cs' := [.int .i64 x95.Number, .int .i64 x95.Size, .string x95.Least, .string x95.Limit, .int .u64 x95.Low, .int .u64 x95.High]) (vs := [.int .i64 x95.Number, .int .i64 x95.Size, .string x95.Least, .string x95.Limit, .int .u64 x95.Low, .int .u64 x95.High]) hst hsh trivial ag_43 rfl rfl rfl rfl rfl rfl ?_; intro a w96 hsh hst
            refine wpList_nil ?_
            refine then_normal ?_
            refine wp_ret ?_
            obtain rfl := Option.some.inj H
            exact retC hst rfl rfl (box_var (i := 0) hsh ag_43 rfl rfl) ⟨rfl, hsh.pick []⟩
  · intro hj
    by_cases c7 : (a1 == 0) = true
    · refine r_not hst 10 rfl rfl c7 rfl ?_; intro a hst
      refine r_not hst 10 rfl rfl c7 rfl ?_; intro a hst
      refine r_not hst 10 rfl rfl c7 rfl ?_; intro a hst
      refine r_not hst 10 rfl rfl c7 rfl ?_; intro a hst
      refine r_t hst trivial rfl (x_orT (decide ((a2.length : Int) ≤ a1)) hst rfl c7 rfl) ?_; intro a hst
      exact hj _ (hst.keep _ ⟨rfl, rfl, rfl, rfl, rfl, trivial⟩)
    · replace c7 := Bool.eq_false_iff.2 c7
      refine r_t hst (wt_of 10 rfl rfl c7) rfl (x_move hst rfl) ?_; intro a hst
      refine r_t hst (wt_of 10 rfl rfl c7) rfl (x_lenSl hst Try.underlying29 rfl hra2.slen) ?_; intro a hst
      refine r_t hst (wt_of 10 rfl rfl c7) rfl (x_move hst rfl) ?_; intro a hst
      refine r_t hst (wt_of 10 rfl rfl c7) rfl (x_cmpI (b := decide ((a2.length : Int) ≤ a1)) hst rfl rfl rfl) ?_; intro a hst
      refine r_t hst trivial rfl (x_orF hst rfl c7 rfl) ?_; intro a hst
      exact hj _ (hst.keep _ ⟨rfl, rfl, rfl, rfl, rfl, trivial⟩)

set_option maxHeartbeats 4000000 in
set_option maxRecDepth 100000 in
theorem r16_Span.calls (k : Nat) (w : World) (va0 : Value) (Za0 : Nat → Prop) (wra0 : World) (hsa0 : Same Za0 wra0 w) (a0 : (List File)) (hra0 : RD k_File Za0 wra0 va0 a0) (r : (ByteArray × ByteArray × Bool)) (h : r16_Span k a0 = some r) :
    Calls Try.prog 57 ([va0] : List Value).toArray w fun e w' => e = .returned (.tuple #[.string r.1, .string r.2.1, .bool r.2.2]) ∧ SH (fun _ => False) w w' [] := by
  have H := h
  clear h
  unfold r16_Span at H
  refine calls_enter Try.func57 rfl rfl ?_
  intro a hst
  have hsh := SH.zero (fun _ => False) w
  refine wp_seq ?_
  refine wp_region_lit ?_
  refine r_t hst trivial rfl (x_assign hst rfl) ?_; intro a hst
  refine r_t hst trivial rfl (x_assign hst rfl) ?_; intro a hst
  refine r_t hst trivial rfl (x_assign hst rfl) ?_; intro a hst
  refine wpList_nil ?_
  refine then_normal ?_
  refine wp_seq ?_
  refine wp_seq ?_
  refine wp_region_lit ?_
  refine r_t hst trivial rfl (x_move hst rfl) ?_; intro a hst
  refine r_t hst trivial rfl (x_lenSl hst Try.underlying31 rfl hra0.slen) ?_; intro a hst
  refine r_t hst trivial rfl (x_cmpI (b := ((a0.length : Int) == 0)) hst rfl rfl rfl) ?_; intro a hst
  refine wpList_nil ?_
  refine then_normal ?_
  by_cases c2 : ((a0.length : Int) == 0) = true
  · rw [if_pos c2] at H
    refine wp_condT hst rfl c2 ?_
    refine wp_seq ?_
    refine wp_region_lit ?_
    refine r_t hst trivial rfl (x_assign hst rfl) ?_; intro a hst
    refine r_t hst trivial rfl (x_assign hst rfl) ?_; intro a hst
    refine r_t hst trivial rfl (x_assign hst rfl) ?_; intro a hst
    refine wpList_nil ?_
    refine then_normal ?_
    refine wp_ret ?_
    refine then_ret ?_
    obtain rfl := Option.some.inj H
    exact ret3 hst rfl rfl rfl rfl ⟨rfl, hsh.pick []⟩
  · rw [if_neg c2] at H
    replace c2 := Bool.eq_false_iff.2 c2
    refine wp_condF hst rfl c2 ?_
    refine wp_skip ?_
    refine then_normal ?_
    refine wp_seq ?_
    refine wp_region_q (fun w' => SH (fun _ => False) w w' []) hsh.drew fo (by kernel_rfl) ?_
    refine q_t hst trivial rfl (fun _ hsh => x_move hst rfl) ?_; intro a hst
    obtain ⟨x3, hx3, H⟩ := Option.bind_eq_some_iff.1 H
    refine q_t hst trivial rfl (fun _ hsh => x_indexAddr hst Try.underlying31 el_43 rfl rfl hra0 hx3) ?_; intro a hst
    refine q_t hst trivial rfl (fun _ hsh => x_fieldAddrE (n' := Int.toNat 0 * k_File.sz + 2) hst fa_43_2 rfl rfl) ?_; intro a hst
    refine q_t hst trivial rfl (fun _ hsh => x_loadEF (j := 2) (cs := [.int .i64 x3.Number, .int .i64 x3.Size, .string x3.Least, .string x3.Limit, .int .u64 x3.Low, .int .u64 x3.High]) hst sc_9 rfl hra0 (Same.sh0 hsa0 hsh) hx3 rfl (fun _ h => h) rfl) ?_; intro a hst
    refine q_t hst trivial rfl (fun _ hsh => x_move hst rfl) ?_; intro a hst
    obtain ⟨x4, hx4, H⟩ := Option.bind_eq_some_iff.1 H
    refine q_t hst trivial rfl (fun _ hsh => x_indexAddr hst Try.underlying31 el_43 rfl rfl hra0 hx4) ?_; intro a hst
    refine q_t hst trivial rfl (fun _ hsh => x_fieldAddrE (n' := Int.toNat 0 * k_File.sz + 3) hst fa_43_3 rfl rfl) ?_; intro a hst
    refine q_t hst trivial rfl (fun _ hsh => x_loadEF (j := 3) (cs := [.int .i64 x4.Number, .int .i64 x4.Size, .string x4.Least, .string x4.Limit, .int .u64 x4.Low, .int .u64 x4.High]) hst sc_9 rfl hra0 (Same.sh0 hsa0 hsh) hx4 rfl (fun _ h => h) rfl) ?_; intro a hst
    refine q_t hst trivial rfl (fun _ hsh => x_assign hst rfl) ?_; intro a hst
    refine q_t hst trivial rfl (fun _ hsh => x_assign hst rfl) ?_; intro a hst
    refine q_nil ?_
    intro w5 hsh
    refine then_normal ?_
    refine wp_seq ?_
    refine wp_seq ?_
    refine wp_region_lit ?_
    refine r_t hst trivial rfl (x_assign hst rfl) ?_; intro a hst
    refine wpList_nil ?_
    refine then_normal ?_
    refine wp_block ?_
    refine wp_loop_fuel (fun k_28 a w' => ∃ (s_20 : ByteArray), ∃ (s_21 : ByteArray), ∃ (i_22 : Int), r16_Span.l0 a0 k_28 s_20 s_21 i_22 = some r ∧ ST Try.f57.ntmps a [(0, va0), (2, .string (ByteArray.mk #[])), (3, .string (ByteArray.mk #[])), (4, .bool false), (5, .string s_20), (6, .string s_21), (7, .int .i64 i_22)] ∧ SH (fun _ => False) w w' []) k ?_ ?_
    · exact ⟨x3.Least, x4.Limit, 1, H, hst.keep _ ⟨rfl, rfl, rfl, rfl, rfl, rfl, rfl, trivial⟩, hsh.pick []⟩
    · rintro k_28 a W_23 ⟨s_20, s_21, i_22, H, hst, hsh⟩
      cases k_28 with
      | zero => rw [r16_Span.l0] at H; cases H
      | succ k_28 =>
        rw [r16_Span.l0] at H
        refine wp_seq ?_
        refine wp_seq ?_
        refine wp_region_lit ?_
        refine r_t hst trivial rfl (x_move hst rfl) ?_; intro a hst
        refine r_t hst trivial rfl (x_move hst rfl) ?_; intro a hst
        refine r_t hst trivial rfl (x_lenSl hst Try.underlying31 rfl hra0.slen) ?_; intro a hst
        refine r_t hst trivial rfl (x_cmpI (b := decide (i_22 < (a0.length : Int))) hst rfl rfl rfl) ?_; intro a hst
        refine wpList_nil ?_
        refine then_normal ?_
        by_cases c37 : (decide (i_22 < (a0.length : Int))) = true
        · rw [if_pos c37] at H
          refine wp_condT hst rfl c37 ?_
          refine wp_skip ?_
          refine then_normal ?_
          refine wp_seq ?_
          refine wp_block ?_
          refine wp_seq ?_
          refine wp_region_lit ?_
          refine r_t hst trivial rfl (x_move hst rfl) ?_; intro a hst
          refine r_t hst trivial rfl (x_move hst rfl) ?_; intro a hst
          refine r_t hst trivial rfl (x_move hst rfl) ?_; intro a hst
          obtain ⟨x40, hx40, H⟩ := Option.bind_eq_some_iff.1 H
          refine r_t hst trivial rfl (x_indexAddr hst Try.underlying31 el_43 rfl rfl hra0 hx40) ?_; intro a hst
          refine r_t hst trivial rfl (x_fieldAddrE (n' := Int.toNat i_22 * k_File.sz + 2) hst fa_43_2 rfl rfl) ?_; intro a hst
          refine r_t hst trivial rfl (x_loadEF (j := 2) (cs := [.int .i64 x40.Number, .int .i64 x40.Size, .string x40.Least, .string x40.Limit, .int .u64 x40.Low, .int .u64 x40.High]) hst sc_9 rfl hra0 (Same.sh0 hsa0 hsh) hx40 rfl (fun _ h => h) rfl) ?_; intro a hst
          refine r_t hst trivial rfl (x_minS hst rfl rfl) ?_; intro a hst
          refine r_t hst trivial rfl (x_assign hst rfl) ?_; intro a hst
          refine wpList_nil ?_
          refine then_normal ?_
          refine wp_region_lit ?_
          refine r_t hst trivial rfl (x_move hst rfl) ?_; intro a hst
          refine r_t hst trivial rfl (x_move hst rfl) ?_; intro a hst
          refine r_t hst trivial rfl (x_move hst rfl) ?_; intro a hst
          obtain ⟨x41, hx41, H⟩ := Option.bind_eq_some_iff.1 H
          refine r_t hst trivial rfl (x_indexAddr hst Try.underlying31 el_43 rfl rfl hra0 hx41) ?_; intro a hst
          refine r_t hst trivial rfl (x_fieldAddrE (n' := Int.toNat i_22 * k_File.sz + 3) hst fa_43_3 rfl rfl) ?_; intro a hst
          refine r_t hst trivial rfl (x_loadEF (j := 3) (cs := [.int .i64 x41.Number, .int .i64 x41.Size, .string x41.Least, .string x41.Limit, .int .u64 x41.Low, .int .u64 x41.High]) hst sc_9 rfl hra0 (Same.sh0 hsa0 hsh) hx41 rfl (fun _ h => h) rfl) ?_; intro a hst
          refine r_t hst trivial rfl (x_maxS hst rfl rfl) ?_; intro a hst
          refine r_t hst trivial rfl (x_assign hst rfl) ?_; intro a hst
          refine wpList_nil ?_
          refine block_normal ?_
          refine then_normal ?_
          refine wp_region_lit ?_
          refine r_t hst trivial rfl (x_move hst rfl) ?_; intro a hst
          refine r_t hst trivial rfl (x_arI (r := w64 (i_22 + 1)) hst rfl rfl rfl) ?_; intro a hst
          refine r_t hst trivial rfl (x_assign hst rfl) ?_; intro a hst
          refine wpList_nil ?_
          refine then_normal ?_
          exact ⟨k_28, Nat.lt_succ_self _, (minS s_20 x40.Least), (maxS s_21 x41.Limit), (w64 (i_22 + 1)), H, hst.keep _ ⟨rfl, rfl, rfl, rfl, rfl, rfl, rfl, trivial⟩, hsh.pick []⟩
        · rw [if_neg c37] at H
          replace c37 := Bool.eq_false_iff.2 c37
          refine wp_condF hst rfl c37 ?_
          refine wp_exit ?_
          refine then_exit ?_
          refine then_exit ?_
          refine block_hit ?_
          refine then_normal ?_
          refine wp_seq ?_
          refine wp_region_lit ?_
          refine r_t hst trivial rfl (x_move hst rfl) ?_; intro a hst
          refine r_t hst trivial rfl (x_move hst rfl) ?_; intro a hst
          refine r_t hst trivial rfl (x_assign hst rfl) ?_; intro a hst
          refine r_t hst trivial rfl (x_assign hst rfl) ?_; intro a hst
          refine r_t hst trivial rfl (x_assign hst rfl) ?_; intro a hst
          refine wpList_nil ?_
          refine then_normal ?_
          refine wp_ret ?_
          obtain rfl := Option.some.inj H
          exact ret3 hst rfl rfl rfl rfl ⟨rfl, hsh.pick []⟩

set_option maxHeartbeats 4000000 in
set_option maxRecDepth 100000 in
theorem r16_Overlaps.calls (w : World) (a0 : File) (a1 : ByteArray) (a2 : ByteArray) (r : Bool) (h : r16_Overlaps a0 a1 a2 = some r) :
    Calls Try.prog 71 ([.agg #[.int .i64 a0.Number, .int .i64 a0.Size, .string a0.Least, .string a0.Limit, .int .u64 a0.Low, .int .u64 a0.High], .string a1, .string a2] : List Value).toArray w fun e w' => e = .returned (.bool r) ∧ SH (fun _ => False) w w' [] := by
  have H := h
  clear h
  unfold r16_Overlaps at H
  refine calls_enter Try.func71 rfl rfl ?_
  intro a hst
  have hsh := SH.zero (fun _ => False) w
  refine wp_seq ?_
  refine wp_region_lit ?_
  refine r_box hst hsh trivial rfl rfl rfl ?_
  intro g1 a w2 hgg1 hsh hst
  refine r_t hst trivial rfl (x_assign hst rfl) ?_; intro a hst
  refine wpList_nil ?_
  refine then_normal ?_
  refine wp_seq ?_
  refine wp_region_lit ?_
  refine r_t hst trivial rfl (x_fieldAddr (j' := 3) hst fa_43_3 rfl rfl) ?_; intro a hst
  refine r_t hst trivial rfl (x_loadB (i := 0) hst hsh sc_9 rfl rfl rfl) ?_; intro a hst
  refine r_t hst trivial rfl (x_move hst rfl) ?_; intro a hst
  refine r_t hst trivial rfl (x_cmpS (b := (!(sLt a0.Limit a1 || sEq a0.Limit a1))) hst rfl rfl rfl) ?_; intro a hst
  refine r_t hst trivial rfl (x_move hst rfl) ?_; intro a hst
  refine wl_join0 (N := Try.f71.ntmps) 19 [(6, .bool false), (25, .bool ((!(sLt a0.Limit a1 || sEq a0.Limit a1)) && ((sEq a2 (ByteArray.mk #[])) || ((sLt a0.Least a2) && (!(sLt a2 a1 || sEq a2 a1))))))] ?_ ?_
  · intro a hst
    refine r_t hst trivial rfl (x_assign hst rfl) ?_; intro a hst
    refine wpList_nil ?_
    refine then_normal ?_
    refine wp_ret ?_
    obtain rfl := Option.some.inj H
    exact ret1 hst rfl rfl ⟨rfl, hsh.pick []⟩
  · intro hj
    by_cases c3 : (!(sLt a0.Limit a1 || sEq a0.Limit a1)) = true
    · refine r_t hst (wt_of 11 rfl rfl c3) rfl (x_move hst rfl) ?_; intro a hst
      refine r_t hst (wt_of 11 rfl rfl c3) rfl (x_cmpS (b := sEq a2 (ByteArray.mk #[])) hst rfl rfl rfl) ?_; intro a hst
      refine r_t hst (wt_of 11 rfl rfl c3) rfl (x_move hst rfl) ?_; intro a hst
      refine wl_join0 (N := Try.f71.ntmps) 18 [(6, .bool false), (11, .bool (!(sLt a0.Limit a1 || sEq a0.Limit a1))), (24, .bool ((sEq a2 (ByteArray.mk #[])) || ((sLt a0.Least a2) && (!(sLt a2 a1 || sEq a2 a1)))))] ?_ ?_
      · intro a hst
        refine r_t hst trivial rfl (x_andT hst rfl c3 rfl) ?_; intro a hst
        exact hj _ (hst.keep _ ⟨rfl, rfl, trivial⟩)
      · intro hj
        by_cases c4 : (sEq a2 (ByteArray.mk #[])) = true
        · refine r_not hst 14 rfl rfl c4 rfl ?_; intro a hst
          refine r_not hst 14 rfl rfl c4 rfl ?_; intro a hst
          refine r_not hst 14 rfl rfl c4 rfl ?_; intro a hst
          refine r_not hst 14 rfl rfl c4 rfl ?_; intro a hst
          refine r_not hst 14 rfl rfl c4 rfl ?_; intro a hst
          refine r_notU hst 19 rfl rfl rfl ?_; intro a hst
          refine r_notU hst 19 rfl rfl rfl ?_; intro a hst
          refine r_notU hst 19 rfl rfl rfl ?_; intro a hst
          refine r_not hst 14 rfl rfl c4 rfl ?_; intro a hst
          refine r_t hst (wt_of 11 rfl rfl c3) rfl (x_orT ((sLt a0.Least a2) && (!(sLt a2 a1 || sEq a2 a1))) hst rfl c4 rfl) ?_; intro a hst
          exact hj _ (hst.keep _ ⟨rfl, rfl, rfl, trivial⟩)
        · replace c4 := Bool.eq_false_iff.2 c4
          refine r_t hst (wt_of 14 rfl rfl c4) rfl (x_fieldAddr (j' := 2) hst fa_43_2 rfl rfl) ?_; intro a hst
          refine r_t hst (wt_of 14 rfl rfl c4) rfl (x_loadB (i := 0) hst hsh sc_9 rfl rfl rfl) ?_; intro a hst
          refine r_t hst (wt_of 14 rfl rfl c4) rfl (x_move hst rfl) ?_; intro a hst
          refine r_t hst (wt_of 14 rfl rfl c4) rfl (x_cmpS (b := sLt a0.Least a2) hst rfl rfl rfl) ?_; intro a hst
          refine r_t hst (wt_of 14 rfl rfl c4) rfl (x_move hst rfl) ?_; intro a hst
          refine wl_join0 (N := Try.f71.ntmps) 17 [(6, .bool false), (11, .bool (!(sLt a0.Limit a1 || sEq a0.Limit a1))), (14, .bool (sEq a2 (ByteArray.mk #[]))), (23, .bool ((sLt a0.Least a2) && (!(sLt a2 a1 || sEq a2 a1))))] ?_ ?_
          · intro a hst
            refine r_t hst (wt_of 11 rfl rfl c3) rfl (x_orF hst rfl c4 rfl) ?_; intro a hst
            exact hj _ (hst.keep _ ⟨rfl, rfl, rfl, trivial⟩)
          · intro hj
            by_cases c5 : (sLt a0.Least a2) = true
            · refine r_t hst (wt_of 19 rfl rfl c5) rfl (x_move hst rfl) ?_; intro a hst
              refine r_t hst (wt_of 19 rfl rfl c5) rfl (x_move hst rfl) ?_; intro a hst
              refine r_t hst (wt_of 19 rfl rfl c5) rfl (x_cmpS (b := (!(sLt a2 a1 || sEq a2 a1))) hst rfl rfl rfl) ?_; intro a hst
              refine r_t hst (wt_of 14 rfl rfl c4) rfl (x_andT hst rfl c5 rfl) ?_; intro a hst
              exact hj _ (hst.keep _ ⟨rfl, rfl, rfl, rfl, trivial⟩)
            · replace c5 := Bool.eq_false_iff.2 c5
              refine r_not hst 19 rfl rfl c5 rfl ?_; intro a hst
              refine r_not hst 19 rfl rfl c5 rfl ?_; intro a hst
              refine r_not hst 19 rfl rfl c5 rfl ?_; intro a hst
              refine r_t hst (wt_of 14 rfl rfl c4) rfl (x_andF (!(sLt a2 a1 || sEq a2 a1)) hst rfl c5 rfl) ?_; intro a hst
              exact hj _ (hst.keep _ ⟨rfl, rfl, rfl, rfl, trivial⟩)
    · replace c3 := Bool.eq_false_iff.2 c3
      refine r_not hst 11 rfl rfl c3 rfl ?_; intro a hst
      refine r_not hst 11 rfl rfl c3 rfl ?_; intro a hst
      refine r_not hst 11 rfl rfl c3 rfl ?_; intro a hst
      refine r_notU hst 14 rfl rfl rfl ?_; intro a hst
      refine r_notU hst 14 rfl rfl rfl ?_; intro a hst
      refine r_notU hst 14 rfl rfl rfl ?_; intro a hst
      refine r_notU hst 14 rfl rfl rfl ?_; intro a hst
      refine r_notU hst 14 rfl rfl rfl ?_; intro a hst
      refine r_notU hst 19 rfl rfl rfl ?_; intro a hst
      refine r_notU hst 19 rfl rfl rfl ?_; intro a hst
      refine r_notU hst 19 rfl rfl rfl ?_; intro a hst
      refine r_notU hst 14 rfl rfl rfl ?_; intro a hst
      refine r_not hst 11 rfl rfl c3 rfl ?_; intro a hst
      refine r_t hst trivial rfl (x_andF ((sEq a2 (ByteArray.mk #[])) || ((sLt a0.Least a2) && (!(sLt a2 a1 || sEq a2 a1)))) hst rfl c3 rfl) ?_; intro a hst
      exact hj _ (hst.keep _ ⟨rfl, rfl, trivial⟩)

set_option maxHeartbeats 4000000 in
set_option maxRecDepth 100000 in
theorem r16_Over.calls (k : Nat) (w : World) (va0 : Value) (Za0 : Nat → Prop) (wra0 : World) (hsa0 : Same Za0 wra0 w) (a0 : (List (List File))) (hra0 : RD (Kd.slice 43 k_File) Za0 wra0 va0 a0) (a1 : Int) (a2 : ByteArray) (a3 : ByteArray) (r : (List File)) (h : r16_Over k a0 a1 a2 a3 = some r) :
    Calls Try.prog 58 ([va0, .int .i64 a1, .string a2, .string a3] : List Value).toArray w fun e w' => ∃ v0_ : Value, e = .returned (v0_) ∧ SH (fun _ => False) w w' [Row k_File 43 v0_ r] := by
  have H := h
  clear h
  unfold r16_Over at H
  refine calls_enter Try.func58 rfl rfl ?_
  intro a hst
  have hsh := SH.zero (fun _ => False) w
  refine wp_seq ?_
  refine wp_region_lit ?_
  refine r_t hst trivial rfl (x_assign hst rfl) ?_; intro a hst
  refine wpList_nil ?_
  refine then_normal ?_
  refine wp_seq ?_
  refine wp_region_lit ?_
  refine r_t hst trivial rfl (x_assign hst rfl) ?_; intro a hst
  refine wpList_nil ?_
  refine then_normal ?_
  refine wp_seq ?_
  refine wp_region_lit ?_
  refine r_t hst trivial rfl (x_move hst rfl) ?_; intro a hst
  refine r_t hst trivial rfl (x_move hst rfl) ?_; intro a hst
  obtain ⟨r1, hr1, H⟩ := Option.bind_eq_some_iff.1 H
  refine r_callD hst trivial rfl fn_70 rfl (r16_level.calls k _ _ _ _ (Same.sh0 hsa0 hsh) _ hra0 a1 r1 hr1) ?_
  rintro e w2 ⟨v3, rfl, hc, hv4⟩
  replace hsh := hsh.call0 hc
  clear hc
  refine ⟨_, rfl, fun a hst => ?_⟩
  refine r_t hst trivial rfl (x_assign hst rfl) ?_; intro a hst
  refine wpList_nil ?_
  refine then_normal ?_
  refine wp_seq ?_
  refine wp_seq ?_
  refine wp_region_lit ?_
  refine r_t hst trivial rfl (x_assign hst rfl) ?_; intro a hst
  refine wpList_nil ?_
  refine then_normal ?_
  refine wp_block ?_
  have hsh := hsh.addNil k_File 43
  refine wp_loop_fuel (fun k_56 a w' => ∃ (v_43 : Value), ∃ (l_44 : (List File)), ∃ (i_45 : Int), r16_Over.l0 a2 a3 r1 k_56 l_44 i_45 = some r ∧ ST Try.f58.ntmps a [(2, .string a2), (3, .string a3), (8, (.slice none 0 0)), (9, v_43), (10, v3), (11, .int .i64 i_45)] ∧ SH (fun _ => False) w w' [Row k_File 43 v_43 l_44]) k ?_ ?_
  · exact ⟨(.slice none 0 0), ([]), 0, H, hst.keep _ ⟨rfl, rfl, rfl, rfl, rfl, rfl, trivial⟩, hsh.pick [0]⟩
  · rintro k_56 a W_46 ⟨v_43, l_44, i_45, H, hst, hsh⟩
    cases k_56 with
    | zero => rw [r16_Over.l0] at H; cases H
    | succ k_56 =>
      rw [r16_Over.l0] at H
      refine wp_seq ?_
      refine wp_seq ?_
      refine wp_region_lit ?_
      refine r_t hst trivial rfl (x_move hst rfl) ?_; intro a hst
      refine r_t hst trivial rfl (x_move hst rfl) ?_; intro a hst
      refine r_t hst trivial rfl (x_lenSl hst Try.underlying31 rfl hv4.slen) ?_; intro a hst
      refine r_t hst trivial rfl (x_cmpI (b := decide (i_45 < (r1.length : Int))) hst rfl rfl rfl) ?_; intro a hst
      refine wpList_nil ?_
      refine then_normal ?_
      by_cases c123 : (decide (i_45 < (r1.length : Int))) = true
      · rw [if_pos c123] at H
        refine wp_condT hst rfl c123 ?_
        refine wp_skip ?_
        refine then_normal ?_
        obtain ⟨J_60, hJ_60, H⟩ := Jn.elim H
        refine wp_cut (fun a w' => ∃ (v_57 : Value), ∃ (l_58 : (List File)), J_60 l_58 = some r ∧ ST Try.f58.ntmps a [(2, .string a2), (3, .string a3), (8, (.slice none 0 0)), (9, v_57), (10, v3), (11, .int .i64 i_45)] ∧ SH (fun _ => False) w w' [Row k_File 43 v_57 l_58]) ?_ ?_
        · rintro a W_59 ⟨v_57, l_58, H, hst, hsh⟩
          subst hJ_60
          dsimp only at H
          refine wp_region_lit ?_
          refine r_t hst trivial rfl (x_move hst rfl) ?_; intro a hst
          refine r_t hst trivial rfl (x_arI (r := w64 (i_45 + 1)) hst rfl rfl rfl) ?_; intro a hst
          refine r_t hst trivial rfl (x_assign hst rfl) ?_; intro a hst
          refine wpList_nil ?_
          refine then_normal ?_
          exact ⟨k_56, Nat.lt_succ_self _, v_57, l_58, (w64 (i_45 + 1)), H, hst.keep _ ⟨rfl, rfl, rfl, rfl, rfl, rfl, trivial⟩, hsh.pick [0]⟩
        · refine wp_block ?_
          refine wp_seq ?_
          refine wp_region_lit ?_
          refine r_t hst trivial rfl (x_move hst rfl) ?_; intro a hst
          refine r_t hst trivial rfl (x_move hst rfl) ?_; intro a hst
          obtain ⟨x134, hx134, H⟩ := Option.bind_eq_some_iff.1 H
          refine r_t hst trivial rfl (x_indexAddr hst Try.underlying31 el_43 rfl rfl hv4 hx134) ?_; intro a hst
          refine r_t hst trivial rfl (x_loadEsF (j := 0) (cs := [.int .i64 x134.Number, .int .i64 x134.Size, .string x134.Least, .string x134.Limit, .int .u64 x134.Low, .int .u64 x134.High]) (ps := [.int .i64 x134.Number, .int .i64 x134.Size, .string x134.Least, .string x134.Limit, .int .u64 x134.Low, .int .u64 x134.High]) hst ag_43 rfl hv4 (Same.sh0 hsa0 hsh) hx134 rfl (fun _ h => h) rfl) ?_; intro a hst
          refine r_t hst trivial rfl (x_move hst rfl) ?_; intro a hst
          refine r_t hst trivial rfl (x_move hst rfl) ?_; intro a hst
          obtain ⟨r135, hr135, H⟩ := Option.bind_eq_some_iff.1 H
          refine r_callD hst trivial rfl fn_71 rfl (r16_Overlaps.calls _ x134 a2 a3 r135 hr135) ?_
          rintro e w136 ⟨rfl, hc⟩
          replace hsh := hsh.call0 hc
          clear hc
          refine ⟨_, rfl, fun a hst => ?_⟩
          refine wpList_nil ?_
          refine then_normal ?_
          by_cases c137 : r135 = true
          · rw [if_pos c137] at H
            refine wp_condT hst rfl c137 ?_
            refine wp_region_lit ?_
            refine r_t hst trivial rfl (x_move hst rfl) ?_; intro a hst
            refine r_t hst trivial rfl (x_move hst rfl) ?_; intro a hst
            refine r_t hst trivial rfl (x_move hst rfl) ?_; intro a hst
            obtain ⟨x138, hx138, H⟩ := Option.bind_eq_some_iff.1 H
            refine r_t hst trivial rfl (x_indexAddr hst Try.underlying31 el_43 rfl rfl hv4 hx138) ?_; intro a hst
            refine r_t hst trivial rfl (x_loadEsF (j := 0) (cs := [.int .i64 x138.Number, .int .i64 x138.Size, .string x138.Least, .string x138.Limit, .int .u64 x138.Low, .int .u64 x138.High]) (ps := [.int .i64 x138.Number, .int .i64 x138.Size, .string x138.Least, .string x138.Limit, .int .u64 x138.Low, .int .u64 x138.High]) hst ag_43 rfl hv4 (Same.sh0 hsa0 hsh) hx138 rfl (fun _ h => h) rfl) ?_; intro a hst
            refine r_buildSlice (vs := [.agg #[.int .i64 x138.Number, .int .i64 x138.Size, .string x138.Least, .string x138.Limit, .int .u64 x138.Low, .int .u64 x138.High]]) (cs := [.int .i64 x138.Number, .int .i64 x138.Size, .string x138.Least, .string x138.Limit, .int .u64 x138.Low, .int .u64 x138.High]) hst hsh trivial rfl Try.underlying31 el_43 rfl rfl (by simp [Value.cells]) rfl rfl ?_
            intro g139 a w140 hgg139 hsh hst
            replace hsh := hsh.pick [1, 0]
            obtain ⟨l141, hl141, H⟩ := Option.bind_eq_some_iff.1 H
            refine r_append1 (xx := x138) (C := []) (M := []) hst hsh trivial rfl Try.underlying31 el_43 (by decide) (by decide) (by decide) rfl rfl (fun _ _ _ => rfl) hl141 ?_
            intro v142 a w143 hsh hst
            refine r_t hst trivial rfl (x_assign hst rfl) ?_; intro a hst
            refine wpList_nil ?_
            refine block_normal ?_
            refine then_normal ?_
            exact ⟨v142, l141, H, hst.keep _ ⟨rfl, rfl, rfl, rfl, rfl, rfl, trivial⟩, hsh.pick [0]⟩
          · rw [if_neg c137] at H
            replace c137 := Bool.eq_false_iff.2 c137
            refine wp_condF hst rfl c137 ?_
            refine wp_skip ?_
            refine block_normal ?_
            refine then_normal ?_
            exact ⟨v_43, l_44, H, hst.keep _ ⟨rfl, rfl, rfl, rfl, rfl, rfl, trivial⟩, hsh.pick [0]⟩
      · rw [if_neg c123] at H
        replace c123 := Bool.eq_false_iff.2 c123
        refine wp_condF hst rfl c123 ?_
        refine wp_exit ?_
        refine then_exit ?_
        refine then_exit ?_
        refine block_hit ?_
        refine then_normal ?_
        refine wp_seq ?_
        refine wp_region_lit ?_
        refine r_t hst trivial rfl (x_move hst rfl) ?_; intro a hst
        refine r_t hst trivial rfl (x_assign hst rfl) ?_; intro a hst
        refine wpList_nil ?_
        refine then_normal ?_
        refine wp_ret ?_
        obtain rfl := Option.some.inj H
        exact ret1 hst rfl rfl ⟨v_43, rfl, hsh.pick [0]⟩

set_option maxHeartbeats 4000000 in
set_option maxRecDepth 100000 in
theorem r22_touch.calls (k : Nat) (w : World) (va0 : Value) (Za0 : Nat → Prop) (wra0 : World) (hsa0 : Same Za0 wra0 w) (a0 : (List (List File))) (hra0 : RD (Kd.slice 43 k_File) Za0 wra0 va0 a0) (a1 : Int) (va2 : Value) (Za2 : Nat → Prop) (wra2 : World) (hsa2 : Same Za2 wra2 w) (a2 : (List File)) (hra2 : RD k_File Za2 wra2 va2 a2) (r : (List File)) (h : r22_touch k a0 a1 a2 = some r) :
    Calls Try.prog 32 ([va0, .int .i64 a1, va2] : List Value).toArray w fun e w' => ∃ v0_ : Value, e = .returned (v0_) ∧ SH (fun _ => False) w w' [Row k_File 43 v0_ r] := by
  have H := h
  clear h
  unfold r22_touch at H
  refine calls_enter Try.func32 rfl rfl ?_
  intro a hst
  have hsh := SH.zero (fun _ => False) w
  refine wp_seq ?_
  refine wp_region_lit ?_
  refine r_t hst trivial rfl (x_assign hst rfl) ?_; intro a hst
  refine wpList_nil ?_
  refine then_normal ?_
  refine wp_seq ?_
  refine wp_region_lit ?_
  refine r_t hst trivial rfl (x_move hst rfl) ?_; intro a hst
  obtain ⟨r1, hr1, H⟩ := Option.bind_eq_some_iff.1 H
  refine r_callD hst trivial rfl fn_57 rfl (r16_Span.calls k _ _ _ _ (Same.sh0 hsa2 hsh) _ hra2 r1 hr1) ?_
  rintro e w2 ⟨rfl, hc⟩
  replace hsh := hsh.call0 hc
  clear hc
  refine ⟨_, rfl, fun a hst => ?_⟩
  refine r_t hst trivial rfl (x_move hst rfl) ?_; intro a hst
  refine r_t hst trivial rfl (x_extract hst rfl rfl) ?_; intro a hst
  refine r_t hst trivial rfl (x_extract hst rfl rfl) ?_; intro a hst
  refine r_t hst trivial rfl (x_extract hst rfl rfl) ?_; intro a hst
  refine r_t hst trivial rfl (x_assign hst rfl) ?_; intro a hst
  refine r_t hst trivial rfl (x_assign hst rfl) ?_; intro a hst
  refine r_t hst trivial rfl (x_assign hst rfl) ?_; intro a hst
  refine wpList_nil ?_
  refine then_normal ?_
  refine wp_seq ?_
  refine wp_region_lit ?_
  refine r_t hst trivial rfl (x_move hst rfl) ?_; intro a hst
  refine r_t hst trivial rfl (x_move hst rfl) ?_; intro a hst
  refine r_t hst trivial rfl (x_move hst rfl) ?_; intro a hst
  refine r_t hst trivial rfl (x_move hst rfl) ?_; intro a hst
  obtain ⟨r3, hr3, H⟩ := Option.bind_eq_some_iff.1 H
  refine r_callD hst trivial rfl fn_58 rfl (r16_Over.calls k _ _ _ _ (Same.sh0 hsa0 hsh) _ hra0 a1 r1.1 r1.2.1 r3 hr3) ?_
  rintro e w4 ⟨v5, rfl, hc⟩
  replace hsh := hsh.call0 hc
  clear hc
  refine ⟨_, rfl, fun a hst => ?_⟩
  refine r_t hst trivial rfl (x_assign hst rfl) ?_; intro a hst
  refine wpList_nil ?_
  refine then_normal ?_
  refine wp_seq ?_
  refine wp_block ?_
  refine wp_loop_fuel (fun k_28 a w' => ∃ (v_21 : Value), ∃ (l_22 : (List File)), r22_touch.l0 a0 a1 k_28 l_22 = some r ∧ ST Try.f32.ntmps a [(0, va0), (1, .int .i64 a1), (6, (.slice none 0 0)), (10, v_21)] ∧ SH (fun _ => False) w w' [Row k_File 43 v_21 l_22]) k ?_ ?_
  · exact ⟨v5, r3, H, hst.keep _ ⟨rfl, rfl, rfl, rfl, trivial⟩, hsh.pick [0]⟩
  · rintro k_28 a W_23 ⟨v_21, l_22, H, hst, hsh⟩
    cases k_28 with
    | zero => rw [r22_touch.l0] at H; cases H
    | succ k_28 =>
      rw [r22_touch.l0] at H
      refine wp_seq ?_
      refine wp_seq ?_
      refine wp_region_lit ?_
      refine r_t hst trivial rfl (x_move hst rfl) ?_; intro a hst
      refine r_t hst trivial rfl (x_cmpI (b := (a1 == 0)) hst rfl rfl rfl) ?_; intro a hst
      refine wpList_nil ?_
      refine then_normal ?_
      by_cases c58 : (a1 == 0) = true
      · rw [if_pos c58] at H
        refine wp_condT hst rfl c58 ?_
        refine wp_skip ?_
        refine then_normal ?_
        refine wp_block ?_
        refine wp_seq ?_
        refine wp_region_lit ?_
        refine r_t hst trivial rfl (x_move hst rfl) ?_; intro a hst
        obtain ⟨r59, hr59, H⟩ := Option.bind_eq_some_iff.1 H
        refine r_callD hst trivial rfl fn_57 rfl (r16_Span.calls k_28 _ _ _ _ (Same.refl _ _) _ (hsh.row 0 rfl) r59 hr59) ?_
        rintro e w60 ⟨rfl, hc⟩
        replace hsh := hsh.call0 hc
        clear hc
        refine ⟨_, rfl, fun a hst => ?_⟩
        refine r_t hst trivial rfl (x_move hst rfl) ?_; intro a hst
        refine r_t hst trivial rfl (x_extract hst rfl rfl) ?_; intro a hst
        refine r_t hst trivial rfl (x_extract hst rfl rfl) ?_; intro a hst
        refine r_t hst trivial rfl (x_extract hst rfl rfl) ?_; intro a hst
        refine r_t hst trivial rfl (x_assign hst rfl) ?_; intro a hst
        refine r_t hst trivial rfl (x_assign hst rfl) ?_; intro a hst
        refine wpList_nil ?_
        refine then_normal ?_
        refine wp_seq ?_
        refine wp_region_lit ?_
        refine r_t hst trivial rfl (x_move hst rfl) ?_; intro a hst
        refine r_t hst trivial rfl (x_move hst rfl) ?_; intro a hst
        refine r_t hst trivial rfl (x_move hst rfl) ?_; intro a hst
        refine r_t hst trivial rfl (x_move hst rfl) ?_; intro a hst
        obtain ⟨r61, hr61, H⟩ := Option.bind_eq_some_iff.1 H
        refine r_callD hst trivial rfl fn_58 rfl (r16_Over.calls k_28 _ _ _ _ (Same.sh0 hsa0 hsh) _ hra0 a1 r59.1 r59.2.1 r61 hr61) ?_
        rintro e w62 ⟨v63, rfl, hc⟩
        replace hsh := hsh.call0 hc
        clear hc
        refine ⟨_, rfl, fun a hst => ?_⟩
        refine r_t hst trivial rfl (x_assign hst rfl) ?_; intro a hst
        refine wpList_nil ?_
        refine then_normal ?_
        refine wp_seq ?_
        refine wp_seq ?_
        refine wp_region_lit ?_
        refine r_t hst trivial rfl (x_move hst rfl) ?_; intro a hst
        refine r_t hst trivial rfl (x_lenSl hst Try.underlying31 rfl (hsh.row 0 rfl).slen) ?_; intro a hst
        refine r_t hst trivial rfl (x_move hst rfl) ?_; intro a hst
        refine r_t hst trivial rfl (x_lenSl hst Try.underlying31 rfl (hsh.row 1 rfl).slen) ?_; intro a hst
        refine r_t hst trivial rfl (x_cmpI (b := ((r61.length : Int) == (l_22.length : Int))) hst rfl rfl rfl) ?_; intro a hst
        refine wpList_nil ?_
        refine then_normal ?_
        by_cases c66 : ((r61.length : Int) == (l_22.length : Int)) = true
        · rw [if_pos c66] at H
          refine wp_condT hst rfl c66 ?_
          refine wp_seq ?_
          refine wp_region_lit ?_
          refine r_t hst trivial rfl (x_move hst rfl) ?_; intro a hst
          refine r_t hst trivial rfl (x_assign hst rfl) ?_; intro a hst
          refine wpList_nil ?_
          refine then_normal ?_
          refine wp_ret ?_
          refine then_ret ?_
          refine block_ret ?_
          refine then_ret ?_
          refine block_ret ?_
          refine then_ret ?_
          obtain rfl := Option.some.inj H
          exact ret1 hst rfl rfl ⟨v_21, rfl, hsh.pick [1]⟩
        · rw [if_neg c66] at H
          replace c66 := Bool.eq_false_iff.2 c66
          refine wp_condF hst rfl c66 ?_
          refine wp_skip ?_
          refine then_normal ?_
          refine wp_region_lit ?_
          refine r_t hst trivial rfl (x_move hst rfl) ?_; intro a hst
          refine r_t hst trivial rfl (x_assign hst rfl) ?_; intro a hst
          refine wpList_nil ?_
          refine block_normal ?_
          refine then_normal ?_
          exact ⟨k_28, Nat.lt_succ_self _, v63, r61, H, hst.keep _ ⟨rfl, rfl, rfl, rfl, trivial⟩, hsh.pick [0]⟩
      · rw [if_neg c58] at H
        replace c58 := Bool.eq_false_iff.2 c58
        refine wp_condF hst rfl c58 ?_
        refine wp_exit ?_
        refine then_exit ?_
        refine then_exit ?_
        refine block_hit ?_
        refine then_normal ?_
        refine wp_seq ?_
        refine wp_region_lit ?_
        refine r_t hst trivial rfl (x_move hst rfl) ?_; intro a hst
        refine r_t hst trivial rfl (x_assign hst rfl) ?_; intro a hst
        refine wpList_nil ?_
        refine then_normal ?_
        refine wp_ret ?_
        obtain rfl := Option.some.inj H
        exact ret1 hst rfl rfl ⟨v_21, rfl, hsh.pick [0]⟩

set_option maxHeartbeats 4000000 in
set_option maxRecDepth 100000 in
theorem r22_below.calls (k : Nat) (w : World) (va0 : Value) (Za0 : Nat → Prop) (wra0 : World) (hsa0 : Same Za0 wra0 w) (a0 : (List (List File))) (hra0 : RD (Kd.slice 43 k_File) Za0 wra0 va0 a0) (a1 : Int) (va2 : Value) (Za2 : Nat → Prop) (wra2 : World) (hsa2 : Same Za2 wra2 w) (a2 : (List File)) (hra2 : RD k_File Za2 wra2 va2 a2) (r : (List File)) (h : r22_below k a0 a1 a2 = some r) :
    Calls Try.prog 33 ([va0, .int .i64 a1, va2] : List Value).toArray w fun e w' => ∃ v0_ : Value, e = .returned (v0_) ∧ SH (fun _ => False) w w' [Row k_File 43 v0_ r] := by
  have H := h
  clear h
  unfold r22_below at H
  refine calls_enter Try.func33 rfl rfl ?_
  intro a hst
  have hsh := SH.zero (fun _ => False) w
  refine wp_seq ?_
  refine wp_region_lit ?_
  refine r_t hst trivial rfl (x_assign hst rfl) ?_; intro a hst
  refine wpList_nil ?_
  refine then_normal ?_
  refine wp_seq ?_
  refine wp_region_lit ?_
  refine r_t hst trivial rfl (x_move hst rfl) ?_; intro a hst
  obtain ⟨r1, hr1, H⟩ := Option.bind_eq_some_iff.1 H
  refine r_callD hst trivial rfl fn_57 rfl (r16_Span.calls k _ _ _ _ (Same.sh0 hsa2 hsh) _ hra2 r1 hr1) ?_
  rintro e w2 ⟨rfl, hc⟩
  replace hsh := hsh.call0 hc
  clear hc
  refine ⟨_, rfl, fun a hst => ?_⟩
  refine r_t hst trivial rfl (x_move hst rfl) ?_; intro a hst
  refine r_t hst trivial rfl (x_extract hst rfl rfl) ?_; intro a hst
  refine r_t hst trivial rfl (x_extract hst rfl rfl) ?_; intro a hst
  refine r_t hst trivial rfl (x_extract hst rfl rfl) ?_; intro a hst
  refine r_t hst trivial rfl (x_assign hst rfl) ?_; intro a hst
  refine r_t hst trivial rfl (x_assign hst rfl) ?_; intro a hst
  refine r_t hst trivial rfl (x_assign hst rfl) ?_; intro a hst
  refine wpList_nil ?_
  refine then_normal ?_
  refine wp_seq ?_
  refine wp_region_lit ?_
  refine r_t hst trivial rfl (x_move hst rfl) ?_; intro a hst
  refine r_t hst trivial rfl (x_move hst rfl) ?_; intro a hst
  refine r_t hst trivial rfl (x_arI (r := w64 (a1 + 1)) hst rfl rfl rfl) ?_; intro a hst
  refine r_t hst trivial rfl (x_move hst rfl) ?_; intro a hst
  refine r_t hst trivial rfl (x_move hst rfl) ?_; intro a hst
  obtain ⟨r3, hr3, H⟩ := Option.bind_eq_some_iff.1 H
  refine r_callD hst trivial rfl fn_58 rfl (r16_Over.calls k _ _ _ _ (Same.sh0 hsa0 hsh) _ hra0 (w64 (a1 + 1)) r1.1 r1.2.1 r3 hr3) ?_
  rintro e w4 ⟨v5, rfl, hc⟩
  replace hsh := hsh.call0 hc
  clear hc
  refine ⟨_, rfl, fun a hst => ?_⟩
  refine r_t hst trivial rfl (x_assign hst rfl) ?_; intro a hst
  refine wpList_nil ?_
  refine then_normal ?_
  refine wp_ret ?_
  obtain rfl := Option.some.inj H
  exact ret1 hst rfl rfl ⟨v5, rfl, hsh.pick [0]⟩

set_option maxHeartbeats 4000000 in
set_option maxRecDepth 100000 in
theorem r22_same.calls (k : Nat) (w : World) (va0 : Value) (Za0 : Nat → Prop) (wra0 : World) (hsa0 : Same Za0 wra0 w) (a0 : (List File)) (hra0 : RD k_File Za0 wra0 va0 a0) (va1 : Value) (Za1 : Nat → Prop) (wra1 : World) (hsa1 : Same Za1 wra1 w) (a1 : (List File)) (hra1 : RD k_File Za1 wra1 va1 a1) (r : Bool) (h : r22_same k a0 a1 = some r) :
    Calls Try.prog 34 ([va0, va1] : List Value).toArray w fun e w' => e = .returned (.bool r) ∧ SH (fun _ => False) w w' [] := by
  have H := h
  clear h
  unfold r22_same at H
  refine calls_enter Try.func34 rfl rfl ?_
  intro a hst
  have hsh := SH.zero (fun _ => False) w
  refine wp_seq ?_
  refine wp_region_lit ?_
  refine r_t hst trivial rfl (x_assign hst rfl) ?_; intro a hst
  refine wpList_nil ?_
  refine then_normal ?_
  refine wp_seq ?_
  refine wp_seq ?_
  refine wp_region_lit ?_
  refine r_t hst trivial rfl (x_move hst rfl) ?_; intro a hst
  refine r_t hst trivial rfl (x_lenSl hst Try.underlying31 rfl hra0.slen) ?_; intro a hst
  refine r_t hst trivial rfl (x_move hst rfl) ?_; intro a hst
  refine r_t hst trivial rfl (x_lenSl hst Try.underlying31 rfl hra1.slen) ?_; intro a hst
  refine r_t hst trivial rfl (x_cmpI (b := ((a0.length : Int) != (a1.length : Int))) hst rfl rfl rfl) ?_; intro a hst
  refine wpList_nil ?_
  refine then_normal ?_
  by_cases c2 : ((a0.length : Int) != (a1.length : Int)) = true
  · rw [if_pos c2] at H
    refine wp_condT hst rfl c2 ?_
    refine wp_seq ?_
    refine wp_region_lit ?_
    refine r_t hst trivial rfl (x_assign hst rfl) ?_; intro a hst
    refine wpList_nil ?_
    refine then_normal ?_
    refine wp_ret ?_
    refine then_ret ?_
    obtain rfl := Option.some.inj H
    exact ret1 hst rfl rfl ⟨rfl, hsh.pick []⟩
  · rw [if_neg c2] at H
    replace c2 := Bool.eq_false_iff.2 c2
    refine wp_condF hst rfl c2 ?_
    refine wp_skip ?_
    refine then_normal ?_
    refine wp_seq ?_
    refine wp_seq ?_
    refine wp_region_lit ?_
    refine r_t hst trivial rfl (x_assign hst rfl) ?_; intro a hst
    refine wpList_nil ?_
    refine then_normal ?_
    refine wp_block ?_
    refine wp_loop_fuel (fun k_16 a w' => ∃ (i_12 : Int), r22_same.l0 a0 a1 k_16 i_12 = some r ∧ ST Try.f34.ntmps a [(0, va0), (1, va1), (4, .bool false), (5, .int .i64 i_12)] ∧ SH (fun _ => False) w w' []) k ?_ ?_
    · exact ⟨0, H, hst.keep _ ⟨rfl, rfl, rfl, rfl, trivial⟩, hsh.pick []⟩
    · rintro k_16 a W_13 ⟨i_12, H, hst, hsh⟩
      cases k_16 with
      | zero => rw [r22_same.l0] at H; cases H
      | succ k_16 =>
        rw [r22_same.l0] at H
        refine wp_seq ?_
        refine wp_seq ?_
        refine wp_region_lit ?_
        refine r_t hst trivial rfl (x_move hst rfl) ?_; intro a hst
        refine r_t hst trivial rfl (x_move hst rfl) ?_; intro a hst
        refine r_t hst trivial rfl (x_lenSl hst Try.underlying31 rfl hra0.slen) ?_; intro a hst
        refine r_t hst trivial rfl (x_cmpI (b := decide (i_12 < (a0.length : Int))) hst rfl rfl rfl) ?_; intro a hst
        refine wpList_nil ?_
        refine then_normal ?_
        by_cases c54 : (decide (i_12 < (a0.length : Int))) = true
        · rw [if_pos c54] at H
          refine wp_condT hst rfl c54 ?_
          refine wp_skip ?_
          refine then_normal ?_
          refine wp_seq ?_
          refine wp_block ?_
          refine wp_seq ?_
          refine wp_region_q (fun w' => SH (fun _ => False) w w' []) hsh.drew fo (by kernel_rfl) ?_
          refine q_t hst trivial rfl (fun _ hsh => x_move hst rfl) ?_; intro a hst
          refine q_t hst trivial rfl (fun _ hsh => x_move hst rfl) ?_; intro a hst
          obtain ⟨x59, hx59, H⟩ := Option.bind_eq_some_iff.1 H
          refine q_t hst trivial rfl (fun _ hsh => x_indexAddr hst Try.underlying31 el_43 rfl rfl hra0 hx59) ?_; intro a hst
          refine q_t hst trivial rfl (fun _ hsh => x_loadEsF (j := 0) (cs := [.int .i64 x59.Number, .int .i64 x59.Size, .string x59.Least, .string x59.Limit, .int .u64 x59.Low, .int .u64 x59.High]) (ps := [.int .i64 x59.Number, .int .i64 x59.Size, .string x59.Least, .string x59.Limit, .int .u64 x59.Low, .int .u64 x59.High]) hst ag_43 rfl hra0 (Same.sh0 hsa0 hsh) hx59 rfl (fun _ h => h) rfl) ?_; intro a hst
          refine q_t hst trivial rfl (fun _ hsh => x_move hst rfl) ?_; intro a hst
          refine q_t hst trivial rfl (fun _ hsh => x_move hst rfl) ?_; intro a hst
          obtain ⟨x60, hx60, H⟩ := Option.bind_eq_some_iff.1 H
          refine q_t hst trivial rfl (fun _ hsh => x_indexAddr hst Try.underlying31 el_43 rfl rfl hra1 hx60) ?_; intro a hst
          refine q_t hst trivial rfl (fun _ hsh => x_loadEsF (j := 0) (cs := [.int .i64 x60.Number, .int .i64 x60.Size, .string x60.Least, .string x60.Limit, .int .u64 x60.Low, .int .u64 x60.High]) (ps := [.int .i64 x60.Number, .int .i64 x60.Size, .string x60.Least, .string x60.Limit, .int .u64 x60.Low, .int .u64 x60.High]) hst ag_43 rfl hra1 (Same.sh0 hsa1 hsh) hx60 rfl (fun _ h => h) rfl) ?_; intro a hst
          refine q_t hst trivial rfl (fun _ hsh => x_eqSn (b := File.eqb x59 x60) (x0 := x59) (y0 := x60) hst eqof_43 rfl rfl rfl) ?_; intro a hst
          refine q_nil ?_
          intro w61 hsh
          refine then_normal ?_
          by_cases c62 : (!File.eqb x59 x60) = true
          · rw [if_pos c62] at H
            refine wp_condT hst rfl c62 ?_
            refine wp_seq ?_
            refine wp_region_lit ?_
            refine r_t hst trivial rfl (x_assign hst rfl) ?_; intro a hst
            refine wpList_nil ?_
            refine then_normal ?_
            refine wp_ret ?_
            refine block_ret ?_
            refine then_ret ?_
            refine then_ret ?_
            refine block_ret ?_
            refine then_ret ?_
            obtain rfl := Option.some.inj H
            exact ret1 hst rfl rfl ⟨rfl, hsh.pick []⟩
          · rw [if_neg c62] at H
            replace c62 := Bool.eq_false_iff.2 c62
            refine wp_condF hst rfl c62 ?_
            refine wp_skip ?_
            refine block_normal ?_
            refine then_normal ?_
            refine wp_region_lit ?_
            refine r_t hst trivial rfl (x_move hst rfl) ?_; intro a hst
            refine r_t hst trivial rfl (x_arI (r := w64 (i_12 + 1)) hst rfl rfl rfl) ?_; intro a hst
            refine r_t hst trivial rfl (x_assign hst rfl) ?_; intro a hst
            refine wpList_nil ?_
            refine then_normal ?_
            exact ⟨k_16, Nat.lt_succ_self _, (w64 (i_12 + 1)), H, hst.keep _ ⟨rfl, rfl, rfl, rfl, trivial⟩, hsh.pick []⟩
        · rw [if_neg c54] at H
          replace c54 := Bool.eq_false_iff.2 c54
          refine wp_condF hst rfl c54 ?_
          refine wp_exit ?_
          refine then_exit ?_
          refine then_exit ?_
          refine block_hit ?_
          refine then_normal ?_
          refine wp_seq ?_
          refine wp_region_lit ?_
          refine r_t hst trivial rfl (x_assign hst rfl) ?_; intro a hst
          refine wpList_nil ?_
          refine then_normal ?_
          refine wp_ret ?_
          obtain rfl := Option.some.inj H
          exact ret1 hst rfl rfl ⟨rfl, hsh.pick []⟩

set_option maxHeartbeats 4000000 in
set_option maxRecDepth 100000 in
theorem r22_bytes.calls (k : Nat) (w : World) (va0 : Value) (Za0 : Nat → Prop) (wra0 : World) (hsa0 : Same Za0 wra0 w) (a0 : (List File)) (hra0 : RD k_File Za0 wra0 va0 a0) (r : Int) (h : r22_bytes k a0 = some r) :
    Calls Try.prog 35 ([va0] : List Value).toArray w fun e w' => e = .returned (.int .i64 r) ∧ SH (fun _ => False) w w' [] := by
  have H := h
  clear h
  unfold r22_bytes at H
  refine calls_enter Try.func35 rfl rfl ?_
  intro a hst
  have hsh := SH.zero (fun _ => False) w
  refine wp_seq ?_
  refine wp_region_lit ?_
  refine r_t hst trivial rfl (x_assign hst rfl) ?_; intro a hst
  refine wpList_nil ?_
  refine then_normal ?_
  refine wp_seq ?_
  refine wp_region_lit ?_
  refine r_t hst trivial rfl (x_assign hst rfl) ?_; intro a hst
  refine wpList_nil ?_
  refine then_normal ?_
  refine wp_seq ?_
  refine wp_seq ?_
  refine wp_region_lit ?_
  refine r_t hst trivial rfl (x_assign hst rfl) ?_; intro a hst
  refine wpList_nil ?_
  refine then_normal ?_
  refine wp_block ?_
  refine wp_loop_fuel (fun k_22 a w' => ∃ (i_16 : Int), ∃ (i_17 : Int), r22_bytes.l0 a0 k_22 i_16 i_17 = some r ∧ ST Try.f35.ntmps a [(0, va0), (2, .int .i64 0), (3, .int .i64 i_16), (4, .int .i64 i_17)] ∧ SH (fun _ => False) w w' []) k ?_ ?_
  · exact ⟨0, 0, H, hst.keep _ ⟨rfl, rfl, rfl, rfl, trivial⟩, hsh.pick []⟩
  · rintro k_22 a W_18 ⟨i_16, i_17, H, hst, hsh⟩
    cases k_22 with
    | zero => rw [r22_bytes.l0] at H; cases H
    | succ k_22 =>
      rw [r22_bytes.l0] at H
      refine wp_seq ?_
      refine wp_seq ?_
      refine wp_region_lit ?_
      refine r_t hst trivial rfl (x_move hst rfl) ?_; intro a hst
      refine r_t hst trivial rfl (x_move hst rfl) ?_; intro a hst
      refine r_t hst trivial rfl (x_lenSl hst Try.underlying31 rfl hra0.slen) ?_; intro a hst
      refine r_t hst trivial rfl (x_cmpI (b := decide (i_17 < (a0.length : Int))) hst rfl rfl rfl) ?_; intro a hst
      refine wpList_nil ?_
      refine then_normal ?_
      by_cases c22 : (decide (i_17 < (a0.length : Int))) = true
      · rw [if_pos c22] at H
        refine wp_condT hst rfl c22 ?_
        refine wp_skip ?_
        refine then_normal ?_
        refine wp_seq ?_
        refine wp_block ?_
        refine wp_region_lit ?_
        refine r_t hst trivial rfl (x_move hst rfl) ?_; intro a hst
        refine r_t hst trivial rfl (x_move hst rfl) ?_; intro a hst
        refine r_t hst trivial rfl (x_move hst rfl) ?_; intro a hst
        obtain ⟨x24, hx24, H⟩ := Option.bind_eq_some_iff.1 H
        refine r_t hst trivial rfl (x_indexAddr hst Try.underlying31 el_43 rfl rfl hra0 hx24) ?_; intro a hst
        refine r_t hst trivial rfl (x_fieldAddrE (n' := Int.toNat i_17 * k_File.sz + 1) hst fa_43_1 rfl rfl) ?_; intro a hst
        refine r_t hst trivial rfl (x_loadEF (j := 1) (cs := [.int .i64 x24.Number, .int .i64 x24.Size, .string x24.Least, .string x24.Limit, .int .u64 x24.Low, .int .u64 x24.High]) hst sc_3 rfl hra0 (Same.sh0 hsa0 hsh) hx24 rfl (fun _ h => h) rfl) ?_; intro a hst
        refine r_t hst trivial rfl (x_arI (r := w64 (i_16 + x24.Size)) hst rfl rfl rfl) ?_; intro a hst
        refine r_t hst trivial rfl (x_assign hst rfl) ?_; intro a hst
        refine wpList_nil ?_
        refine block_normal ?_
        refine then_normal ?_
        refine wp_region_lit ?_
        refine r_t hst trivial rfl (x_move hst rfl) ?_; intro a hst
        refine r_t hst trivial rfl (x_arI (r := w64 (i_17 + 1)) hst rfl rfl rfl) ?_; intro a hst
        refine r_t hst trivial rfl (x_assign hst rfl) ?_; intro a hst
        refine wpList_nil ?_
        refine then_normal ?_
        exact ⟨k_22, Nat.lt_succ_self _, (w64 (i_16 + x24.Size)), (w64 (i_17 + 1)), H, hst.keep _ ⟨rfl, rfl, rfl, rfl, trivial⟩, hsh.pick []⟩
      · rw [if_neg c22] at H
        replace c22 := Bool.eq_false_iff.2 c22
        refine wp_condF hst rfl c22 ?_
        refine wp_exit ?_
        refine then_exit ?_
        refine then_exit ?_
        refine block_hit ?_
        refine then_normal ?_
        refine wp_seq ?_
        refine wp_region_lit ?_
        refine r_t hst trivial rfl (x_move hst rfl) ?_; intro a hst
        refine r_t hst trivial rfl (x_assign hst rfl) ?_; intro a hst
        refine wpList_nil ?_
        refine then_normal ?_
        refine wp_ret ?_
        obtain rfl := Option.some.inj H
        exact ret1 hst rfl rfl ⟨rfl, hsh.pick []⟩

set_option maxHeartbeats 4000000 in
set_option maxRecDepth 100000 in
theorem r22_Next.calls (k : Nat) (w : World) (va0 : Value) (Za0 : Nat → Prop) (wra0 : World) (hsa0 : Same Za0 wra0 w) (a0 : (List (List File))) (hra0 : RD (Kd.slice 43 k_File) Za0 wra0 va0 a0) (a1 : Config) (va1_0 : Value) (Za1_0 : Nat → Prop) (wra1_0 : World) (hsa1_0 : Same Za1_0 wra1_0 w) (hra1_0 : RD (Kd.int .i64) Za1_0 wra1_0 va1_0 a1.Heights) (va2 : Value) (Za2 : Nat → Prop) (wra2 : World) (hsa2 : Same Za2 wra2 w) (a2 : (List ByteArray)) (hra2 : RD Kd.str Za2 wra2 va2 a2) (r : (R22_Plan × Bool)) (h : r22_Next k a0 a1 a2 = some r) :
    Calls Try.prog 9 ([va0, .agg #[.int .i64 a1.Block, .int .i64 a1.Mem, .int .i64 a1.Frozen, .int .i64 a1.Shape.Page, .int .i64 a1.Shape.Restart, .int .i64 a1.Shape.Bits, .int .i64 a1.Cut, .int .i64 a1.Files0, .int .i64 a1.Stop0, .int .i64 a1.Base, .int .i64 a1.Ratio, .int .i64 a1.Levels, .int .i64 a1.Chunk, .int .i64 a1.Roll, .int .i64 a1.Clients, va1_0], va2] : List Value).toArray w fun e w' => ∃ v0_ : Value, ∃ v1_ : Value, e = .returned (.tuple #[.agg #[.int .i64 r.1.Level, v0_, v1_, .bool r.1.Trivial], .bool r.2]) ∧ SH (fun _ => False) w w' [Row k_File 43 v0_ r.1.Upper, Row k_File 43 v1_ r.1.Lower] := by
  have H := h
  clear h
  unfold r22_Next at H
  refine calls_enter Try.func9 rfl rfl ?_
  intro a hst
  have hsh := SH.zero (fun _ => False) w
  refine wp_seq ?_
  refine wp_region_lit ?_
  refine r_box hst hsh trivial rfl rfl rfl ?_
  intro g1 a w2 hgg1 hsh hst
  refine r_alloc hst hsh trivial rfl zr_36 ?_
  intro g3 a w4 hgg3 hsh hst
  refine r_t hst trivial rfl (x_assign hst rfl) ?_; intro a hst
  refine wpList_nil ?_
  refine then_normal ?_
  refine wp_seq ?_
  refine wp_region_lit ?_
  refine r_t hst trivial rfl (x_assign hst rfl) ?_; intro a hst
  refine r_t hst trivial rfl (x_assign hst rfl) ?_; intro a hst
  refine wpList_nil ?_
  refine then_normal ?_
  refine wp_seq ?_
  refine wp_seq ?_
  refine wp_region_lit ?_
  refine r_t hst trivial rfl (x_assign hst rfl) ?_; intro a hst
  refine wpList_nil ?_
  refine then_normal ?_
  refine wp_block ?_
  refine wp_loop_fuel (fun k_48 a w' => ∃ (i_36 : Int), ∃ (i_37 : Int), ∃ (i_38 : Int), r22_Next.l0 a0 a1 a2 k_48 i_36 i_37 i_38 = some r ∧ ST Try.f9.ntmps a [(0, va0), (2, va2), (4, .pointer (some ⟨g1, 0, none⟩)), (6, .pointer (some ⟨g3, 0, none⟩)), (7, .bool false), (8, .int .i64 i_36), (9, .int .i64 i_37), (10, .int .i64 i_38)] ∧ SH (fun _ => False) w w' [Box g1 [.int .i64 a1.Block, .int .i64 a1.Mem, .int .i64 a1.Frozen, .int .i64 a1.Shape.Page, .int .i64 a1.Shape.Restart, .int .i64 a1.Shape.Bits, .int .i64 a1.Cut, .int .i64 a1.Files0, .int .i64 a1.Stop0, .int .i64 a1.Base, .int .i64 a1.Ratio, .int .i64 a1.Levels, .int .i64 a1.Chunk, .int .i64 a1.Roll, .int .i64 a1.Clients, va1_0] 28, Box g3 [.int .i64 0, (.slice none 0 0), (.slice none 0 0), .bool false] 36]) k ?_ ?_
  · exact ⟨0, (-1), 0, H, hst.keep _ ⟨rfl, rfl, rfl, rfl, rfl, rfl, rfl, rfl, trivial⟩, hsh.pick [1, 0]⟩
  · rintro k_48 a W_39 ⟨i_36, i_37, i_38, H, hst, hsh⟩
    cases k_48 with
    | zero => rw [r22_Next.l0] at H; cases H
    | succ k_48 =>
      rw [r22_Next.l0] at H
      refine wp_seq ?_
      refine wp_seq ?_
      refine wp_region_lit ?_
      refine r_t hst trivial rfl (x_move hst rfl) ?_; intro a hst
      refine r_t hst trivial rfl (x_move hst rfl) ?_; intro a hst
      refine r_t hst trivial rfl (x_lenSl hst Try.underlying23 rfl hra0.slen) ?_; intro a hst
      refine r_t hst trivial rfl (x_cmpI (b := decide (i_38 < (a0.length : Int))) hst rfl rfl rfl) ?_; intro a hst
      refine wpList_nil ?_
      refine then_normal ?_
      by_cases c56 : (decide (i_38 < (a0.length : Int))) = true
      · rw [if_pos c56] at H
        refine wp_condT hst rfl c56 ?_
        refine wp_skip ?_
        refine then_normal ?_
        obtain ⟨J_52, hJ_52, H⟩ := Jn.elim H
        refine wp_cut (fun a w' => ∃ (i_49 : Int), ∃ (i_50 : Int), J_52 i_49 i_50 = some r ∧ ST Try.f9.ntmps a [(0, va0), (2, va2), (4, .pointer (some ⟨g1, 0, none⟩)), (6, .pointer (some ⟨g3, 0, none⟩)), (7, .bool false), (8, .int .i64 i_49), (9, .int .i64 i_50), (10, .int .i64 i_38)] ∧ SH (fun _ => False) w w' [Box g1 [.int .i64 a1.Block, .int .i64 a1.Mem, .int .i64 a1.Frozen, .int .i64 a1.Shape.Page, .int .i64 a1.Shape.Restart, .int .i64 a1.Shape.Bits, .int .i64 a1.Cut, .int .i64 a1.Files0, .int .i64 a1.Stop0, .int .i64 a1.Base, .int .i64 a1.Ratio, .int .i64 a1.Levels, .int .i64 a1.Chunk, .int .i64 a1.Roll, .int .i64 a1.Clients, va1_0] 28, Box g3 [.int .i64 0, (.slice none 0 0), (.slice none 0 0), .bool false] 36]) ?_ ?_
        · rintro a W_51 ⟨i_49, i_50, H, hst, hsh⟩
          subst hJ_52
          dsimp only at H
          refine wp_region_lit ?_
          refine r_t hst trivial rfl (x_move hst rfl) ?_; intro a hst
          refine r_t hst trivial rfl (x_arI (r := w64 (i_38 + 1)) hst rfl rfl rfl) ?_; intro a hst
          refine r_t hst trivial rfl (x_assign hst rfl) ?_; intro a hst
          refine wpList_nil ?_
          refine then_normal ?_
          exact ⟨k_48, Nat.lt_succ_self _, i_49, i_50, (w64 (i_38 + 1)), H, hst.keep _ ⟨rfl, rfl, rfl, rfl, rfl, rfl, rfl, rfl, trivial⟩, hsh.pick [0, 0]⟩
        · refine wp_block ?_
          refine wp_seq ?_
          refine wp_region_lit ?_
          refine r_t hst trivial rfl (x_move hst rfl) ?_; intro a hst
          refine r_t hst trivial rfl (x_loadBs (i := 0) (ps := [.int .i64 a1.Block, .int .i64 a1.Mem, .int .i64 a1.Frozen, .int .i64 a1.Shape.Page, .int .i64 a1.Shape.Restart, .int .i64 a1.Shape.Bits, .int .i64 a1.Cut, .int .i64 a1.Files0, .int .i64 a1.Stop0, .int .i64 a1.Base, .int .i64 a1.Ratio, .int .i64 a1.Levels, .int .i64 a1.Chunk, .int .i64 a1.Roll, .int .i64 a1.Clients, va1_0]) hst hsh ag_28 rfl rfl rfl) ?_; intro a hst
          refine r_t hst trivial rfl (x_move hst rfl) ?_; intro a hst
          obtain ⟨r61, hr61, H⟩ := Option.bind_eq_some_iff.1 H
          refine r_callD hst trivial rfl fn_30 rfl (r22_Score.calls k_48 _ _ _ _ (Same.sh0 hsa0 hsh) _ hra0 a1 _ _ _ (Same.sh0 hsa1_0 hsh) hra1_0 i_38 r61 hr61) ?_
          rintro e w62 ⟨rfl, hc⟩
          replace hsh := hsh.call0 hc
          clear hc
          refine ⟨_, rfl, fun a hst => ?_⟩
          refine r_t hst trivial rfl (x_assign hst rfl) ?_; intro a hst
          refine wpList_nil ?_
          refine then_normal ?_
          refine wp_seq ?_
          refine wp_region_lit ?_
          refine r_t hst trivial rfl (x_move hst rfl) ?_; intro a hst
          refine r_t hst trivial rfl (x_cmpI (b := decide (1000 ≤ r61)) hst rfl rfl rfl) ?_; intro a hst
          refine r_t hst trivial rfl (x_move hst rfl) ?_; intro a hst
          refine wl_join0 (N := Try.f9.ntmps) 7 [(0, va0), (2, va2), (4, .pointer (some ⟨g1, 0, none⟩)), (6, .pointer (some ⟨g3, 0, none⟩)), (7, .bool false), (8, .int .i64 i_36), (9, .int .i64 i_37), (10, .int .i64 i_38), (11, .int .i64 r61), (31, .bool ((decide (1000 ≤ r61)) && (decide (i_36 < r61))))] ?_ ?_
          · intro a hst
            refine wpList_nil ?_
            refine then_normal ?_
            by_cases c64 : ((decide (1000 ≤ r61)) && (decide (i_36 < r61))) = true
            · rw [if_pos c64] at H
              refine wp_condT hst rfl c64 ?_
              refine wp_seq ?_
              refine wp_region_lit ?_
              refine r_t hst trivial rfl (x_move hst rfl) ?_; intro a hst
              refine r_t hst trivial rfl (x_assign hst rfl) ?_; intro a hst
              refine wpList_nil ?_
              refine then_normal ?_
              refine wp_region_lit ?_
              refine r_t hst trivial rfl (x_move hst rfl) ?_; intro a hst
              refine r_t hst trivial rfl (x_assign hst rfl) ?_; intro a hst
              refine wpList_nil ?_
              refine block_normal ?_
              refine then_normal ?_
              exact ⟨r61, i_38, H, hst.keep _ ⟨rfl, rfl, rfl, rfl, rfl, rfl, rfl, rfl, trivial⟩, hsh.pick [0, 0]⟩
            · rw [if_neg c64] at H
              replace c64 := Bool.eq_false_iff.2 c64
              refine wp_condF hst rfl c64 ?_
              refine wp_skip ?_
              refine block_normal ?_
              refine then_normal ?_
              exact ⟨i_36, i_37, H, hst.keep _ ⟨rfl, rfl, rfl, rfl, rfl, rfl, rfl, rfl, trivial⟩, hsh.pick [0, 0]⟩
          · intro hj
            by_cases c63 : (decide (1000 ≤ r61)) = true
            · refine r_t hst (wt_of 27 rfl rfl c63) rfl (x_move hst rfl) ?_; intro a hst
              refine r_t hst (wt_of 27 rfl rfl c63) rfl (x_move hst rfl) ?_; intro a hst
              refine r_t hst (wt_of 27 rfl rfl c63) rfl (x_cmpI (b := decide (i_36 < r61)) hst rfl rfl rfl) ?_; intro a hst
              refine r_t hst trivial rfl (x_andT hst rfl c63 rfl) ?_; intro a hst
              exact hj _ (hst.keep _ ⟨rfl, rfl, rfl, rfl, rfl, rfl, rfl, rfl, rfl, rfl, trivial⟩)
            · replace c63 := Bool.eq_false_iff.2 c63
              refine r_not hst 27 rfl rfl c63 rfl ?_; intro a hst
              refine r_not hst 27 rfl rfl c63 rfl ?_; intro a hst
              refine r_not hst 27 rfl rfl c63 rfl ?_; intro a hst
              refine r_t hst trivial rfl (x_andF (decide (i_36 < r61)) hst rfl c63 rfl) ?_; intro a hst
              exact hj _ (hst.keep _ ⟨rfl, rfl, rfl, rfl, rfl, rfl, rfl, rfl, rfl, rfl, trivial⟩)
      · rw [if_neg c56] at H
        replace c56 := Bool.eq_false_iff.2 c56
        refine wp_condF hst rfl c56 ?_
        refine wp_exit ?_
        refine then_exit ?_
        refine then_exit ?_
        refine block_hit ?_
        refine then_normal ?_
        refine wp_seq ?_
        refine wp_seq ?_
        refine wp_region_lit ?_
        refine r_t hst trivial rfl (x_move hst rfl) ?_; intro a hst
        refine r_t hst trivial rfl (x_cmpI (b := decide (i_37 < 0)) hst rfl rfl rfl) ?_; intro a hst
        refine wpList_nil ?_
        refine then_normal ?_
        by_cases c67 : (decide (i_37 < 0)) = true
        · rw [if_pos c67] at H
          refine wp_condT hst rfl c67 ?_
          refine wp_seq ?_
          refine wp_region_lit ?_
          refine r_t hst trivial rfl (x_build (cs := [.int .i64 0, (.slice none 0 0), (.slice none 0 0), .bool false]) hst rfl (by kernel_rfl)) ?_; intro a hst
          refine r_storeBs (i := 1) (cs' := [.int .i64 0, (.slice none 0 0), (.slice none 0 0), .bool false]) (vs := [.int .i64 0, (.slice none 0 0), (.slice none 0 0), .bool false]) hst hsh trivial ag_36 rfl rfl rfl rfl (one_cons rfl (one_cons rfl (one_cons rfl (one_cons rfl rfl)))) rfl ?_; intro a w68 hsh hst
          refine r_t hst trivial rfl (x_assign hst rfl) ?_; intro a hst
          refine wpList_nil ?_
          refine then_normal ?_
          refine wp_ret ?_
          refine then_ret ?_
          obtain rfl := Option.some.inj H
          have hsh := hsh.addNil k_File 43
          have hsh := hsh.addNil k_File 43
          exact ret_ct hst rfl rfl (box_var (i := 2) hsh ag_36 rfl rfl) rfl ⟨(.slice none 0 0), (.slice none 0 0), rfl, hsh.pick [1, 0]⟩
        · rw [if_neg c67] at H
          replace c67 := Bool.eq_false_iff.2 c67
          refine wp_condF hst rfl c67 ?_
          refine wp_skip ?_
          refine then_normal ?_
          refine wp_seq ?_
          refine wp_region_lit ?_
          refine r_t hst trivial rfl (x_move hst rfl) ?_; intro a hst
          refine r_t hst trivial rfl (x_move hst rfl) ?_; intro a hst
          obtain ⟨x71, hx71, H⟩ := Option.bind_eq_some_iff.1 H
          refine r_t hst trivial rfl (x_indexAddr hst Try.underlying23 el_31 rfl rfl hra0 hx71) ?_; intro a hst
          obtain ⟨_, hk72, hc73⟩ := RD.cells2 hra0 hx71
          obtain ⟨v74, rfl, hr75⟩ := hk72
          refine r_t hst trivial rfl (x_loadC hst sc_31 rfl (hc73 _ (Same.sh0 hsa0 hsh) 0 _ rfl)) ?_; intro a hst
          refine r_t hst trivial rfl (x_move hst rfl) ?_; intro a hst
          refine r_t hst trivial rfl (x_move hst rfl) ?_; intro a hst
          obtain ⟨r76, hr76, H⟩ := Option.bind_eq_some_iff.1 H
          refine r_callD hst trivial rfl fn_31 rfl (r22_first.calls k_48 _ _ _ _ (Same.sh0 hsa0 hsh) _ hr75 i_37 _ _ _ (Same.sh0 hsa2 hsh) _ hra2 r76 hr76) ?_
          rintro e w77 ⟨rfl, hc⟩
          replace hsh := hsh.call0 hc
          clear hc
          refine ⟨_, rfl, fun a hst => ?_⟩
          refine r_buildSlice (vs := [.agg #[.int .i64 r76.Number, .int .i64 r76.Size, .string r76.Least, .string r76.Limit, .int .u64 r76.Low, .int .u64 r76.High]]) (cs := [.int .i64 r76.Number, .int .i64 r76.Size, .string r76.Least, .string r76.Limit, .int .u64 r76.Low, .int .u64 r76.High]) hst hsh trivial rfl Try.underlying31 el_43 rfl rfl (by simp [Value.cells]) rfl rfl ?_
          intro g78 a w79 hgg78 hsh hst
          replace hsh := hsh.pick [0, 0, 0]
          replace hsh : SH (fun _ => False) w w79 [Row k_File 43 (.slice (some ⟨g78, 0, none⟩) 1 1) ([r76]), Box g1 [.int .i64 a1.Block, .int .i64 a1.Mem, .int .i64 a1.Frozen, .int .i64 a1.Shape.Page, .int .i64 a1.Shape.Restart, .int .i64 a1.Shape.Bits, .int .i64 a1.Cut, .int .i64 a1.Files0, .int .i64 a1.Stop0, .int .i64 a1.Base, .int .i64 a1.Ratio, .int .i64 a1.Levels, .int .i64 a1.Chunk, .int .i64 a1.Roll, .int .i64 a1.Clients, va1_0] 28, Box g3 [.int .i64 0, (.slice none 0 0), (.slice none 0 0), .bool false] 36] := SH.boxRow ([r76] : List File) hsh rfl rfl rfl
          refine r_t hst trivial rfl (x_assign hst rfl) ?_; intro a hst
          refine wpList_nil ?_
          refine then_normal ?_
          obtain ⟨J_57, hJ_57, H⟩ := Jn.elim H
          refine wp_cut (fun a w' => ∃ (v_54 : Value), ∃ (l_55 : (List File)), J_57 l_55 = some r ∧ ST Try.f9.ntmps a [(0, va0), (4, .pointer (some ⟨g1, 0, none⟩)), (6, .pointer (some ⟨g3, 0, none⟩)), (7, .bool false), (9, .int .i64 i_37), (12, v_54)] ∧ SH (fun _ => False) w w' [Box g1 [.int .i64 a1.Block, .int .i64 a1.Mem, .int .i64 a1.Frozen, .int .i64 a1.Shape.Page, .int .i64 a1.Shape.Restart, .int .i64 a1.Shape.Bits, .int .i64 a1.Cut, .int .i64 a1.Files0, .int .i64 a1.Stop0, .int .i64 a1.Base, .int .i64 a1.Ratio, .int .i64 a1.Levels, .int .i64 a1.Chunk, .int .i64 a1.Roll, .int .i64 a1.Clients, va1_0] 28, Box g3 [.int .i64 0, (.slice none 0 0), (.slice none 0 0), .bool false] 36, Row k_File 43 v_54 l_55]) ?_ ?_
          · rintro a W_56 ⟨v_54, l_55, H, hst, hsh⟩
            subst hJ_57
            dsimp only at H
            refine wp_seq ?_
            refine wp_region_lit ?_
            refine r_t hst trivial rfl (x_move hst rfl) ?_; intro a hst
            refine r_t hst trivial rfl (x_move hst rfl) ?_; intro a hst
            refine r_t hst trivial rfl (x_move hst rfl) ?_; intro a hst
            obtain ⟨r86, hr86, H⟩ := Option.bind_eq_some_iff.1 H
            refine r_callD hst trivial rfl fn_33 rfl (r22_below.calls k_48 _ _ _ _ (Same.sh0 hsa0 hsh) _ hra0 i_37 _ _ _ (Same.refl _ _) _ (hsh.row 2 rfl) r86 hr86) ?_
            rintro e w87 ⟨v88, rfl, hc⟩
            replace hsh := hsh.call0 hc
            clear hc
            refine ⟨_, rfl, fun a hst => ?_⟩
            refine r_t hst trivial rfl (x_assign hst rfl) ?_; intro a hst
            refine wpList_nil ?_
            refine then_normal ?_
            refine wp_seq ?_
            refine wp_region_lit ?_
            refine r_t hst trivial rfl (x_move hst rfl) ?_; intro a hst
            refine r_t hst trivial rfl (x_move hst rfl) ?_; intro a hst
            refine r_buildSlice (vs := []) (cs := []) hst hsh trivial rfl Try.underlying31 el_43 rfl rfl (by simp [Value.cells]) rfl rfl ?_
            intro g90 a w91 hgg90 hsh hst
            replace hsh := hsh.pick [0, 0, 0, 0, 0]
            replace hsh : SH (fun _ => False) w w91 [Row k_File 43 (.slice (some ⟨g90, 0, none⟩) 0 0) ([]), Row k_File 43 v88 r86, Box g1 [.int .i64 a1.Block, .int .i64 a1.Mem, .int .i64 a1.Frozen, .int .i64 a1.Shape.Page, .int .i64 a1.Shape.Restart, .int .i64 a1.Shape.Bits, .int .i64 a1.Cut, .int .i64 a1.Files0, .int .i64 a1.Stop0, .int .i64 a1.Base, .int .i64 a1.Ratio, .int .i64 a1.Levels, .int .i64 a1.Chunk, .int .i64 a1.Roll, .int .i64 a1.Clients, va1_0] 28, Box g3 [.int .i64 0, (.slice none 0 0), (.slice none 0 0), .bool false] 36, Row k_File 43 v_54 l_55] := SH.boxRow ([] : List File) hsh rfl rfl rfl
            refine r_t hst trivial rfl (x_move hst rfl) ?_; intro a hst
            replace hsh := hsh.pick [0, 0, 0, 0, 0]
            obtain ⟨l93, hl93, H⟩ := Option.bind_eq_some_iff.1 H
            refine r_appendN (M := [Row k_File 43 v88 r86, Box g1 [.int .i64 a1.Block, .int .i64 a1.Mem, .int .i64 a1.Frozen, .int .i64 a1.Shape.Page, .int .i64 a1.Shape.Restart, .int .i64 a1.Shape.Bits, .int .i64 a1.Cut, .int .i64 a1.Files0, .int .i64 a1.Stop0, .int .i64 a1.Base, .int .i64 a1.Ratio, .int .i64 a1.Levels, .int .i64 a1.Chunk, .int .i64 a1.Roll, .int .i64 a1.Clients, va1_0] 28, Box g3 [.int .i64 0, (.slice none 0 0), (.slice none 0 0), .bool false] 36, Row k_File 43 v_54 l_55]) hst hsh trivial rfl Try.underlying31 el_43 (by decide) (by decide) (by decide) rfl rfl (flat_flat _ _ _ _) (hsh.row 4 rfl) (Same.refl _ _) hl93 ?_
            intro v94 a w95 hsh hst
            refine r_t hst trivial rfl (x_move hst rfl) ?_; intro a hst
            replace hsh := hsh.pick [0, 0, 0, 0, 0]
            obtain ⟨l96, hl96, H⟩ := Option.bind_eq_some_iff.1 H
            refine r_appendN (M := [Row k_File 43 v88 r86, Box g1 [.int .i64 a1.Block, .int .i64 a1.Mem, .int .i64 a1.Frozen, .int .i64 a1.Shape.Page, .int .i64 a1.Shape.Restart, .int .i64 a1.Shape.Bits, .int .i64 a1.Cut, .int .i64 a1.Files0, .int .i64 a1.Stop0, .int .i64 a1.Base, .int .i64 a1.Ratio, .int .i64 a1.Levels, .int .i64 a1.Chunk, .int .i64 a1.Roll, .int .i64 a1.Clients, va1_0] 28, Box g3 [.int .i64 0, (.slice none 0 0), (.slice none 0 0), .bool false] 36, Row k_File 43 v_54 l_55]) hst hsh trivial rfl Try.underlying31 el_43 (by decide) (by decide) (by decide) rfl rfl (flat_flat _ _ _ _) (hsh.row 1 rfl) (Same.refl _ _) hl96 ?_
            intro v97 a w98 hsh hst
            obtain ⟨r99, hr99, H⟩ := Option.bind_eq_some_iff.1 H
            refine r_callD hst trivial rfl fn_32 rfl (r22_touch.calls k_48 _ _ _ _ (Same.sh0 hsa0 hsh) _ hra0 i_37 _ _ _ (Same.refl _ _) _ (hsh.row 0 rfl) r99 hr99) ?_
            rintro e w100 ⟨v101, rfl, hc⟩
            replace hsh := hsh.call0 hc
            clear hc
            refine ⟨_, rfl, fun a hst => ?_⟩
            refine r_t hst trivial rfl (x_assign hst rfl) ?_; intro a hst
            refine wpList_nil ?_
            refine then_normal ?_
            obtain ⟨J_70, hJ_70, H⟩ := Jn.elim H
            refine wp_cut (fun a w' => ∃ (v_67 : Value), ∃ (l_68 : (List File)), J_70 l_68 = some r ∧ ST Try.f9.ntmps a [(6, .pointer (some ⟨g3, 0, none⟩)), (7, .bool false), (9, .int .i64 i_37), (12, v_67), (13, v88)] ∧ SH (fun _ => False) w w' [Box g3 [.int .i64 0, (.slice none 0 0), (.slice none 0 0), .bool false] 36, Row k_File 43 v_67 l_68, Row k_File 43 v88 r86]) ?_ ?_
            · rintro a W_69 ⟨v_67, l_68, H, hst, hsh⟩
              subst hJ_70
              dsimp only at H
              refine wp_seq ?_
              refine wp_region_lit ?_
              refine r_t hst trivial rfl (x_move hst rfl) ?_; intro a hst
              refine r_t hst trivial rfl (x_move hst rfl) ?_; intro a hst
              refine r_t hst trivial rfl (x_move hst rfl) ?_; intro a hst
              refine r_t hst trivial rfl (x_move hst rfl) ?_; intro a hst
              refine r_t hst trivial rfl (x_lenSl hst Try.underlying31 rfl (hsh.row 1 rfl).slen) ?_; intro a hst
              refine r_t hst trivial rfl (x_cmpI (b := ((l_68.length : Int) == 1)) hst rfl rfl rfl) ?_; intro a hst
              refine r_t hst trivial rfl (x_move hst rfl) ?_; intro a hst
              refine wl_join0 (N := Try.f9.ntmps) 11 [(6, .pointer (some ⟨g3, 0, none⟩)), (7, .bool false), (88, .int .i64 i_37), (89, v_67), (90, v88), (98, .bool (((l_68.length : Int) == 1) && ((r86.length : Int) == 0)))] ?_ ?_
              · intro a hst
                refine r_t hst trivial rfl (x_build (cs := [.int .i64 i_37, v_67, v88, .bool (((l_68.length : Int) == 1) && ((r86.length : Int) == 0))]) hst rfl (by obtain ⟨_, _, e0⟩ := (hsh.row 1 rfl).slen; obtain ⟨_, _, e1⟩ := (hsh.row 2 rfl).slen; rw [e0, e1]; kernel_rfl)) ?_; intro a hst
                refine r_storeBs (i := 0) (cs' := [.int .i64 i_37, v_67, v88, .bool (((l_68.length : Int) == 1) && ((r86.length : Int) == 0))]) (vs := [.int .i64 i_37, v_67, v88, .bool (((l_68.length : Int) == 1) && ((r86.length : Int) == 0))]) hst hsh trivial ag_36 rfl rfl rfl rfl (one_cons rfl (one_cons (one_slice (hsh.row 1 rfl).slen) (one_cons (one_slice (hsh.row 2 rfl).slen) (one_cons rfl rfl)))) rfl ?_; intro a w128 hsh hst
                refine r_t hst trivial rfl (x_assign hst rfl) ?_; intro a hst
                refine wpList_nil ?_
                refine then_normal ?_
                refine wp_ret ?_
                obtain rfl := Option.some.inj H
                exact ret_ct hst rfl rfl (box_var (i := 0) hsh ag_36 rfl rfl) rfl ⟨v_67, v88, rfl, hsh.pick [1, 1]⟩
              · intro hj
                by_cases c127 : ((l_68.length : Int) == 1) = true
                · refine r_t hst (wt_of 94 rfl rfl c127) rfl (x_move hst rfl) ?_; intro a hst
                  refine r_t hst (wt_of 94 rfl rfl c127) rfl (x_lenSl hst Try.underlying31 rfl (hsh.row 2 rfl).slen) ?_; intro a hst
                  refine r_t hst (wt_of 94 rfl rfl c127) rfl (x_cmpI (b := ((r86.length : Int) == 0)) hst rfl rfl rfl) ?_; intro a hst
                  refine r_t hst trivial rfl (x_andT hst rfl c127 rfl) ?_; intro a hst
                  exact hj _ (hst.keep _ ⟨rfl, rfl, rfl, rfl, rfl, rfl, trivial⟩)
                · replace c127 := Bool.eq_false_iff.2 c127
                  refine r_not hst 94 rfl rfl c127 rfl ?_; intro a hst
                  refine r_not hst 94 rfl rfl c127 rfl ?_; intro a hst
                  refine r_not hst 94 rfl rfl c127 rfl ?_; intro a hst
                  refine r_t hst trivial rfl (x_andF ((r86.length : Int) == 0) hst rfl c127 rfl) ?_; intro a hst
                  exact hj _ (hst.keep _ ⟨rfl, rfl, rfl, rfl, rfl, rfl, trivial⟩)
            · refine wp_seq ?_
              have hw128_0 := hsh.row 0 rfl
              have hw128_1 := hsh.row 1 rfl
              have hw128_2 := hsh.row 2 rfl
              have hw128_5 := hsh.row 5 rfl
              refine wp_region_t (.fin [(3, 0), (3, 1), (3, 2), (3, 3), (3, 4), (3, 5), (3, 6), (3, 7), (3, 8), (3, 10), (1, 9), (0, 11), (3, 12), (3, 13), (3, 14), (0, 15), (3, 16), (0, 17), (3, 18), (3, 19), (0, 20), (3, 21), (3, 22), (3, 23), (3, 24)]) (fun w' => SH (fun _ => False) w w' [Row k_File 43 v101 r99, Row k_File 43 v97 l96, Row k_File 43 v88 r86, Box g1 [.int .i64 a1.Block, .int .i64 a1.Mem, .int .i64 a1.Frozen, .int .i64 a1.Shape.Page, .int .i64 a1.Shape.Restart, .int .i64 a1.Shape.Bits, .int .i64 a1.Cut, .int .i64 a1.Files0, .int .i64 a1.Stop0, .int .i64 a1.Base, .int .i64 a1.Ratio, .int .i64 a1.Levels, .int .i64 a1.Chunk, .int .i64 a1.Roll, .int .i64 a1.Clients, va1_0] 28, Box g3 [.int .i64 0, (.slice none 0 0), (.slice none 0 0), .bool false] 36, Row k_File 43 v_54 l_55]) (fun w' => SH (fun _ => False) w w' [Row k_File 43 v101 r99, Row k_File 43 v97 l96, Row k_File 43 v88 r86, Box g1 [.int .i64 a1.Block, .int .i64 a1.Mem, .int .i64 a1.Frozen, .int .i64 a1.Shape.Page, .int .i64 a1.Shape.Restart, .int .i64 a1.Shape.Bits, .int .i64 a1.Cut, .int .i64 a1.Files0, .int .i64 a1.Stop0, .int .i64 a1.Base, .int .i64 a1.Ratio, .int .i64 a1.Levels, .int .i64 a1.Chunk, .int .i64 a1.Roll, .int .i64 a1.Clients, va1_0] 28, Box g3 [.int .i64 0, (.slice none 0 0), (.slice none 0 0), .bool false] 36, Row k_File 43 v_54 l_55]) (shut_sh _ _ _) (shut_sh _ _ _) (sub_sh [0, 0, 0, 0, 0, 0] rfl) hsh.drew fo (by kernel_rfl) ?_
              refine t_fin ?_
              refine m_p hst trivial rfl (fun _ => x_move hst rfl) ?_; intro a hst
              refine m_p hst trivial rfl (fun _ => x_lenSl hst Try.underlying31 rfl hw128_0.slen) ?_; intro a hst
              refine m_p hst trivial rfl (fun _ => x_move hst rfl) ?_; intro a hst
              refine m_p hst trivial rfl (fun _ => x_lenSl hst Try.underlying31 rfl hw128_5.slen) ?_; intro a hst
              refine m_p hst trivial rfl (fun _ => x_cmpI (b := decide ((l_55.length : Int) < (r99.length : Int))) hst rfl rfl rfl) ?_; intro a hst
              refine m_p hst trivial rfl (fun _ => x_move hst rfl) ?_; intro a hst
              obtain ⟨J_72, hJ_72, H⟩ := Jn.elim H
              refine m_joinB 7 (fun a B X => ∃ (b_71 : Bool), ∃ (v_74 : Value), ∃ (l_75 : (List File)), J_72 b_71 l_75 = some r ∧ ST Try.f9.ntmps a [(4, .pointer (some ⟨g1, 0, none⟩)), (6, .pointer (some ⟨g3, 0, none⟩)), (7, .bool false), (9, .int .i64 i_37), (12, v_54), (13, v88), (14, v101), (74, .bool b_71)] ∧ B = (fun w' => SH (fun _ => False) w w' [Row k_File 43 v_74 l_75, Row k_File 43 v101 r99, Row k_File 43 v97 l96, Row k_File 43 v88 r86, Box g1 [.int .i64 a1.Block, .int .i64 a1.Mem, .int .i64 a1.Frozen, .int .i64 a1.Shape.Page, .int .i64 a1.Shape.Restart, .int .i64 a1.Shape.Bits, .int .i64 a1.Cut, .int .i64 a1.Files0, .int .i64 a1.Stop0, .int .i64 a1.Base, .int .i64 a1.Ratio, .int .i64 a1.Levels, .int .i64 a1.Chunk, .int .i64 a1.Roll, .int .i64 a1.Clients, va1_0] 28, Box g3 [.int .i64 0, (.slice none 0 0), (.slice none 0 0), .bool false] 36, Row k_File 43 v_54 l_55]) ∧ X = (fun w' => SH (fun _ => False) w w' [Row k_File 43 v_74 l_75, Row k_File 43 v101 r99, Row k_File 43 v97 l96, Row k_File 43 v88 r86, Box g1 [.int .i64 a1.Block, .int .i64 a1.Mem, .int .i64 a1.Frozen, .int .i64 a1.Shape.Page, .int .i64 a1.Shape.Restart, .int .i64 a1.Shape.Bits, .int .i64 a1.Cut, .int .i64 a1.Files0, .int .i64 a1.Stop0, .int .i64 a1.Base, .int .i64 a1.Ratio, .int .i64 a1.Levels, .int .i64 a1.Chunk, .int .i64 a1.Roll, .int .i64 a1.Clients, va1_0] 28, Box g3 [.int .i64 0, (.slice none 0 0), (.slice none 0 0), .bool false] 36, Row k_File 43 v_54 l_55])) ?_ ?_
              · rintro a B X ⟨b_71, v_74, l_75, H, hst, rfl, rfl⟩
                subst hJ_72
                dsimp only at H
                refine m_p hst trivial rfl (fun _ => x_move hst rfl) ?_; intro a hst
                obtain ⟨J_77, hJ_77, H⟩ := Jn.elim H
                refine m_joinA 11 (fun a => ∃ (b_76 : Bool), J_77 b_76 = some r ∧ ST Try.f9.ntmps a [(6, .pointer (some ⟨g3, 0, none⟩)), (7, .bool false), (9, .int .i64 i_37), (12, v_54), (13, v88), (14, v101), (86, .bool b_76)]) ?_ ?_
                · rintro a ⟨b_76, H, hst⟩
                  subst hJ_77
                  dsimp only at H
                  refine m_nil ?_
                  intro w141 hsh
                  refine qn_normal ?_
                  refine then_normal ?_
                  by_cases c142 : b_76 = true
                  · rw [if_pos c142] at H
                    refine wp_condT hst rfl c142 ?_
                    refine wp_region_lit ?_
                    refine r_t hst trivial rfl (x_move hst rfl) ?_; intro a hst
                    refine r_t hst trivial rfl (x_assign hst rfl) ?_; intro a hst
                    refine wpList_nil ?_
                    refine then_normal ?_
                    exact ⟨v101, r99, H, hst.keep _ ⟨rfl, rfl, rfl, rfl, rfl, trivial⟩, hsh.pick [5, 1, 2]⟩
                  · rw [if_neg c142] at H
                    replace c142 := Bool.eq_false_iff.2 c142
                    refine wp_condF hst rfl c142 ?_
                    refine wp_skip ?_
                    refine then_normal ?_
                    exact ⟨v_54, l_55, H, hst.keep _ ⟨rfl, rfl, rfl, rfl, rfl, trivial⟩, hsh.pick [5, 5, 3]⟩
                · intro hj
                  by_cases c136 : b_71 = true
                  · rw [if_pos c136] at H
                    refine m_p hst (wt_of 75 rfl rfl c136) rfl (fun _ => x_move hst rfl) ?_; intro a hst
                    obtain ⟨r143, hr143, H⟩ := Option.bind_eq_some_iff.1 H
                    refine m_call hst (wt_of 75 rfl rfl c136) rfl fn_35 rfl (fun w9 hsh => r22_bytes.calls k_48 _ _ _ _ (Same.refl _ _) _ (hsh.row 1 rfl) r143 hr143) ?_; intro a hst
                    refine m_p hst (wt_of 75 rfl rfl c136) rfl (fun _ => x_move hst rfl) ?_; intro a hst
                    obtain ⟨r145, hr145, H⟩ := Option.bind_eq_some_iff.1 H
                    refine m_call hst (wt_of 75 rfl rfl c136) rfl fn_35 rfl (fun w9 hsh => r22_bytes.calls k_48 _ _ _ _ (Same.refl _ _) _ (hsh.row 3 rfl) r145 hr145) ?_; intro a hst
                    refine m_p hst (wt_of 75 rfl rfl c136) rfl (fun _ => x_arI (r := w64 (r143 + r145)) hst rfl rfl rfl) ?_; intro a hst
                    refine m_p hst (wt_of 75 rfl rfl c136) rfl (fun _ => x_fieldAddr (j' := 6) hst fa_28_4 rfl rfl) ?_; intro a hst
                    refine m_t hst (wt_of 75 rfl rfl c136) rfl (fun _ hsh => x_loadB (i := 4) hst hsh sc_3 rfl rfl rfl) ?_; intro a hst
                    refine m_p hst (wt_of 75 rfl rfl c136) rfl (fun _ => x_minI hst rfl rfl) ?_; intro a hst
                    refine m_p hst (wt_of 75 rfl rfl c136) rfl (fun _ => x_arI (r := w64 (25 * (minI a1.Cut 268435456))) hst rfl rfl rfl) ?_; intro a hst
                    refine m_p hst (wt_of 75 rfl rfl c136) rfl (fun _ => x_cmpI (b := decide ((w64 (r143 + r145)) ≤ (w64 (25 * (minI a1.Cut 268435456))))) hst rfl rfl rfl) ?_; intro a hst
                    refine m_p hst trivial rfl (fun _ => x_pickT hst rfl c136 rfl) ?_; intro a hst
                    exact hj _ ⟨(decide ((w64 (r143 + r145)) ≤ (w64 (25 * (minI a1.Cut 268435456))))), H, hst.keep _ ⟨rfl, rfl, rfl, rfl, rfl, rfl, rfl, trivial⟩⟩
                  · rw [if_neg c136] at H
                    replace c136 := Bool.eq_false_iff.2 c136
                    refine m_pnot hst 75 rfl rfl c136 rfl ?_; intro a hst
                    refine m_not hst 75 rfl rfl c136 rfl ?_; intro a hst
                    refine m_pnot hst 75 rfl rfl c136 rfl ?_; intro a hst
                    refine m_not hst 75 rfl rfl c136 rfl ?_; intro a hst
                    refine m_pnot hst 75 rfl rfl c136 rfl ?_; intro a hst
                    refine m_pnot hst 75 rfl rfl c136 rfl ?_; intro a hst
                    refine m_not hst 75 rfl rfl c136 rfl ?_; intro a hst
                    refine m_pnot hst 75 rfl rfl c136 rfl ?_; intro a hst
                    refine m_pnot hst 75 rfl rfl c136 rfl ?_; intro a hst
                    refine m_pnot hst 75 rfl rfl c136 rfl ?_; intro a hst
                    refine m_p hst trivial rfl (fun _ => x_pickF hst rfl c136 rfl) ?_; intro a hst
                    exact hj _ ⟨false, H, hst.keep _ ⟨rfl, rfl, rfl, rfl, rfl, rfl, rfl, trivial⟩⟩
              · intro hj
                by_cases c129 : (decide ((l_55.length : Int) < (r99.length : Int))) = true
                · rw [if_pos c129] at H
                  refine m_p hst (wt_of 67 rfl rfl c129) rfl (fun _ => x_move hst rfl) ?_; intro a hst
                  refine m_p hst (wt_of 67 rfl rfl c129) rfl (fun _ => x_move hst rfl) ?_; intro a hst
                  refine m_p hst (wt_of 67 rfl rfl c129) rfl (fun _ => x_move hst rfl) ?_; intro a hst
                  refine m_p hst (wt_of 67 rfl rfl c129) rfl (fun _ => x_move hst rfl) ?_; intro a hst
                  refine m_loud (.inl rfl) ?_
                  intro w147 hsh
                  obtain ⟨r148, hr148, H⟩ := Option.bind_eq_some_iff.1 H
                  refine r_callD hst (wt_of 67 rfl rfl c129) rfl fn_33 rfl (r22_below.calls k_48 _ _ _ _ (Same.sh0 hsa0 hsh) _ hra0 i_37 _ _ _ (Same.refl _ _) _ (hsh.row 0 rfl) r148 hr148) ?_
                  rintro e w149 ⟨v150, rfl, hc⟩
                  replace hsh := hsh.call0 hc
                  clear hc
                  refine ⟨_, rfl, fun a hst => ?_⟩
                  refine m_on (MB := [Row k_File 43 v150 r148, Row k_File 43 v101 r99, Row k_File 43 v97 l96, Row k_File 43 v88 r86, Box g1 [.int .i64 a1.Block, .int .i64 a1.Mem, .int .i64 a1.Frozen, .int .i64 a1.Shape.Page, .int .i64 a1.Shape.Restart, .int .i64 a1.Shape.Bits, .int .i64 a1.Cut, .int .i64 a1.Files0, .int .i64 a1.Stop0, .int .i64 a1.Base, .int .i64 a1.Ratio, .int .i64 a1.Levels, .int .i64 a1.Chunk, .int .i64 a1.Roll, .int .i64 a1.Clients, va1_0] 28, Box g3 [.int .i64 0, (.slice none 0 0), (.slice none 0 0), .bool false] 36, Row k_File 43 v_54 l_55]) [0, 0, 0, 0, 0, 0, 0] [1, 1, 1, 1, 1, 1] rfl rfl hsh rfl ?_
                  obtain ⟨r151, hr151, H⟩ := Option.bind_eq_some_iff.1 H
                  refine m_call hst (wt_of 67 rfl rfl c129) rfl fn_34 rfl (fun w9 hsh => r22_same.calls k_48 _ _ _ _ (Same.refl _ _) _ (hsh.row 0 rfl) _ _ _ (Same.refl _ _) _ (hsh.row 3 rfl) r151 hr151) ?_; intro a hst
                  refine m_p hst trivial rfl (fun _ => x_pickT hst rfl c129 rfl) ?_; intro a hst
                  exact hj _ _ _ ⟨r151, v150, r148, H, hst.keep _ ⟨rfl, rfl, rfl, rfl, rfl, rfl, rfl, rfl, trivial⟩, (sh_cls [0, 0, 0, 0, 0, 0, 0] [0, 0, 0, 0, 0, 0, 0] rfl rfl), (sh_cls [0, 0, 0, 0, 0, 0, 0] [0, 0, 0, 0, 0, 0, 0] rfl rfl)⟩
                · rw [if_neg c129] at H
                  replace c129 := Bool.eq_false_iff.2 c129
                  refine m_pnot hst 67 rfl rfl c129 rfl ?_; intro a hst
                  refine m_pnot hst 67 rfl rfl c129 rfl ?_; intro a hst
                  refine m_pnot hst 67 rfl rfl c129 rfl ?_; intro a hst
                  refine m_pnot hst 67 rfl rfl c129 rfl ?_; intro a hst
                  refine m_notL (.inl rfl) (shut_sh _ _ _) (shut_sh _ _ _) (sub_sh [0, 0, 0, 0, 0, 0] rfl) hst 67 rfl rfl c129 rfl ?_; intro a hst
                  refine m_not hst 67 rfl rfl c129 rfl ?_; intro a hst
                  refine m_p hst trivial rfl (fun _ => x_pickF hst rfl c129 rfl) ?_; intro a hst
                  exact hj _ _ _ ⟨false, (.slice none 0 0), ([]), H, hst.keep _ ⟨rfl, rfl, rfl, rfl, rfl, rfl, rfl, rfl, trivial⟩, (sh_cls_nil _ _), (sh_cls_nil _ _)⟩
          · refine wp_seq ?_
            refine wp_region_lit ?_
            refine r_t hst trivial rfl (x_move hst rfl) ?_; intro a hst
            refine r_t hst trivial rfl (x_cmpI (b := (i_37 == 0)) hst rfl rfl rfl) ?_; intro a hst
            refine wpList_nil ?_
            refine then_normal ?_
            by_cases c153 : (i_37 == 0) = true
            · rw [if_pos c153] at H
              refine wp_condT hst rfl c153 ?_
              refine wp_region_lit ?_
              refine r_t hst trivial rfl (x_move hst rfl) ?_; intro a hst
              refine r_t hst trivial rfl (x_move hst rfl) ?_; intro a hst
              obtain ⟨r154, hr154, H⟩ := Option.bind_eq_some_iff.1 H
              refine r_callD hst trivial rfl fn_32 rfl (r22_touch.calls k_48 _ _ _ _ (Same.sh0 hsa0 hsh) _ hra0 0 _ _ _ (Same.refl _ _) _ (hsh.row 0 rfl) r154 hr154) ?_
              rintro e w155 ⟨v156, rfl, hc⟩
              replace hsh := hsh.call0 hc
              clear hc
              refine ⟨_, rfl, fun a hst => ?_⟩
              refine r_t hst trivial rfl (x_assign hst rfl) ?_; intro a hst
              refine wpList_nil ?_
              refine then_normal ?_
              exact ⟨v156, r154, H, hst.keep _ ⟨rfl, rfl, rfl, rfl, rfl, rfl, trivial⟩, hsh.pick [2, 2, 0]⟩
            · rw [if_neg c153] at H
              replace c153 := Bool.eq_false_iff.2 c153
              refine wp_condF hst rfl c153 ?_
              refine wp_skip ?_
              refine then_normal ?_
              exact ⟨(.slice (some ⟨g78, 0, none⟩) 1 1), ([r76]), H, hst.keep _ ⟨rfl, rfl, rfl, rfl, rfl, rfl, trivial⟩, hsh.pick [1, 1, 0]⟩

set_option maxHeartbeats 4000000 in
set_option maxRecDepth 100000 in
theorem l22_file.calls (w : World) (a0 : Int) (a1 : ByteArray) (a2 : ByteArray) (a3 : Int) (r : File) (h : l22_file a0 a1 a2 a3 = some r) :
    Calls Try.prog 36 ([.int .i64 a0, .string a1, .string a2, .int .i64 a3] : List Value).toArray w fun e w' => e = .returned (.agg #[.int .i64 r.Number, .int .i64 r.Size, .string r.Least, .string r.Limit, .int .u64 r.Low, .int .u64 r.High]) ∧ SH (fun _ => False) w w' [] := by
  have H := h
  clear h
  unfold l22_file at H
  refine calls_enter Try.func36 rfl rfl ?_
  intro a hst
  have hsh := SH.zero (fun _ => False) w
  refine wp_seq ?_
  refine wp_region_lit ?_
  refine r_alloc hst hsh trivial rfl zr_43 ?_
  intro g1 a w2 hgg1 hsh hst
  refine wpList_nil ?_
  refine then_normal ?_
  refine wp_seq ?_
  refine wp_region_lit ?_
  refine r_t hst trivial rfl (x_move hst rfl) ?_; intro a hst
  refine r_t hst trivial rfl (x_move hst rfl) ?_; intro a hst
  refine r_t hst trivial rfl (x_move hst rfl) ?_; intro a hst
  refine r_t hst trivial rfl (x_move hst rfl) ?_; intro a hst
  refine r_t hst trivial rfl (x_build (cs := [.int .i64 a0, .int .i64 a3, .string a1, .string a2, .int .u64 1, .int .u64 1]) hst rfl (by kernel_rfl)) ?_; intro a hst
  refine r_storeBs (i := 0) (cs' := [.int .i64 a0, .int .i64 a3, .string a1, .string a2, .int .u64 1, .int .u64 1]) (vs := [.int .i64 a0, .int .i64 a3, .string a1, .string a2, .int .u64 1, .int .u64 1]) hst hsh trivial ag_43 rfl rfl rfl rfl rfl rfl ?_; intro a w3 hsh hst
  refine wpList_nil ?_
  refine then_normal ?_
  refine wp_ret ?_
  obtain rfl := Option.some.inj H
  exact retC hst rfl rfl (box_var (i := 0) hsh ag_43 rfl rfl) ⟨rfl, hsh.pick []⟩
end Go.Proofs.Ytckjpkecipgeiaa.Mo
