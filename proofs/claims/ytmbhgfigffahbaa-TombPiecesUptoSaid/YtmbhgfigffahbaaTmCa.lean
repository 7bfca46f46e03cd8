/- Printed by gen.py: contracts. -/
import Derived.Test.YtmbhgfigffahbaaTmCa2
set_option linter.unusedVariables false
set_option linter.unusedSimpArgs false
set_option maxRecDepth 100000
namespace Go.Proofs.Ytmbhgfigffahbaa.Mo
open Go Go.Proofs.Ytmbhgfigffahbaa.Sy
open Go.Proofs
set_option maxHeartbeats 4000000 in
set_option maxRecDepth 100000 in
theorem l09_covers.calls (w : World) (a0 : Tomb) (a1 : ByteArray) (r : Bool) (h : l09_covers a0 a1 = some r) :
    Calls Try.prog 11 ([.agg #[.string a0.Begin, .string a0.End, .int .u64 a0.Seq], .string a1] : List Value).toArray w fun e w' => e = .returned (.bool r) ∧ SH (fun _ => False) w w' [] := by
 have H := h
 clear h
 unfold l09_covers at H
 refine calls_enter Try.func11 rfl rfl ?_
 intro a hst
 have hsh := SH.zero (fun _ => False) w
 refine wq_seq ?_
 refine wq_region_lit (.inl rfl) ?_
 refine r_box hst hsh trivial rfl rfl rfl ?_
 intro g1 a w2 hgg1 hsh hst
 refine r_t hst trivial rfl (x_assign hst rfl) ?_; intro a hst
 refine wpL_nil ?_
 refine then_normal ?_
 refine wq_seq ?_
 refine wq_region_lit (.inl rfl) ?_
 refine r_t hst trivial rfl (x_fieldAddr (j' := 0) hst fa_30_0 rfl rfl) ?_; intro a hst
 refine r_t hst trivial rfl (x_loadB (i := 0) hst hsh sc_9 rfl rfl rfl) ?_; intro a hst
 refine r_t hst trivial rfl (x_lenStr hst Try.underlying9 rfl) ?_; intro a hst
 refine r_t hst trivial rfl (x_cmpI (b := decide (1 ≤ (a0.Begin.size : Int))) hst rfl rfl rfl) ?_; intro a hst
 refine r_t hst trivial rfl (x_move hst rfl) ?_; intro a hst
 refine wl_join0 (Δ := []) (N := Try.f11.ntmps) 10 [(1, .string a1), (2, .pointer (some ⟨g1, 0, none⟩)), (4, .bool false), (14, .bool ((decide (1 ≤ (a0.Begin.size : Int))) && (decide ((a0.Begin.size : Int) ≤ 1024))))] ?_ ?_
 · intro a hst
   refine r_t hst trivial rfl (x_move hst rfl) ?_; intro a hst
   refine wl_join0 (Δ := []) (N := Try.f11.ntmps) 16 [(1, .string a1), (2, .pointer (some ⟨g1, 0, none⟩)), (4, .bool false), (20, .bool (((decide (1 ≤ (a0.Begin.size : Int))) && (decide ((a0.Begin.size : Int) ≤ 1024))) && (decide ((a0.End.size : Int) ≤ 1025))))] ?_ ?_
   · intro a hst
     refine r_t hst trivial rfl (x_move hst rfl) ?_; intro a hst
     refine wl_join0 (Δ := []) (N := Try.f11.ntmps) 21 [(1, .string a1), (2, .pointer (some ⟨g1, 0, none⟩)), (4, .bool false), (25, .bool ((((decide (1 ≤ (a0.Begin.size : Int))) && (decide ((a0.Begin.size : Int) ≤ 1024))) && (decide ((a0.End.size : Int) ≤ 1025))) && (decide (a0.Seq ≤ 72057594037927935))))] ?_ ?_
     · intro a hst
       refine r_t hst trivial rfl (x_move hst rfl) ?_; intro a hst
       refine wl_join0 (Δ := []) (N := Try.f11.ntmps) 27 [(1, .string a1), (2, .pointer (some ⟨g1, 0, none⟩)), (4, .bool false), (31, .bool (((((decide (1 ≤ (a0.Begin.size : Int))) && (decide ((a0.Begin.size : Int) ≤ 1024))) && (decide ((a0.End.size : Int) ≤ 1025))) && (decide (a0.Seq ≤ 72057594037927935))) && (sLt a0.Begin a1 || sEq a0.Begin a1)))] ?_ ?_
       · intro a hst
         refine r_t hst trivial rfl (x_move hst rfl) ?_; intro a hst
         refine wl_join0 (Δ := []) (N := Try.f11.ntmps) 33 [(4, .bool false), (37, .bool ((((((decide (1 ≤ (a0.Begin.size : Int))) && (decide ((a0.Begin.size : Int) ≤ 1024))) && (decide ((a0.End.size : Int) ≤ 1025))) && (decide (a0.Seq ≤ 72057594037927935))) && (sLt a0.Begin a1 || sEq a0.Begin a1)) && (sLt a1 a0.End)))] ?_ ?_
         · intro a hst
           refine r_t hst trivial rfl (x_assign hst rfl) ?_; intro a hst
           refine wpL_nil ?_
           refine then_normal ?_
           refine wq_ret ?_
           obtain rfl := Option.some.inj H
           exact ret1 hst rfl rfl ⟨rfl, hsh.pick []⟩
         · intro hj
           by_cases c7 : (((((decide (1 ≤ (a0.Begin.size : Int))) && (decide ((a0.Begin.size : Int) ≤ 1024))) && (decide ((a0.End.size : Int) ≤ 1025))) && (decide (a0.Seq ≤ 72057594037927935))) && (sLt a0.Begin a1 || sEq a0.Begin a1)) = true
           · refine r_t hst (wt_of 32 rfl rfl c7) rfl (x_move hst rfl) ?_; intro a hst
             refine r_t hst (wt_of 32 rfl rfl c7) rfl (x_fieldAddr (j' := 1) hst fa_30_1 rfl rfl) ?_; intro a hst
             refine r_t hst (wt_of 32 rfl rfl c7) rfl (x_loadB (i := 0) hst hsh sc_9 rfl rfl rfl) ?_; intro a hst
             refine r_t hst (wt_of 32 rfl rfl c7) rfl (x_cmpS (b := sLt a1 a0.End) hst rfl rfl rfl) ?_; intro a hst
             refine r_t hst trivial rfl (x_andT hst rfl c7 rfl) ?_; intro a hst
             exact hj _ (hst.keep _ ⟨rfl, rfl, trivial⟩)
           · replace c7 := Bool.eq_false_iff.2 c7
             refine r_not hst 32 rfl rfl c7 rfl ?_; intro a hst
             refine r_not hst 32 rfl rfl c7 rfl ?_; intro a hst
             refine r_not hst 32 rfl rfl c7 rfl ?_; intro a hst
             refine r_not hst 32 rfl rfl c7 rfl ?_; intro a hst
             refine r_t hst trivial rfl (x_andF (sLt a1 a0.End) hst rfl c7 rfl) ?_; intro a hst
             exact hj _ (hst.keep _ ⟨rfl, rfl, trivial⟩)
       · intro hj
         by_cases c6 : ((((decide (1 ≤ (a0.Begin.size : Int))) && (decide ((a0.Begin.size : Int) ≤ 1024))) && (decide ((a0.End.size : Int) ≤ 1025))) && (decide (a0.Seq ≤ 72057594037927935))) = true
         · refine r_t hst (wt_of 26 rfl rfl c6) rfl (x_fieldAddr (j' := 0) hst fa_30_0 rfl rfl) ?_; intro a hst
           refine r_t hst (wt_of 26 rfl rfl c6) rfl (x_loadB (i := 0) hst hsh sc_9 rfl rfl rfl) ?_; intro a hst
           refine r_t hst (wt_of 26 rfl rfl c6) rfl (x_move hst rfl) ?_; intro a hst
           refine r_t hst (wt_of 26 rfl rfl c6) rfl (x_cmpS (b := (sLt a0.Begin a1 || sEq a0.Begin a1)) hst rfl rfl rfl) ?_; intro a hst
           refine r_t hst trivial rfl (x_andT hst rfl c6 rfl) ?_; intro a hst
           exact hj _ (hst.keep _ ⟨rfl, rfl, rfl, rfl, trivial⟩)
         · replace c6 := Bool.eq_false_iff.2 c6
           refine r_not hst 26 rfl rfl c6 rfl ?_; intro a hst
           refine r_not hst 26 rfl rfl c6 rfl ?_; intro a hst
           refine r_not hst 26 rfl rfl c6 rfl ?_; intro a hst
           refine r_not hst 26 rfl rfl c6 rfl ?_; intro a hst
           refine r_t hst trivial rfl (x_andF (sLt a0.Begin a1 || sEq a0.Begin a1) hst rfl c6 rfl) ?_; intro a hst
           exact hj _ (hst.keep _ ⟨rfl, rfl, rfl, rfl, trivial⟩)
     · intro hj
       by_cases c5 : (((decide (1 ≤ (a0.Begin.size : Int))) && (decide ((a0.Begin.size : Int) ≤ 1024))) && (decide ((a0.End.size : Int) ≤ 1025))) = true
       · refine r_t hst (wt_of 21 rfl rfl c5) rfl (x_fieldAddr (j' := 2) hst fa_30_2 rfl rfl) ?_; intro a hst
         refine r_t hst (wt_of 21 rfl rfl c5) rfl (x_loadB (i := 0) hst hsh sc_23 rfl rfl rfl) ?_; intro a hst
         refine r_t hst (wt_of 21 rfl rfl c5) rfl (x_cmpI (b := decide (a0.Seq ≤ 72057594037927935)) hst rfl rfl rfl) ?_; intro a hst
         refine r_t hst trivial rfl (x_andT hst rfl c5 rfl) ?_; intro a hst
         exact hj _ (hst.keep _ ⟨rfl, rfl, rfl, rfl, trivial⟩)
       · replace c5 := Bool.eq_false_iff.2 c5
         refine r_not hst 21 rfl rfl c5 rfl ?_; intro a hst
         refine r_not hst 21 rfl rfl c5 rfl ?_; intro a hst
         refine r_not hst 21 rfl rfl c5 rfl ?_; intro a hst
         refine r_t hst trivial rfl (x_andF (decide (a0.Seq ≤ 72057594037927935)) hst rfl c5 rfl) ?_; intro a hst
         exact hj _ (hst.keep _ ⟨rfl, rfl, rfl, rfl, trivial⟩)
   · intro hj
     by_cases c4 : ((decide (1 ≤ (a0.Begin.size : Int))) && (decide ((a0.Begin.size : Int) ≤ 1024))) = true
     · refine r_t hst (wt_of 15 rfl rfl c4) rfl (x_fieldAddr (j' := 1) hst fa_30_1 rfl rfl) ?_; intro a hst
       refine r_t hst (wt_of 15 rfl rfl c4) rfl (x_loadB (i := 0) hst hsh sc_9 rfl rfl rfl) ?_; intro a hst
       refine r_t hst (wt_of 15 rfl rfl c4) rfl (x_lenStr hst Try.underlying9 rfl) ?_; intro a hst
       refine r_t hst (wt_of 15 rfl rfl c4) rfl (x_cmpI (b := decide ((a0.End.size : Int) ≤ 1025)) hst rfl rfl rfl) ?_; intro a hst
       refine r_t hst trivial rfl (x_andT hst rfl c4 rfl) ?_; intro a hst
       exact hj _ (hst.keep _ ⟨rfl, rfl, rfl, rfl, trivial⟩)
     · replace c4 := Bool.eq_false_iff.2 c4
       refine r_not hst 15 rfl rfl c4 rfl ?_; intro a hst
       refine r_not hst 15 rfl rfl c4 rfl ?_; intro a hst
       refine r_not hst 15 rfl rfl c4 rfl ?_; intro a hst
       refine r_not hst 15 rfl rfl c4 rfl ?_; intro a hst
       refine r_t hst trivial rfl (x_andF (decide ((a0.End.size : Int) ≤ 1025)) hst rfl c4 rfl) ?_; intro a hst
       exact hj _ (hst.keep _ ⟨rfl, rfl, rfl, rfl, trivial⟩)
 · intro hj
   by_cases c3 : (decide (1 ≤ (a0.Begin.size : Int))) = true
   · refine r_t hst (wt_of 9 rfl rfl c3) rfl (x_fieldAddr (j' := 0) hst fa_30_0 rfl rfl) ?_; intro a hst
     refine r_t hst (wt_of 9 rfl rfl c3) rfl (x_loadB (i := 0) hst hsh sc_9 rfl rfl rfl) ?_; intro a hst
     refine r_t hst (wt_of 9 rfl rfl c3) rfl (x_lenStr hst Try.underlying9 rfl) ?_; intro a hst
     refine r_t hst (wt_of 9 rfl rfl c3) rfl (x_cmpI (b := decide ((a0.Begin.size : Int) ≤ 1024)) hst rfl rfl rfl) ?_; intro a hst
     refine r_t hst trivial rfl (x_andT hst rfl c3 rfl) ?_; intro a hst
     exact hj _ (hst.keep _ ⟨rfl, rfl, rfl, rfl, trivial⟩)
   · replace c3 := Bool.eq_false_iff.2 c3
     refine r_not hst 9 rfl rfl c3 rfl ?_; intro a hst
     refine r_not hst 9 rfl rfl c3 rfl ?_; intro a hst
     refine r_not hst 9 rfl rfl c3 rfl ?_; intro a hst
     refine r_not hst 9 rfl rfl c3 rfl ?_; intro a hst
     refine r_t hst trivial rfl (x_andF (decide ((a0.Begin.size : Int) ≤ 1024)) hst rfl c3 rfl) ?_; intro a hst
     exact hj _ (hst.keep _ ⟨rfl, rfl, rfl, rfl, trivial⟩)

set_option maxHeartbeats 4000000 in
set_option maxRecDepth 100000 in
theorem tomb_Cover.calls (k : Nat) (w : World) (va0 : Value) (Za0 : Nat → Prop) (wra0 : World) (hsa0 : Same Za0 wra0 w) (a0 : (List Tomb)) (hra0 : RD k_Tomb Za0 wra0 va0 a0) (a1 : ByteArray) (a2 : Int) (r : (Int × Bool)) (h : tomb_Cover k a0 a1 a2 = some r) :
    Calls Try.prog 8 ([va0, .string a1, .int .u64 a2] : List Value).toArray w fun e w' => e = .returned (.tuple #[.int .u64 r.1, .bool r.2]) ∧ SH (fun _ => False) w w' [] := by
 have H := h
 clear h
 unfold tomb_Cover at H
 refine calls_enter Try.func8 rfl rfl ?_
 intro a hst
 have hsh := SH.zero (fun _ => False) w
 refine wq_seq ?_
 refine wq_region_lit (.inl rfl) ?_
 refine r_t hst trivial rfl (x_assign hst rfl) ?_; intro a hst
 refine r_t hst trivial rfl (x_assign hst rfl) ?_; intro a hst
 refine wpL_nil ?_
 refine then_normal ?_
 refine wq_seq ?_
 refine wq_region_lit (.inl rfl) ?_
 refine r_t hst trivial rfl (x_assign hst rfl) ?_; intro a hst
 refine r_t hst trivial rfl (x_assign hst rfl) ?_; intro a hst
 refine wpL_nil ?_
 refine then_normal ?_
 refine wq_seq ?_
 refine wq_seq ?_
 refine wq_region_lit (.inl rfl) ?_
 refine r_t hst trivial rfl (x_move hst rfl) ?_; intro a hst
 refine r_t hst trivial rfl (x_lenSl hst Try.underlying22 rfl hra0.slen) ?_; intro a hst
 refine r_t hst trivial rfl (x_move hst rfl) ?_; intro a hst
 refine wpL_nil ?_
 refine then_normal ?_
 refine wq_block ?_
 refine wq_loop_fuel (fun k_48 a w' => ∃ (i_36 : Int), ∃ (b_37 : Bool), ∃ (i_38 : Int), tomb_Cover.l0 a0 a1 a2 k_48 i_36 b_37 i_38 = some r ∧ ST [] Try.f8.ntmps a [(1, .string a1), (2, .int .u64 a2), (6, .int .u64 0), (7, .bool false), (8, .int .u64 i_36), (9, .bool b_37), (12, va0), (13, .int .i64 (a0.length : Int)), (14, .int .i64 i_38)] ∧ SH (fun _ => False) w w' []) k ?_ ?_
 · exact ⟨0, false, 0, H, hst.keep _ ⟨rfl, rfl, rfl, rfl, rfl, rfl, rfl, rfl, rfl, trivial⟩, hsh.pick []⟩
 · rintro k_48 a W_39 ⟨i_36, b_37, i_38, H, hst, hsh⟩
   cases k_48 with
   | zero => rw [tomb_Cover.l0] at H; cases H
   | succ k_48 =>
    rw [tomb_Cover.l0] at H
    refine wq_seq ?_
    refine wq_region_lit (.inl rfl) ?_
    refine r_t hst trivial rfl (x_cmpI (b := decide (i_38 < (a0.length : Int))) hst rfl rfl rfl) ?_; intro a hst
    refine wpL_nil ?_
    refine then_normal ?_
    refine wq_seq ?_
    by_cases c112 : (decide (i_38 < (a0.length : Int))) = true
    · rw [if_pos c112] at H
      refine wq_condT hst rfl c112 ?_
      refine wq_skip ?_
      refine then_normal ?_
      obtain ⟨J_52, hJ_52, H⟩ := Jn.elim H
      refine wq_cut (fun a w' => ∃ (i_49 : Int), ∃ (b_50 : Bool), J_52 i_49 b_50 = some r ∧ ST [] Try.f8.ntmps a [(1, .string a1), (2, .int .u64 a2), (6, .int .u64 0), (7, .bool false), (8, .int .u64 i_49), (9, .bool b_50), (12, va0), (13, .int .i64 (a0.length : Int)), (14, .int .i64 i_38)] ∧ SH (fun _ => False) w w' []) ?_ ?_
      · rintro a W_51 ⟨i_49, b_50, H, hst, hsh⟩
        subst hJ_52
        dsimp only at H
        refine wq_region_lit (.inl rfl) ?_
        refine r_t hst trivial rfl (x_arI (r := w64 (i_38 + 1)) hst rfl rfl rfl) ?_; intro a hst
        refine r_t hst trivial rfl (x_move hst rfl) ?_; intro a hst
        refine wpL_nil ?_
        refine then_normal ?_
        exact ⟨k_48, Nat.lt_succ_self _, i_49, b_50, (w64 (i_38 + 1)), H, hst.keep _ ⟨rfl, rfl, rfl, rfl, rfl, rfl, rfl, rfl, rfl, trivial⟩, hsh.pick []⟩
      · refine wq_block ?_
        refine wq_seq ?_
        refine wq_region_lit (.inl rfl) ?_
        obtain ⟨x123, hx123, H⟩ := Option.bind_eq_some_iff.1 H
        refine r_t hst trivial rfl (x_indexAddr hst Try.underlying22 el_30 rfl rfl hra0 hx123) ?_; intro a hst
        refine r_t hst trivial rfl (x_loadEsF (j := 0) (cs := [.string x123.Begin, .string x123.End, .int .u64 x123.Seq]) (ps := [.string x123.Begin, .string x123.End, .int .u64 x123.Seq]) hst ag_30 rfl hra0 (Same.sh0 hsa0 hsh) hx123 rfl (fun _ h => h) rfl) ?_; intro a hst
        refine r_alloc hst hsh trivial rfl zr_30 ?_
        intro g124 a w125 hgg124 hsh hst
        refine r_storeBs (i := 0) (cs' := [.string x123.Begin, .string x123.End, .int .u64 x123.Seq]) (vs := [.string x123.Begin, .string x123.End, .int .u64 x123.Seq]) hst hsh trivial ag_30 rfl rfl rfl rfl rfl rfl ?_; intro a w126 hsh hst
        refine wpL_nil ?_
        refine then_normal ?_
        refine wq_seq ?_
        refine wq_region_lit (.inl rfl) ?_
        refine r_t hst trivial rfl (x_loadBs (i := 0) (ps := [.string x123.Begin, .string x123.End, .int .u64 x123.Seq]) hst hsh ag_30 rfl rfl rfl) ?_; intro a hst
        obtain ⟨r127, hr127, H⟩ := Option.bind_eq_some_iff.1 H
        refine r_callD hst trivial rfl fn_9 rfl (tomb_Valid.calls _ x123 r127 hr127) ?_
        rintro e w128 ⟨rfl, hc⟩
        replace hsh := hsh.call0 hc
        clear hc
        refine ⟨_, rfl, fun a hst => ?_⟩
        refine r_t hst trivial rfl (x_move hst rfl) ?_; intro a hst
        refine wl_join0 (Δ := []) (N := Try.f8.ntmps) 8 [(1, .string a1), (2, .int .u64 a2), (6, .int .u64 0), (7, .bool false), (8, .int .u64 i_36), (9, .bool b_37), (11, .pointer (some ⟨g124, 0, none⟩)), (12, va0), (13, .int .i64 (a0.length : Int)), (14, .int .i64 i_38), (25, .bool (r127 && (decide (x123.Seq ≤ a2))))] ?_ ?_
        · intro a hst
          refine r_t hst trivial rfl (x_move hst rfl) ?_; intro a hst
          refine wl_join0 (Δ := []) (N := Try.f8.ntmps) 14 [(1, .string a1), (2, .int .u64 a2), (6, .int .u64 0), (7, .bool false), (8, .int .u64 i_36), (9, .bool b_37), (11, .pointer (some ⟨g124, 0, none⟩)), (12, va0), (13, .int .i64 (a0.length : Int)), (14, .int .i64 i_38), (31, .bool ((r127 && (decide (x123.Seq ≤ a2))) && (sLt x123.Begin a1 || sEq x123.Begin a1)))] ?_ ?_
          · intro a hst
            refine r_t hst trivial rfl (x_move hst rfl) ?_; intro a hst
            refine wl_join0 (Δ := []) (N := Try.f8.ntmps) 20 [(1, .string a1), (2, .int .u64 a2), (6, .int .u64 0), (7, .bool false), (8, .int .u64 i_36), (9, .bool b_37), (11, .pointer (some ⟨g124, 0, none⟩)), (12, va0), (13, .int .i64 (a0.length : Int)), (14, .int .i64 i_38), (37, .bool (((r127 && (decide (x123.Seq ≤ a2))) && (sLt x123.Begin a1 || sEq x123.Begin a1)) && (sLt a1 x123.End)))] ?_ ?_
            · intro a hst
              refine wpL_nil ?_
              refine then_normal ?_
              by_cases c132 : (((r127 && (decide (x123.Seq ≤ a2))) && (sLt x123.Begin a1 || sEq x123.Begin a1)) && (sLt a1 x123.End)) = true
              · rw [if_pos c132] at H
                refine wq_condT hst rfl c132 ?_
                refine wq_region_lit (.inl rfl) ?_
                refine r_t hst trivial rfl (x_move hst rfl) ?_; intro a hst
                refine r_t hst trivial rfl (x_fieldAddr (j' := 2) hst fa_30_2 rfl rfl) ?_; intro a hst
                refine r_t hst trivial rfl (x_loadB (i := 0) hst hsh sc_23 rfl rfl rfl) ?_; intro a hst
                refine r_t hst trivial rfl (x_maxI hst rfl rfl) ?_; intro a hst
                refine r_t hst trivial rfl (x_assign hst rfl) ?_; intro a hst
                refine r_t hst trivial rfl (x_assign hst rfl) ?_; intro a hst
                refine wpL_nil ?_
                refine block_normal ?_
                refine then_normal ?_
                exact ⟨(maxI i_36 x123.Seq), true, H, hst.keep _ ⟨rfl, rfl, rfl, rfl, rfl, rfl, rfl, rfl, rfl, trivial⟩, hsh.pick []⟩
              · rw [if_neg c132] at H
                replace c132 := Bool.eq_false_iff.2 c132
                refine wq_condF hst rfl c132 ?_
                refine wq_skip ?_
                refine block_normal ?_
                refine then_normal ?_
                exact ⟨i_36, b_37, H, hst.keep _ ⟨rfl, rfl, rfl, rfl, rfl, rfl, rfl, rfl, rfl, trivial⟩, hsh.pick []⟩
            · intro hj
              by_cases c131 : ((r127 && (decide (x123.Seq ≤ a2))) && (sLt x123.Begin a1 || sEq x123.Begin a1)) = true
              · refine r_t hst (wt_of 32 rfl rfl c131) rfl (x_move hst rfl) ?_; intro a hst
                refine r_t hst (wt_of 32 rfl rfl c131) rfl (x_fieldAddr (j' := 1) hst fa_30_1 rfl rfl) ?_; intro a hst
                refine r_t hst (wt_of 32 rfl rfl c131) rfl (x_loadB (i := 0) hst hsh sc_9 rfl rfl rfl) ?_; intro a hst
                refine r_t hst (wt_of 32 rfl rfl c131) rfl (x_cmpS (b := sLt a1 x123.End) hst rfl rfl rfl) ?_; intro a hst
                refine r_t hst trivial rfl (x_andT hst rfl c131 rfl) ?_; intro a hst
                exact hj _ (hst.keep _ ⟨rfl, rfl, rfl, rfl, rfl, rfl, rfl, rfl, rfl, rfl, rfl, trivial⟩)
              · replace c131 := Bool.eq_false_iff.2 c131
                refine r_not hst 32 rfl rfl c131 rfl ?_; intro a hst
                refine r_not hst 32 rfl rfl c131 rfl ?_; intro a hst
                refine r_not hst 32 rfl rfl c131 rfl ?_; intro a hst
                refine r_not hst 32 rfl rfl c131 rfl ?_; intro a hst
                refine r_t hst trivial rfl (x_andF (sLt a1 x123.End) hst rfl c131 rfl) ?_; intro a hst
                exact hj _ (hst.keep _ ⟨rfl, rfl, rfl, rfl, rfl, rfl, rfl, rfl, rfl, rfl, rfl, trivial⟩)
          · intro hj
            by_cases c130 : (r127 && (decide (x123.Seq ≤ a2))) = true
            · refine r_t hst (wt_of 26 rfl rfl c130) rfl (x_fieldAddr (j' := 0) hst fa_30_0 rfl rfl) ?_; intro a hst
              refine r_t hst (wt_of 26 rfl rfl c130) rfl (x_loadB (i := 0) hst hsh sc_9 rfl rfl rfl) ?_; intro a hst
              refine r_t hst (wt_of 26 rfl rfl c130) rfl (x_move hst rfl) ?_; intro a hst
              refine r_t hst (wt_of 26 rfl rfl c130) rfl (x_cmpS (b := (sLt x123.Begin a1 || sEq x123.Begin a1)) hst rfl rfl rfl) ?_; intro a hst
              refine r_t hst trivial rfl (x_andT hst rfl c130 rfl) ?_; intro a hst
              exact hj _ (hst.keep _ ⟨rfl, rfl, rfl, rfl, rfl, rfl, rfl, rfl, rfl, rfl, rfl, trivial⟩)
            · replace c130 := Bool.eq_false_iff.2 c130
              refine r_not hst 26 rfl rfl c130 rfl ?_; intro a hst
              refine r_not hst 26 rfl rfl c130 rfl ?_; intro a hst
              refine r_not hst 26 rfl rfl c130 rfl ?_; intro a hst
              refine r_not hst 26 rfl rfl c130 rfl ?_; intro a hst
              refine r_t hst trivial rfl (x_andF (sLt x123.Begin a1 || sEq x123.Begin a1) hst rfl c130 rfl) ?_; intro a hst
              exact hj _ (hst.keep _ ⟨rfl, rfl, rfl, rfl, rfl, rfl, rfl, rfl, rfl, rfl, rfl, trivial⟩)
        · intro hj
          by_cases c129 : r127 = true
          · refine r_t hst (wt_of 20 rfl rfl c129) rfl (x_fieldAddr (j' := 2) hst fa_30_2 rfl rfl) ?_; intro a hst
            refine r_t hst (wt_of 20 rfl rfl c129) rfl (x_loadB (i := 0) hst hsh sc_23 rfl rfl rfl) ?_; intro a hst
            refine r_t hst (wt_of 20 rfl rfl c129) rfl (x_move hst rfl) ?_; intro a hst
            refine r_t hst (wt_of 20 rfl rfl c129) rfl (x_cmpI (b := decide (x123.Seq ≤ a2)) hst rfl rfl rfl) ?_; intro a hst
            refine r_t hst trivial rfl (x_andT hst rfl c129 rfl) ?_; intro a hst
            exact hj _ (hst.keep _ ⟨rfl, rfl, rfl, rfl, rfl, rfl, rfl, rfl, rfl, rfl, rfl, trivial⟩)
          · replace c129 := Bool.eq_false_iff.2 c129
            refine r_not hst 20 rfl rfl c129 rfl ?_; intro a hst
            refine r_not hst 20 rfl rfl c129 rfl ?_; intro a hst
            refine r_not hst 20 rfl rfl c129 rfl ?_; intro a hst
            refine r_not hst 20 rfl rfl c129 rfl ?_; intro a hst
            refine r_t hst trivial rfl (x_andF (decide (x123.Seq ≤ a2)) hst rfl c129 rfl) ?_; intro a hst
            exact hj _ (hst.keep _ ⟨rfl, rfl, rfl, rfl, rfl, rfl, rfl, rfl, rfl, rfl, rfl, trivial⟩)
    · rw [if_neg c112] at H
      replace c112 := Bool.eq_false_iff.2 c112
      refine wq_condF hst rfl c112 ?_
      refine wq_exit ?_
      refine then_exit ?_
      refine then_exit ?_
      refine block_hit ?_
      refine then_normal ?_
      refine wq_seq ?_
      refine wq_region_lit (.inl rfl) ?_
      refine r_t hst trivial rfl (x_move hst rfl) ?_; intro a hst
      refine r_t hst trivial rfl (x_move hst rfl) ?_; intro a hst
      refine r_t hst trivial rfl (x_assign hst rfl) ?_; intro a hst
      refine r_t hst trivial rfl (x_assign hst rfl) ?_; intro a hst
      refine wpL_nil ?_
      refine then_normal ?_
      refine wq_ret ?_
      obtain rfl := Option.some.inj H
      exact ret2 hst rfl rfl rfl ⟨rfl, hsh.pick []⟩

set_option maxHeartbeats 4000000 in
set_option maxRecDepth 100000 in
theorem l09_TombPieces.calls (k : Nat) (w : World) (va0 : Value) (Za0 : Nat → Prop) (wra0 : World) (hsa0 : Same Za0 wra0 w) (a0 : (List Tomb)) (hra0 : RD k_Tomb Za0 wra0 va0 a0) (a1 : ByteArray) (r : Bool) (h : l09_TombPieces k a0 a1 = some r) :
    Calls Try.prog 4 ([va0, .string a1] : List Value).toArray w fun e w' => e = .returned (.bool r) ∧ SH (fun _ => False) w w' [] := by
 have H := h
 clear h
 unfold l09_TombPieces at H
 refine calls_enter Try.func4 rfl rfl ?_
 intro a hst
 have hsh := SH.zero (fun _ => False) w
 refine wq_seq ?_
 refine wq_region_lit (.inl rfl) ?_
 refine r_t hst trivial rfl (x_assign hst rfl) ?_; intro a hst
 refine wpL_nil ?_
 refine then_normal ?_
 refine wq_seq ?_
 refine wq_region_lit (.inl rfl) ?_
 refine r_t hst trivial rfl (x_move hst rfl) ?_; intro a hst
 obtain ⟨r1, hr1, H⟩ := Option.bind_eq_some_iff.1 H
 refine r_callD hst trivial rfl fn_10 rfl (tomb_Fragments.calls k _ _ _ _ (Same.sh0 hsa0 hsh) _ hra0 r1 hr1) ?_
 rintro e w2 ⟨v3, rfl, hc⟩
 replace hsh := hsh.call0 hc
 clear hc
 refine ⟨_, rfl, fun a hst => ?_⟩
 refine r_t hst trivial rfl (x_assign hst rfl) ?_; intro a hst
 refine wpL_nil ?_
 refine then_normal ?_
 refine wq_seq ?_
 refine wq_region_lit (.inl rfl) ?_
 refine r_t hst trivial rfl (x_assign hst rfl) ?_; intro a hst
 refine wpL_nil ?_
 refine then_normal ?_
 refine wq_seq ?_
 refine wq_seq ?_
 refine wq_region_lit (.inl rfl) ?_
 refine r_t hst trivial rfl (x_assign hst rfl) ?_; intro a hst
 refine wpL_nil ?_
 refine then_normal ?_
 refine wq_block ?_
 obtain ⟨Z3172, hoZ3172, hsh⟩ := hsh.freeze 0 rfl
 have hRZ3172 := hoZ3172.rd
 refine wq_loop_fuel (fun k_673 a w' => ∃ (v_556 : Value), ∃ (l_557 : (List Int)), ∃ (i_559 : Int), l09_TombPieces.l0 a0 a1 r1 k_673 l_557 i_559 = some r ∧ ST [] Try.f4.ntmps a [(0, va0), (1, .string a1), (4, .bool false), (5, v3), (6, v_556), (7, .int .i64 i_559)] ∧ SH (fun _ => False) w w' [Frz Z3172 w2] ∧ RD (Kd.int .u64) Z3172 w2 v_556 l_557) k ?_ ?_
 · exact ⟨(.slice none 0 0), ([]), 0, H, hst.keep _ ⟨rfl, rfl, rfl, rfl, rfl, rfl, trivial⟩, hsh.pick [0], (RD.nil _ _ _)⟩
 · rintro k_673 a W_560 ⟨v_556, l_557, i_559, H, hst, hsh, hr_558⟩
   cases k_673 with
   | zero => rw [l09_TombPieces.l0] at H; cases H
   | succ k_673 =>
    rw [l09_TombPieces.l0] at H
    refine wq_seq ?_
    refine wq_seq ?_
    refine wq_region_lit (.inl rfl) ?_
    refine r_t hst trivial rfl (x_move hst rfl) ?_; intro a hst
    refine r_t hst trivial rfl (x_move hst rfl) ?_; intro a hst
    refine r_t hst trivial rfl (x_lenSl hst Try.underlying33 rfl hRZ3172.slen) ?_; intro a hst
    refine r_t hst trivial rfl (x_cmpI (b := decide (i_559 < (r1.length : Int))) hst rfl rfl rfl) ?_; intro a hst
    refine wpL_nil ?_
    refine then_normal ?_
    by_cases c4754 : (decide (i_559 < (r1.length : Int))) = true
    · rw [if_pos c4754] at H
      refine wq_condT hst rfl c4754 ?_
      refine wq_skip ?_
      refine then_normal ?_
      obtain ⟨J_729, hJ_729, H⟩ := Jn.elim H
      refine wq_cut (fun a w' => ∃ (v_725 : Value), ∃ (l_726 : (List Int)), J_729 l_726 = some r ∧ ST [] Try.f4.ntmps a [(0, va0), (1, .string a1), (4, .bool false), (5, v3), (6, v_725), (7, .int .i64 i_559)] ∧ SH (fun _ => False) w w' [Frz Z3172 w2] ∧ RD (Kd.int .u64) Z3172 w2 v_725 l_726) ?_ ?_
      · rintro a W_728 ⟨v_725, l_726, H, hst, hsh, hr_727⟩
        subst hJ_729
        dsimp only at H
        refine wq_region_lit (.inl rfl) ?_
        refine r_t hst trivial rfl (x_move hst rfl) ?_; intro a hst
        refine r_t hst trivial rfl (x_arI (r := w64 (i_559 + 1)) hst rfl rfl rfl) ?_; intro a hst
        refine r_t hst trivial rfl (x_assign hst rfl) ?_; intro a hst
        refine wpL_nil ?_
        refine then_normal ?_
        exact ⟨k_673, Nat.lt_succ_self _, v_725, l_726, (w64 (i_559 + 1)), H, hst.keep _ ⟨rfl, rfl, rfl, rfl, rfl, rfl, trivial⟩, hsh.pick [0], hr_727⟩
      · refine wq_block ?_
        refine wq_seq ?_
        refine wq_seq ?_
        refine wq_region_q (.inl rfl) (fun w' => SH (fun _ => False) w w' [Frz Z3172 w2]) (shut_sh _ _ _) hsh.drew fo (by kernel_rfl) ?_
        refine q_t hst trivial rfl (fun _ hsh => x_move hst rfl) ?_; intro a hst
        refine q_t hst trivial rfl (fun _ hsh => x_move hst rfl) ?_; intro a hst
        obtain ⟨x5215, hx5215, H⟩ := Option.bind_eq_some_iff.1 H
        refine q_t hst trivial rfl (fun _ hsh => x_indexAddr hst Try.underlying33 el_37 rfl rfl hRZ3172 hx5215) ?_; intro a hst
        obtain ⟨_, hk5216, hc5217⟩ := RD.cells2 hRZ3172 hx5215
        obtain ⟨_, _, rfl, rfl, ⟨_, _, rfl, rfl, ⟨v5218, rfl, hr5219⟩⟩⟩ := hk5216
        refine q_t hst trivial rfl (fun _ hsh => x_fieldAddrE (n' := Int.toNat i_559 * k_Fragment.sz) hst fa_37_0 rfl rfl) ?_; intro a hst
        refine q_t hst trivial rfl (fun _ hsh => x_loadC hst sc_9 rfl (hc5217 _ (hsh.frz 0 rfl) 0 _ rfl)) ?_; intro a hst
        refine q_t hst trivial rfl (fun _ hsh => x_move hst rfl) ?_; intro a hst
        refine q_t hst trivial rfl (fun _ hsh => x_move hst rfl) ?_; intro a hst
        obtain ⟨x5220, hx5220, H⟩ := Option.bind_eq_some_iff.1 H
        refine q_t hst trivial rfl (fun _ hsh => x_indexAddr hst Try.underlying33 el_37 rfl rfl hRZ3172 hx5220) ?_; intro a hst
        obtain ⟨_, hk5221, hc5222⟩ := RD.cells2 hRZ3172 hx5220
        obtain ⟨_, _, rfl, rfl, ⟨_, _, rfl, rfl, ⟨v5223, rfl, hr5224⟩⟩⟩ := hk5221
        refine q_t hst trivial rfl (fun _ hsh => x_fieldAddrE (n' := Int.toNat i_559 * k_Fragment.sz + 1) hst fa_37_1 rfl rfl) ?_; intro a hst
        refine q_t hst trivial rfl (fun _ hsh => x_loadC hst sc_9 rfl (hc5222 _ (hsh.frz 0 rfl) 1 _ rfl)) ?_; intro a hst
        refine q_t hst trivial rfl (fun _ hsh => x_cmpS (b := (!sLt x5215.Begin x5220.End)) hst rfl rfl rfl) ?_; intro a hst
        refine q_t hst trivial rfl (fun _ hsh => x_move hst rfl) ?_; intro a hst
        obtain ⟨J_749, hJ_749, H⟩ := Jn.elim H
        refine q_join 29 (fun a => ∃ (b_748 : Bool), J_749 b_748 = some r ∧ ST [] Try.f4.ntmps a [(0, va0), (1, .string a1), (4, .bool false), (5, v3), (6, v_556), (7, .int .i64 i_559), (53, .bool b_748)]) ?_ ?_
        · rintro a ⟨b_748, H, hst⟩
          subst hJ_749
          dsimp only at H
          refine q_t hst trivial rfl (fun _ hsh => x_move hst rfl) ?_; intro a hst
          obtain ⟨J_755, hJ_755, H⟩ := Jn.elim H
          refine q_join 38 (fun a => ∃ (b_754 : Bool), J_755 b_754 = some r ∧ ST [] Try.f4.ntmps a [(0, va0), (1, .string a1), (4, .bool false), (5, v3), (6, v_556), (7, .int .i64 i_559), (62, .bool b_754)]) ?_ ?_
          · rintro a ⟨b_754, H, hst⟩
            subst hJ_755
            dsimp only at H
            refine q_nil ?_
            intro w5253 hsh
            refine then_normal ?_
            by_cases c5254 : b_754 = true
            · rw [if_pos c5254] at H
              refine wq_condT hst rfl c5254 ?_
              refine wq_seq ?_
              refine wq_region_lit (.inl rfl) ?_
              refine r_t hst trivial rfl (x_assign hst rfl) ?_; intro a hst
              refine wpL_nil ?_
              refine then_normal ?_
              refine wq_ret ?_
              refine then_ret ?_
              refine block_ret ?_
              refine then_ret ?_
              refine then_ret ?_
              refine block_ret ?_
              refine then_ret ?_
              obtain rfl := Option.some.inj H
              exact ret1 hst rfl rfl ⟨rfl, hsh.pick []⟩
            · rw [if_neg c5254] at H
              replace c5254 := Bool.eq_false_iff.2 c5254
              refine wq_condF hst rfl c5254 ?_
              refine wq_skip ?_
              refine then_normal ?_
              obtain ⟨J_766, hJ_766, H⟩ := Jn.elim H
              refine wq_cut (fun a w' => J_766 = some r ∧ ST [] Try.f4.ntmps a [(0, va0), (1, .string a1), (4, .bool false), (5, v3), (6, v_556), (7, .int .i64 i_559)] ∧ SH (fun _ => False) w w' [Frz Z3172 w2]) ?_ ?_
              · rintro a W_765 ⟨H, hst, hsh⟩
                subst hJ_766
                refine wq_seq ?_
                refine wq_region_lit (.inl rfl) ?_
                refine r_t hst trivial rfl (x_move hst rfl) ?_; intro a hst
                refine r_t hst trivial rfl (x_move hst rfl) ?_; intro a hst
                obtain ⟨x5375, hx5375, H⟩ := Option.bind_eq_some_iff.1 H
                refine r_t hst trivial rfl (x_indexAddr hst Try.underlying33 el_37 rfl rfl hRZ3172 hx5375) ?_; intro a hst
                obtain ⟨_, hk5376, hc5377⟩ := RD.cells2 hRZ3172 hx5375
                obtain ⟨_, _, rfl, rfl, ⟨_, _, rfl, rfl, ⟨v5378, rfl, hr5379⟩⟩⟩ := hk5376
                refine r_t hst trivial rfl (x_fieldAddrE (n' := Int.toNat i_559 * k_Fragment.sz) hst fa_37_0 rfl rfl) ?_; intro a hst
                refine r_t hst trivial rfl (x_loadC hst sc_9 rfl (hc5377 _ (hsh.frz 0 rfl) 0 _ rfl)) ?_; intro a hst
                refine r_t hst trivial rfl (x_move hst rfl) ?_; intro a hst
                refine r_t hst trivial rfl (x_cmpS (b := (sLt x5375.Begin a1 || sEq x5375.Begin a1)) hst rfl rfl rfl) ?_; intro a hst
                refine r_t hst trivial rfl (x_move hst rfl) ?_; intro a hst
                obtain ⟨J_768, hJ_768, H⟩ := Jn.elim H
                refine wl_join 16 (fun a w' => ∃ (b_767 : Bool), J_768 b_767 = some r ∧ ST [] Try.f4.ntmps a [(0, va0), (1, .string a1), (4, .bool false), (5, v3), (6, v_556), (7, .int .i64 i_559), (106, .bool b_767)] ∧ SH (fun _ => False) w w' [Frz Z3172 w2]) ?_ ?_
                · rintro a W_769 ⟨b_767, H, hst, hsh⟩
                  subst hJ_768
                  dsimp only at H
                  refine wpL_nil ?_
                  refine then_normal ?_
                  by_cases c5386 : b_767 = true
                  · rw [if_pos c5386] at H
                    refine wq_condT hst rfl c5386 ?_
                    refine wq_region_lit (.inl rfl) ?_
                    refine r_t hst trivial rfl (x_move hst rfl) ?_; intro a hst
                    refine r_t hst trivial rfl (x_move hst rfl) ?_; intro a hst
                    obtain ⟨x5387, hx5387, H⟩ := Option.bind_eq_some_iff.1 H
                    refine r_t hst trivial rfl (x_indexAddr hst Try.underlying33 el_37 rfl rfl hRZ3172 hx5387) ?_; intro a hst
                    obtain ⟨_, hk5388, hc5389⟩ := RD.cells2 hRZ3172 hx5387
                    obtain ⟨_, _, rfl, rfl, ⟨_, _, rfl, rfl, ⟨v5390, rfl, hr5391⟩⟩⟩ := hk5388
                    refine r_t hst trivial rfl (x_fieldAddrE (n' := Int.toNat i_559 * k_Fragment.sz + 2) hst fa_37_2 rfl rfl) ?_; intro a hst
                    refine r_t hst trivial rfl (x_loadC hst sc_35 rfl (hc5389 _ (hsh.frz 0 rfl) 2 _ rfl)) ?_; intro a hst
                    refine r_t hst trivial rfl (x_assign hst rfl) ?_; intro a hst
                    refine wpL_nil ?_
                    refine block_normal ?_
                    refine then_normal ?_
                    exact ⟨v5390, x5387.Seqs, H, hst.keep _ ⟨rfl, rfl, rfl, rfl, rfl, rfl, trivial⟩, hsh.pick [0], hr5391⟩
                  · rw [if_neg c5386] at H
                    replace c5386 := Bool.eq_false_iff.2 c5386
                    refine wq_condF hst rfl c5386 ?_
                    refine wq_skip ?_
                    refine block_normal ?_
                    refine then_normal ?_
                    exact ⟨v_556, l_557, H, hst.keep _ ⟨rfl, rfl, rfl, rfl, rfl, rfl, trivial⟩, hsh.pick [0], hr_558⟩
                · intro hj
                  by_cases c5380 : (sLt x5375.Begin a1 || sEq x5375.Begin a1) = true
                  · rw [if_pos c5380] at H
                    refine r_t hst (wt_of 98 rfl rfl c5380) rfl (x_move hst rfl) ?_; intro a hst
                    refine r_t hst (wt_of 98 rfl rfl c5380) rfl (x_move hst rfl) ?_; intro a hst
                    refine r_t hst (wt_of 98 rfl rfl c5380) rfl (x_move hst rfl) ?_; intro a hst
                    obtain ⟨x5392, hx5392, H⟩ := Option.bind_eq_some_iff.1 H
                    refine r_t hst (wt_of 98 rfl rfl c5380) rfl (x_indexAddr hst Try.underlying33 el_37 rfl rfl hRZ3172 hx5392) ?_; intro a hst
                    obtain ⟨_, hk5393, hc5394⟩ := RD.cells2 hRZ3172 hx5392
                    obtain ⟨_, _, rfl, rfl, ⟨_, _, rfl, rfl, ⟨v5395, rfl, hr5396⟩⟩⟩ := hk5393
                    refine r_t hst (wt_of 98 rfl rfl c5380) rfl (x_fieldAddrE (n' := Int.toNat i_559 * k_Fragment.sz + 1) hst fa_37_1 rfl rfl) ?_; intro a hst
                    refine r_t hst (wt_of 98 rfl rfl c5380) rfl (x_loadC hst sc_9 rfl (hc5394 _ (hsh.frz 0 rfl) 1 _ rfl)) ?_; intro a hst
                    refine r_t hst (wt_of 98 rfl rfl c5380) rfl (x_cmpS (b := sLt a1 x5392.End) hst rfl rfl rfl) ?_; intro a hst
                    refine r_t hst trivial rfl (x_pickT hst rfl c5380 rfl) ?_; intro a hst
                    exact hj _ _ ⟨(sLt a1 x5392.End), H, hst.keep _ ⟨rfl, rfl, rfl, rfl, rfl, rfl, rfl, trivial⟩, hsh.pick [0]⟩
                  · rw [if_neg c5380] at H
                    replace c5380 := Bool.eq_false_iff.2 c5380
                    refine r_not hst 98 rfl rfl c5380 rfl ?_; intro a hst
                    refine r_not hst 98 rfl rfl c5380 rfl ?_; intro a hst
                    refine r_not hst 98 rfl rfl c5380 rfl ?_; intro a hst
                    refine r_not hst 98 rfl rfl c5380 rfl ?_; intro a hst
                    refine r_not hst 98 rfl rfl c5380 rfl ?_; intro a hst
                    refine r_not hst 98 rfl rfl c5380 rfl ?_; intro a hst
                    refine r_not hst 98 rfl rfl c5380 rfl ?_; intro a hst
                    refine r_t hst trivial rfl (x_pickF hst rfl c5380 rfl) ?_; intro a hst
                    exact hj _ _ ⟨false, H, hst.keep _ ⟨rfl, rfl, rfl, rfl, rfl, rfl, rfl, trivial⟩, hsh.pick [0]⟩
              · refine wq_seq ?_
                refine wq_region_lit (.inl rfl) ?_
                refine r_t hst trivial rfl (x_assign hst rfl) ?_; intro a hst
                refine wpL_nil ?_
                refine then_normal ?_
                refine wq_block ?_
                refine wq_loop_fuel (fun k_777 a w' => ∃ (i_773 : Int), l09_TombPieces.l1 r1 i_559 J_766 k_777 i_773 = some r ∧ ST [] Try.f4.ntmps a [(0, va0), (1, .string a1), (4, .bool false), (5, v3), (6, v_556), (7, .int .i64 i_559), (8, .int .i64 i_773)] ∧ SH (fun _ => False) w w' [Frz Z3172 w2]) k_673 ?_ ?_
                · exact ⟨1, H, hst.keep _ ⟨rfl, rfl, rfl, rfl, rfl, rfl, rfl, trivial⟩, hsh.pick [0]⟩
                · rintro k_777 a W_774 ⟨i_773, H, hst, hsh⟩
                  cases k_777 with
                  | zero => rw [l09_TombPieces.l1] at H; cases H
                  | succ k_777 =>
                   rw [l09_TombPieces.l1] at H
                   refine wq_seq ?_
                   refine wq_seq ?_
                   refine wq_region_lit (.inl rfl) ?_
                   refine r_t hst trivial rfl (x_move hst rfl) ?_; intro a hst
                   refine r_t hst trivial rfl (x_move hst rfl) ?_; intro a hst
                   refine r_t hst trivial rfl (x_move hst rfl) ?_; intro a hst
                   obtain ⟨x5483, hx5483, H⟩ := Option.bind_eq_some_iff.1 H
                   refine r_t hst trivial rfl (x_indexAddr hst Try.underlying33 el_37 rfl rfl hRZ3172 hx5483) ?_; intro a hst
                   obtain ⟨_, hk5484, hc5485⟩ := RD.cells2 hRZ3172 hx5483
                   obtain ⟨_, _, rfl, rfl, ⟨_, _, rfl, rfl, ⟨v5486, rfl, hr5487⟩⟩⟩ := hk5484
                   refine r_t hst trivial rfl (x_fieldAddrE (n' := Int.toNat i_559 * k_Fragment.sz + 2) hst fa_37_2 rfl rfl) ?_; intro a hst
                   refine r_t hst trivial rfl (x_loadC hst sc_35 rfl (hc5485 _ (hsh.frz 0 rfl) 2 _ rfl)) ?_; intro a hst
                   refine r_t hst trivial rfl (x_lenSl hst Try.underlying35 rfl hr5487.slen) ?_; intro a hst
                   refine r_t hst trivial rfl (x_cmpI (b := decide (i_773 < (x5483.Seqs.length : Int))) hst rfl rfl rfl) ?_; intro a hst
                   refine wpL_nil ?_
                   refine then_normal ?_
                   by_cases c5488 : (decide (i_773 < (x5483.Seqs.length : Int))) = true
                   · rw [if_pos c5488] at H
                     refine wq_condT hst rfl c5488 ?_
                     refine wq_skip ?_
                     refine then_normal ?_
                     refine wq_seq ?_
                     refine wq_block ?_
                     refine wq_seq ?_
                     refine wq_region_q (.inl rfl) (fun w' => SH (fun _ => False) w w' [Frz Z3172 w2]) (shut_sh _ _ _) hsh.drew fo (by kernel_rfl) ?_
                     refine q_t hst trivial rfl (fun _ hsh => x_move hst rfl) ?_; intro a hst
                     refine q_t hst trivial rfl (fun _ hsh => x_move hst rfl) ?_; intro a hst
                     obtain ⟨x5503, hx5503, H⟩ := Option.bind_eq_some_iff.1 H
                     refine q_t hst trivial rfl (fun _ hsh => x_indexAddr hst Try.underlying33 el_37 rfl rfl hRZ3172 hx5503) ?_; intro a hst
                     obtain ⟨_, hk5504, hc5505⟩ := RD.cells2 hRZ3172 hx5503
                     obtain ⟨_, _, rfl, rfl, ⟨_, _, rfl, rfl, ⟨v5506, rfl, hr5507⟩⟩⟩ := hk5504
                     refine q_t hst trivial rfl (fun _ hsh => x_fieldAddrE (n' := Int.toNat i_559 * k_Fragment.sz + 2) hst fa_37_2 rfl rfl) ?_; intro a hst
                     refine q_t hst trivial rfl (fun _ hsh => x_loadC hst sc_35 rfl (hc5505 _ (hsh.frz 0 rfl) 2 _ rfl)) ?_; intro a hst
                     refine q_t hst trivial rfl (fun _ hsh => x_move hst rfl) ?_; intro a hst
                     obtain ⟨x5508, hx5508, H⟩ := Option.bind_eq_some_iff.1 H
                     refine q_t hst trivial rfl (fun _ hsh => x_indexAddr hst Try.underlying35 el_23 rfl rfl hr5507 hx5508) ?_; intro a hst
                     refine q_t hst trivial rfl (fun _ hsh => x_loadEF (j := 0) (cs := [.int .u64 x5508]) hst sc_23 rfl hr5507 (hsh.frz 0 rfl) hx5508 rfl (fun _ h => h) rfl) ?_; intro a hst
                     refine q_t hst trivial rfl (fun _ hsh => x_move hst rfl) ?_; intro a hst
                     refine q_t hst trivial rfl (fun _ hsh => x_move hst rfl) ?_; intro a hst
                     obtain ⟨x5509, hx5509, H⟩ := Option.bind_eq_some_iff.1 H
                     refine q_t hst trivial rfl (fun _ hsh => x_indexAddr hst Try.underlying33 el_37 rfl rfl hRZ3172 hx5509) ?_; intro a hst
                     obtain ⟨_, hk5510, hc5511⟩ := RD.cells2 hRZ3172 hx5509
                     obtain ⟨_, _, rfl, rfl, ⟨_, _, rfl, rfl, ⟨v5512, rfl, hr5513⟩⟩⟩ := hk5510
                     refine q_t hst trivial rfl (fun _ hsh => x_fieldAddrE (n' := Int.toNat i_559 * k_Fragment.sz + 2) hst fa_37_2 rfl rfl) ?_; intro a hst
                     refine q_t hst trivial rfl (fun _ hsh => x_loadC hst sc_35 rfl (hc5511 _ (hsh.frz 0 rfl) 2 _ rfl)) ?_; intro a hst
                     refine q_t hst trivial rfl (fun _ hsh => x_move hst rfl) ?_; intro a hst
                     refine q_t hst trivial rfl (fun _ hsh => x_arI (r := w64 (i_773 - 1)) hst rfl rfl rfl) ?_; intro a hst
                     obtain ⟨x5514, hx5514, H⟩ := Option.bind_eq_some_iff.1 H
                     refine q_t hst trivial rfl (fun _ hsh => x_indexAddr hst Try.underlying35 el_23 rfl rfl hr5513 hx5514) ?_; intro a hst
                     refine q_t hst trivial rfl (fun _ hsh => x_loadEF (j := 0) (cs := [.int .u64 x5514]) hst sc_23 rfl hr5513 (hsh.frz 0 rfl) hx5514 rfl (fun _ h => h) rfl) ?_; intro a hst
                     refine q_t hst trivial rfl (fun _ hsh => x_cmpI (b := decide (x5514 ≤ x5508)) hst rfl rfl rfl) ?_; intro a hst
                     refine q_nil ?_
                     intro w5515 hsh
                     refine then_normal ?_
                     by_cases c5516 : (decide (x5514 ≤ x5508)) = true
                     · rw [if_pos c5516] at H
                       refine wq_condT hst rfl c5516 ?_
                       refine wq_seq ?_
                       refine wq_region_lit (.inl rfl) ?_
                       refine r_t hst trivial rfl (x_assign hst rfl) ?_; intro a hst
                       refine wpL_nil ?_
                       refine then_normal ?_
                       refine wq_ret ?_
                       refine block_ret ?_
                       refine then_ret ?_
                       refine then_ret ?_
                       refine block_ret ?_
                       refine then_ret ?_
                       refine block_ret ?_
                       refine then_ret ?_
                       refine then_ret ?_
                       refine block_ret ?_
                       refine then_ret ?_
                       obtain rfl := Option.some.inj H
                       exact ret1 hst rfl rfl ⟨rfl, hsh.pick []⟩
                     · rw [if_neg c5516] at H
                       replace c5516 := Bool.eq_false_iff.2 c5516
                       refine wq_condF hst rfl c5516 ?_
                       refine wq_skip ?_
                       refine block_normal ?_
                       refine then_normal ?_
                       refine wq_region_lit (.inl rfl) ?_
                       refine r_t hst trivial rfl (x_move hst rfl) ?_; intro a hst
                       refine r_t hst trivial rfl (x_arI (r := w64 (i_773 + 1)) hst rfl rfl rfl) ?_; intro a hst
                       refine r_t hst trivial rfl (x_assign hst rfl) ?_; intro a hst
                       refine wpL_nil ?_
                       refine then_normal ?_
                       exact ⟨k_777, Nat.lt_succ_self _, (w64 (i_773 + 1)), H, hst.keep _ ⟨rfl, rfl, rfl, rfl, rfl, rfl, rfl, trivial⟩, hsh.pick [0]⟩
                   · rw [if_neg c5488] at H
                     replace c5488 := Bool.eq_false_iff.2 c5488
                     refine wq_condF hst rfl c5488 ?_
                     refine wq_exit ?_
                     refine then_exit ?_
                     refine then_exit ?_
                     refine block_hit ?_
                     refine then_normal ?_
                     exact ⟨H, hst.keep _ ⟨rfl, rfl, rfl, rfl, rfl, rfl, trivial⟩, hsh.pick [0]⟩
          · intro hj
            by_cases c5247 : b_748 = true
            · rw [if_pos c5247] at H
              refine q_not hst 54 rfl rfl c5247 rfl ?_; intro a hst
              refine q_not hst 54 rfl rfl c5247 rfl ?_; intro a hst
              refine q_not hst 54 rfl rfl c5247 rfl ?_; intro a hst
              refine q_not hst 54 rfl rfl c5247 rfl ?_; intro a hst
              refine q_not hst 54 rfl rfl c5247 rfl ?_; intro a hst
              refine q_not hst 54 rfl rfl c5247 rfl ?_; intro a hst
              refine q_not hst 54 rfl rfl c5247 rfl ?_; intro a hst
              refine q_t hst trivial rfl (fun _ hsh => x_pickT hst rfl c5247 rfl) ?_; intro a hst
              exact hj _ ⟨true, H, hst.keep _ ⟨rfl, rfl, rfl, rfl, rfl, rfl, rfl, trivial⟩⟩
            · rw [if_neg c5247] at H
              replace c5247 := Bool.eq_false_iff.2 c5247
              refine q_t hst (wt_of 54 rfl rfl c5247) rfl (fun _ hsh => x_move hst rfl) ?_; intro a hst
              refine q_t hst (wt_of 54 rfl rfl c5247) rfl (fun _ hsh => x_move hst rfl) ?_; intro a hst
              obtain ⟨x5517, hx5517, H⟩ := Option.bind_eq_some_iff.1 H
              refine q_t hst (wt_of 54 rfl rfl c5247) rfl (fun _ hsh => x_indexAddr hst Try.underlying33 el_37 rfl rfl hRZ3172 hx5517) ?_; intro a hst
              obtain ⟨_, hk5518, hc5519⟩ := RD.cells2 hRZ3172 hx5517
              obtain ⟨_, _, rfl, rfl, ⟨_, _, rfl, rfl, ⟨v5520, rfl, hr5521⟩⟩⟩ := hk5518
              refine q_t hst (wt_of 54 rfl rfl c5247) rfl (fun _ hsh => x_fieldAddrE (n' := Int.toNat i_559 * k_Fragment.sz + 2) hst fa_37_2 rfl rfl) ?_; intro a hst
              refine q_t hst (wt_of 54 rfl rfl c5247) rfl (fun _ hsh => x_loadC hst sc_35 rfl (hc5519 _ (hsh.frz 0 rfl) 2 _ rfl)) ?_; intro a hst
              refine q_t hst (wt_of 54 rfl rfl c5247) rfl (fun _ hsh => x_lenSl hst Try.underlying35 rfl hr5521.slen) ?_; intro a hst
              refine q_t hst (wt_of 54 rfl rfl c5247) rfl (fun _ hsh => x_cmpI (b := ((x5517.Seqs.length : Int) == 0)) hst rfl rfl rfl) ?_; intro a hst
              refine q_t hst trivial rfl (fun _ hsh => x_pickF hst rfl c5247 rfl) ?_; intro a hst
              exact hj _ ⟨((x5517.Seqs.length : Int) == 0), H, hst.keep _ ⟨rfl, rfl, rfl, rfl, rfl, rfl, rfl, trivial⟩⟩
        · intro hj
          by_cases c5225 : (!sLt x5215.Begin x5220.End) = true
          · rw [if_pos c5225] at H
            refine q_not hst 36 rfl rfl c5225 rfl ?_; intro a hst
            refine q_not hst 36 rfl rfl c5225 rfl ?_; intro a hst
            refine q_not hst 36 rfl rfl c5225 rfl ?_; intro a hst
            refine q_notU hst 39 rfl rfl rfl ?_; intro a hst
            refine q_notU hst 39 rfl rfl rfl ?_; intro a hst
            refine q_notU hst 39 rfl rfl rfl ?_; intro a hst
            refine q_notU hst 39 rfl rfl rfl ?_; intro a hst
            refine q_notU hst 39 rfl rfl rfl ?_; intro a hst
            refine q_notU hst 39 rfl rfl rfl ?_; intro a hst
            refine q_notU hst 39 rfl rfl rfl ?_; intro a hst
            refine q_notU hst 39 rfl rfl rfl ?_; intro a hst
            refine q_notU hst 39 rfl rfl rfl ?_; intro a hst
            refine q_notU hst 39 rfl rfl rfl ?_; intro a hst
            refine q_notU hst 39 rfl rfl rfl ?_; intro a hst
            refine q_notU hst 39 rfl rfl rfl ?_; intro a hst
            refine q_not hst 36 rfl rfl c5225 rfl ?_; intro a hst
            refine q_t hst trivial rfl (fun _ hsh => x_pickT hst rfl c5225 rfl) ?_; intro a hst
            exact hj _ ⟨true, H, hst.keep _ ⟨rfl, rfl, rfl, rfl, rfl, rfl, rfl, trivial⟩⟩
          · rw [if_neg c5225] at H
            replace c5225 := Bool.eq_false_iff.2 c5225
            refine q_t hst (wt_of 36 rfl rfl c5225) rfl (fun _ hsh => x_move hst rfl) ?_; intro a hst
            refine q_t hst (wt_of 36 rfl rfl c5225) rfl (fun _ hsh => x_cmpI (b := decide (0 < i_559)) hst rfl rfl rfl) ?_; intro a hst
            refine q_t hst (wt_of 36 rfl rfl c5225) rfl (fun _ hsh => x_move hst rfl) ?_; intro a hst
            obtain ⟨J_779, hJ_779, H⟩ := Jn.elim H
            refine q_join 28 (fun a => ∃ (b_778 : Bool), J_779 b_778 = some r ∧ ST [] Try.f4.ntmps a [(0, va0), (1, .string a1), (4, .bool false), (5, v3), (6, v_556), (7, .int .i64 i_559), (36, .bool (!sLt x5215.Begin x5220.End)), (52, .bool b_778)]) ?_ ?_
            · rintro a ⟨b_778, H, hst⟩
              subst hJ_779
              dsimp only at H
              refine q_t hst trivial rfl (fun _ hsh => x_pickF hst rfl c5225 rfl) ?_; intro a hst
              exact hj _ ⟨b_778, H, hst.keep _ ⟨rfl, rfl, rfl, rfl, rfl, rfl, rfl, trivial⟩⟩
            · intro hj
              by_cases c5522 : (decide (0 < i_559)) = true
              · rw [if_pos c5522] at H
                refine q_t hst (wt_of 39 rfl rfl c5522) rfl (fun _ hsh => x_move hst rfl) ?_; intro a hst
                refine q_t hst (wt_of 39 rfl rfl c5522) rfl (fun _ hsh => x_move hst rfl) ?_; intro a hst
                refine q_t hst (wt_of 39 rfl rfl c5522) rfl (fun _ hsh => x_arI (r := w64 (i_559 - 1)) hst rfl rfl rfl) ?_; intro a hst
                obtain ⟨x5533, hx5533, H⟩ := Option.bind_eq_some_iff.1 H
                refine q_t hst (wt_of 39 rfl rfl c5522) rfl (fun _ hsh => x_indexAddr hst Try.underlying33 el_37 rfl rfl hRZ3172 hx5533) ?_; intro a hst
                obtain ⟨_, hk5534, hc5535⟩ := RD.cells2 hRZ3172 hx5533
                obtain ⟨_, _, rfl, rfl, ⟨_, _, rfl, rfl, ⟨v5536, rfl, hr5537⟩⟩⟩ := hk5534
                refine q_t hst (wt_of 39 rfl rfl c5522) rfl (fun _ hsh => x_fieldAddrE (n' := Int.toNat (w64 (i_559 - 1)) * k_Fragment.sz + 1) hst fa_37_1 rfl rfl) ?_; intro a hst
                refine q_t hst (wt_of 39 rfl rfl c5522) rfl (fun _ hsh => x_loadC hst sc_9 rfl (hc5535 _ (hsh.frz 0 rfl) 1 _ rfl)) ?_; intro a hst
                refine q_t hst (wt_of 39 rfl rfl c5522) rfl (fun _ hsh => x_move hst rfl) ?_; intro a hst
                refine q_t hst (wt_of 39 rfl rfl c5522) rfl (fun _ hsh => x_move hst rfl) ?_; intro a hst
                obtain ⟨x5538, hx5538, H⟩ := Option.bind_eq_some_iff.1 H
                refine q_t hst (wt_of 39 rfl rfl c5522) rfl (fun _ hsh => x_indexAddr hst Try.underlying33 el_37 rfl rfl hRZ3172 hx5538) ?_; intro a hst
                obtain ⟨_, hk5539, hc5540⟩ := RD.cells2 hRZ3172 hx5538
                obtain ⟨_, _, rfl, rfl, ⟨_, _, rfl, rfl, ⟨v5541, rfl, hr5542⟩⟩⟩ := hk5539
                refine q_t hst (wt_of 39 rfl rfl c5522) rfl (fun _ hsh => x_fieldAddrE (n' := Int.toNat i_559 * k_Fragment.sz) hst fa_37_0 rfl rfl) ?_; intro a hst
                refine q_t hst (wt_of 39 rfl rfl c5522) rfl (fun _ hsh => x_loadC hst sc_9 rfl (hc5540 _ (hsh.frz 0 rfl) 0 _ rfl)) ?_; intro a hst
                refine q_t hst (wt_of 39 rfl rfl c5522) rfl (fun _ hsh => x_cmpS (b := (!(sLt x5533.End x5538.Begin || sEq x5533.End x5538.Begin))) hst rfl rfl rfl) ?_; intro a hst
                refine q_t hst (wt_of 36 rfl rfl c5225) rfl (fun _ hsh => x_pickT hst rfl c5522 rfl) ?_; intro a hst
                exact hj _ ⟨(!(sLt x5533.End x5538.Begin || sEq x5533.End x5538.Begin)), H, hst.keep _ ⟨rfl, rfl, rfl, rfl, rfl, rfl, rfl, rfl, trivial⟩⟩
              · rw [if_neg c5522] at H
                replace c5522 := Bool.eq_false_iff.2 c5522
                refine q_not hst 39 rfl rfl c5522 rfl ?_; intro a hst
                refine q_not hst 39 rfl rfl c5522 rfl ?_; intro a hst
                refine q_not hst 39 rfl rfl c5522 rfl ?_; intro a hst
                refine q_not hst 39 rfl rfl c5522 rfl ?_; intro a hst
                refine q_not hst 39 rfl rfl c5522 rfl ?_; intro a hst
                refine q_not hst 39 rfl rfl c5522 rfl ?_; intro a hst
                refine q_not hst 39 rfl rfl c5522 rfl ?_; intro a hst
                refine q_not hst 39 rfl rfl c5522 rfl ?_; intro a hst
                refine q_not hst 39 rfl rfl c5522 rfl ?_; intro a hst
                refine q_not hst 39 rfl rfl c5522 rfl ?_; intro a hst
                refine q_not hst 39 rfl rfl c5522 rfl ?_; intro a hst
                refine q_not hst 39 rfl rfl c5522 rfl ?_; intro a hst
                refine q_t hst (wt_of 36 rfl rfl c5225) rfl (fun _ hsh => x_pickF hst rfl c5522 rfl) ?_; intro a hst
                exact hj _ ⟨false, H, hst.keep _ ⟨rfl, rfl, rfl, rfl, rfl, rfl, rfl, rfl, trivial⟩⟩
    · rw [if_neg c4754] at H
      replace c4754 := Bool.eq_false_iff.2 c4754
      refine wq_condF hst rfl c4754 ?_
      refine wq_exit ?_
      refine then_exit ?_
      refine then_exit ?_
      refine block_hit ?_
      refine then_normal ?_
      obtain ⟨J_1162, hJ_1162, H⟩ := Jn.elim H
      refine wq_cut (fun a w' => J_1162 = some r ∧ ST [] Try.f4.ntmps a [(0, va0), (1, .string a1), (4, .bool false), (6, v_556)] ∧ SH (fun _ => False) w w' [Frz Z3172 w2]) ?_ ?_
      · rintro a W_1161 ⟨H, hst, hsh⟩
        subst hJ_1162
        obtain ⟨J_2192, hJ_2192, H⟩ := Jn.elim H
        refine wq_cut (fun a w' => J_2192 = some r ∧ ST [] Try.f4.ntmps a [(0, va0), (1, .string a1), (4, .bool false), (6, v_556)] ∧ SH (fun _ => False) w w' [Frz Z3172 w2]) ?_ ?_
        · rintro a W_2191 ⟨H, hst, hsh⟩
          subst hJ_2192
          refine wq_seq ?_
          refine wq_region_lit (.inl rfl) ?_
          refine r_t hst trivial rfl (x_move hst rfl) ?_; intro a hst
          refine r_t hst trivial rfl (x_move hst rfl) ?_; intro a hst
          obtain ⟨r7463, hr7463, H⟩ := Option.bind_eq_some_iff.1 H
          refine r_callD hst trivial rfl fn_8 rfl (tomb_Cover.calls k_673 _ _ _ _ (Same.sh0 hsa0 hsh) _ hra0 a1 72057594037927935 r7463 hr7463) ?_
          rintro e w7464 ⟨rfl, hc⟩
          replace hsh := hsh.call0 hc
          clear hc
          refine ⟨_, rfl, fun a hst => ?_⟩
          refine r_t hst trivial rfl (x_move hst rfl) ?_; intro a hst
          refine r_t hst trivial rfl (x_extract hst rfl rfl) ?_; intro a hst
          refine r_t hst trivial rfl (x_extract hst rfl rfl) ?_; intro a hst
          refine r_t hst trivial rfl (x_assign hst rfl) ?_; intro a hst
          refine r_t hst trivial rfl (x_assign hst rfl) ?_; intro a hst
          refine wpL_nil ?_
          refine then_normal ?_
          refine wq_seq ?_
          refine wq_region_lit (.inl rfl) ?_
          refine r_t hst trivial rfl (x_move hst rfl) ?_; intro a hst
          refine r_t hst trivial rfl (x_move hst rfl) ?_; intro a hst
          refine r_t hst trivial rfl (x_lenSl hst Try.underlying35 rfl hr_558.slen) ?_; intro a hst
          refine r_t hst trivial rfl (x_cmpI (b := decide (0 < (l_557.length : Int))) hst rfl rfl rfl) ?_; intro a hst
          refine r_t hst trivial rfl (x_eqB (b := (r7463.2 == (decide (0 < (l_557.length : Int))))) hst Try.underlying4 rfl rfl rfl) ?_; intro a hst
          refine r_t hst trivial rfl (x_move hst rfl) ?_; intro a hst
          obtain ⟨J_2197, hJ_2197, H⟩ := Jn.elim H
          refine wl_join 16 (fun a w' => ∃ (b_2196 : Bool), J_2197 b_2196 = some r ∧ ST [] Try.f4.ntmps a [(4, .bool false), (203, .bool b_2196)] ∧ SH (fun _ => False) w w' []) ?_ ?_
          · rintro a W_2201 ⟨b_2196, H, hst, hsh⟩
            subst hJ_2197
            dsimp only at H
            refine r_t hst trivial rfl (x_assign hst rfl) ?_; intro a hst
            refine wpL_nil ?_
            refine then_normal ?_
            refine wq_ret ?_
            obtain rfl := Option.some.inj H
            exact ret1 hst rfl rfl ⟨rfl, hsh.pick []⟩
          · intro hj
            by_cases c7465 : (r7463.2 == (decide (0 < (l_557.length : Int)))) = true
            · rw [if_pos c7465] at H
              refine r_t hst (wt_of 193 rfl rfl c7465) rfl (x_move hst rfl) ?_; intro a hst
              refine r_t hst (wt_of 193 rfl rfl c7465) rfl (x_notB hst rfl) ?_; intro a hst
              refine r_t hst (wt_of 193 rfl rfl c7465) rfl (x_move hst rfl) ?_; intro a hst
              obtain ⟨J_2203, hJ_2203, H⟩ := Jn.elim H
              refine wl_join 15 (fun a w' => ∃ (b_2202 : Bool), J_2203 b_2202 = some r ∧ ST [] Try.f4.ntmps a [(4, .bool false), (193, .bool (r7463.2 == (decide (0 < (l_557.length : Int))))), (202, .bool b_2202)] ∧ SH (fun _ => False) w w' []) ?_ ?_
              · rintro a W_2204 ⟨b_2202, H, hst, hsh⟩
                subst hJ_2203
                dsimp only at H
                refine r_t hst trivial rfl (x_pickT hst rfl c7465 rfl) ?_; intro a hst
                exact hj _ _ ⟨b_2202, H, hst.keep _ ⟨rfl, rfl, trivial⟩, hsh.pick []⟩
              · intro hj
                by_cases c7469 : (!r7463.2) = true
                · rw [if_pos c7469] at H
                  refine r_not hst 196 rfl rfl c7469 rfl ?_; intro a hst
                  refine r_not hst 196 rfl rfl c7469 rfl ?_; intro a hst
                  refine r_not hst 196 rfl rfl c7469 rfl ?_; intro a hst
                  refine r_not hst 196 rfl rfl c7469 rfl ?_; intro a hst
                  refine r_not hst 196 rfl rfl c7469 rfl ?_; intro a hst
                  refine r_t hst (wt_of 193 rfl rfl c7465) rfl (x_pickT hst rfl c7469 rfl) ?_; intro a hst
                  exact hj _ _ ⟨true, H, hst.keep _ ⟨rfl, rfl, rfl, trivial⟩, hsh.pick []⟩
                · rw [if_neg c7469] at H
                  replace c7469 := Bool.eq_false_iff.2 c7469
                  refine r_t hst (wt_of 196 rfl rfl c7469) rfl (x_move hst rfl) ?_; intro a hst
                  refine r_t hst (wt_of 196 rfl rfl c7469) rfl (x_move hst rfl) ?_; intro a hst
                  obtain ⟨x7471, hx7471, H⟩ := Option.bind_eq_some_iff.1 H
                  refine r_t hst (wt_of 196 rfl rfl c7469) rfl (x_indexAddr hst Try.underlying35 el_23 rfl rfl hr_558 hx7471) ?_; intro a hst
                  refine r_t hst (wt_of 196 rfl rfl c7469) rfl (x_loadEF (j := 0) (cs := [.int .u64 x7471]) hst sc_23 rfl hr_558 (hsh.frz 0 rfl) hx7471 rfl (fun _ h => h) rfl) ?_; intro a hst
                  refine r_t hst (wt_of 196 rfl rfl c7469) rfl (x_cmpI (b := (r7463.1 == x7471)) hst rfl rfl rfl) ?_; intro a hst
                  refine r_t hst (wt_of 193 rfl rfl c7465) rfl (x_pickF hst rfl c7469 rfl) ?_; intro a hst
                  exact hj _ _ ⟨(r7463.1 == x7471), H, hst.keep _ ⟨rfl, rfl, rfl, trivial⟩, hsh.pick []⟩
            · rw [if_neg c7465] at H
              replace c7465 := Bool.eq_false_iff.2 c7465
              refine r_not hst 193 rfl rfl c7465 rfl ?_; intro a hst
              refine r_not hst 193 rfl rfl c7465 rfl ?_; intro a hst
              refine r_not hst 193 rfl rfl c7465 rfl ?_; intro a hst
              refine r_notU hst 196 rfl rfl rfl ?_; intro a hst
              refine r_notU hst 196 rfl rfl rfl ?_; intro a hst
              refine r_notU hst 196 rfl rfl rfl ?_; intro a hst
              refine r_notU hst 196 rfl rfl rfl ?_; intro a hst
              refine r_notU hst 196 rfl rfl rfl ?_; intro a hst
              refine r_not hst 193 rfl rfl c7465 rfl ?_; intro a hst
              refine r_t hst trivial rfl (x_pickF hst rfl c7465 rfl) ?_; intro a hst
              exact hj _ _ ⟨false, H, hst.keep _ ⟨rfl, rfl, trivial⟩, hsh.pick []⟩
        · refine wq_seq ?_
          refine wq_region_lit (.inl rfl) ?_
          refine r_t hst trivial rfl (x_assign hst rfl) ?_; intro a hst
          refine wpL_nil ?_
          refine then_normal ?_
          refine wq_block ?_
          refine wq_loop_fuel (fun k_2892 a w' => ∃ (i_2548 : Int), l09_TombPieces.l2 a0 a1 l_557 J_2192 k_2892 i_2548 = some r ∧ ST [] Try.f4.ntmps a [(0, va0), (1, .string a1), (4, .bool false), (6, v_556), (12, .int .i64 i_2548)] ∧ SH (fun _ => False) w w' [Frz Z3172 w2]) k_673 ?_ ?_
          · exact ⟨0, H, hst.keep _ ⟨rfl, rfl, rfl, rfl, rfl, trivial⟩, hsh.pick [0]⟩
          · rintro k_2892 a W_2549 ⟨i_2548, H, hst, hsh⟩
            cases k_2892 with
            | zero => rw [l09_TombPieces.l2] at H; cases H
            | succ k_2892 =>
             rw [l09_TombPieces.l2] at H
             refine wq_seq ?_
             refine wq_seq ?_
             refine wq_region_lit (.inl rfl) ?_
             refine r_t hst trivial rfl (x_move hst rfl) ?_; intro a hst
             refine r_t hst trivial rfl (x_move hst rfl) ?_; intro a hst
             refine r_t hst trivial rfl (x_lenSl hst Try.underlying35 rfl hr_558.slen) ?_; intro a hst
             refine r_t hst trivial rfl (x_cmpI (b := decide (i_2548 < (l_557.length : Int))) hst rfl rfl rfl) ?_; intro a hst
             refine wpL_nil ?_
             refine then_normal ?_
             by_cases c8393 : (decide (i_2548 < (l_557.length : Int))) = true
             · rw [if_pos c8393] at H
               refine wq_condT hst rfl c8393 ?_
               refine wq_skip ?_
               refine then_normal ?_
               obtain ⟨J_3063, hJ_3063, H⟩ := Jn.elim H
               refine wq_cut (fun a w' => J_3063 = some r ∧ ST [] Try.f4.ntmps a [(0, va0), (1, .string a1), (4, .bool false), (6, v_556), (12, .int .i64 i_2548)] ∧ SH (fun _ => False) w w' [Frz Z3172 w2]) ?_ ?_
               · rintro a W_3062 ⟨H, hst, hsh⟩
                 subst hJ_3063
                 refine wq_region_lit (.inl rfl) ?_
                 refine r_t hst trivial rfl (x_move hst rfl) ?_; intro a hst
                 refine r_t hst trivial rfl (x_arI (r := w64 (i_2548 + 1)) hst rfl rfl rfl) ?_; intro a hst
                 refine r_t hst trivial rfl (x_assign hst rfl) ?_; intro a hst
                 refine wpL_nil ?_
                 refine then_normal ?_
                 exact ⟨k_2892, Nat.lt_succ_self _, (w64 (i_2548 + 1)), H, hst.keep _ ⟨rfl, rfl, rfl, rfl, rfl, trivial⟩, hsh.pick [0]⟩
               · refine wq_block ?_
                 refine wq_seq ?_
                 refine wq_region_lit (.inl rfl) ?_
                 refine r_t hst trivial rfl (x_assign hst rfl) ?_; intro a hst
                 refine wpL_nil ?_
                 refine then_normal ?_
                 obtain ⟨J_3149, hJ_3149, H⟩ := Jn.elim H
                 refine wq_cut (fun a w' => ∃ (b_3147 : Bool), J_3149 b_3147 = some r ∧ ST [] Try.f4.ntmps a [(0, va0), (1, .string a1), (4, .bool false), (6, v_556), (12, .int .i64 i_2548), (13, .bool b_3147)] ∧ SH (fun _ => False) w w' [Frz Z3172 w2]) ?_ ?_
                 · rintro a W_3148 ⟨b_3147, H, hst, hsh⟩
                   subst hJ_3149
                   dsimp only at H
                   refine wq_seq ?_
                   refine wq_region_lit (.inl rfl) ?_
                   refine r_t hst trivial rfl (x_move hst rfl) ?_; intro a hst
                   refine r_t hst trivial rfl (x_notB hst rfl) ?_; intro a hst
                   refine wpL_nil ?_
                   refine then_normal ?_
                   by_cases c8737 : (!b_3147) = true
                   · rw [if_pos c8737] at H
                     refine wq_condT hst rfl c8737 ?_
                     refine wq_seq ?_
                     refine wq_region_lit (.inl rfl) ?_
                     refine r_t hst trivial rfl (x_assign hst rfl) ?_; intro a hst
                     refine wpL_nil ?_
                     refine then_normal ?_
                     refine wq_ret ?_
                     refine block_ret ?_
                     refine then_ret ?_
                     refine then_ret ?_
                     refine block_ret ?_
                     refine then_ret ?_
                     obtain rfl := Option.some.inj H
                     exact ret1 hst rfl rfl ⟨rfl, hsh.pick []⟩
                   · rw [if_neg c8737] at H
                     replace c8737 := Bool.eq_false_iff.2 c8737
                     refine wq_condF hst rfl c8737 ?_
                     refine wq_skip ?_
                     refine block_normal ?_
                     refine then_normal ?_
                     exact ⟨H, hst.keep _ ⟨rfl, rfl, rfl, rfl, rfl, trivial⟩, hsh.pick [0]⟩
                 · refine wq_seq ?_
                   refine wq_region_lit (.inl rfl) ?_
                   refine r_t hst trivial rfl (x_assign hst rfl) ?_; intro a hst
                   refine wpL_nil ?_
                   refine then_normal ?_
                   refine wq_block ?_
                   refine wq_loop_fuel (fun k_3208 a w' => ∃ (b_3178 : Bool), ∃ (i_3179 : Int), l09_TombPieces.l3 a0 a1 l_557 i_2548 J_3149 k_3208 b_3178 i_3179 = some r ∧ ST [] Try.f4.ntmps a [(0, va0), (1, .string a1), (4, .bool false), (6, v_556), (12, .int .i64 i_2548), (13, .bool b_3178), (14, .int .i64 i_3179)] ∧ SH (fun _ => False) w w' [Frz Z3172 w2]) k_2892 ?_ ?_
                   · exact ⟨false, 0, H, hst.keep _ ⟨rfl, rfl, rfl, rfl, rfl, rfl, rfl, trivial⟩, hsh.pick [0]⟩
                   · rintro k_3208 a W_3180 ⟨b_3178, i_3179, H, hst, hsh⟩
                     cases k_3208 with
                     | zero => rw [l09_TombPieces.l3] at H; cases H
                     | succ k_3208 =>
                      rw [l09_TombPieces.l3] at H
                      refine wq_seq ?_
                      refine wq_seq ?_
                      refine wq_region_lit (.inl rfl) ?_
                      refine r_t hst trivial rfl (x_move hst rfl) ?_; intro a hst
                      refine r_t hst trivial rfl (x_move hst rfl) ?_; intro a hst
                      refine r_t hst trivial rfl (x_lenSl hst Try.underlying22 rfl hra0.slen) ?_; intro a hst
                      refine r_t hst trivial rfl (x_cmpI (b := decide (i_3179 < (a0.length : Int))) hst rfl rfl rfl) ?_; intro a hst
                      refine wpL_nil ?_
                      refine then_normal ?_
                      by_cases c8815 : (decide (i_3179 < (a0.length : Int))) = true
                      · rw [if_pos c8815] at H
                        refine wq_condT hst rfl c8815 ?_
                        refine wq_skip ?_
                        refine then_normal ?_
                        refine wq_seq ?_
                        refine wq_block ?_
                        refine wq_region_q (.inl rfl) (fun w' => SH (fun _ => False) w w' [Frz Z3172 w2]) (shut_sh _ _ _) hsh.drew fo (by kernel_rfl) ?_
                        refine q_t hst trivial rfl (fun _ hsh => x_move hst rfl) ?_; intro a hst
                        refine q_t hst trivial rfl (fun _ hsh => x_move hst rfl) ?_; intro a hst
                        obtain ⟨J_3225, hJ_3225, H⟩ := Jn.elim H
                        refine q_join 21 (fun a => ∃ (b_3224 : Bool), J_3225 b_3224 = some r ∧ ST [] Try.f4.ntmps a [(0, va0), (1, .string a1), (4, .bool false), (6, v_556), (12, .int .i64 i_2548), (13, .bool b_3178), (14, .int .i64 i_3179), (179, .bool b_3224)]) ?_ ?_
                        · rintro a ⟨b_3224, H, hst⟩
                          subst hJ_3225
                          dsimp only at H
                          refine q_t hst trivial rfl (fun _ hsh => x_assign hst rfl) ?_; intro a hst
                          refine q_nil ?_
                          intro w8843 hsh
                          refine block_normal ?_
                          refine then_normal ?_
                          refine wq_region_lit (.inl rfl) ?_
                          refine r_t hst trivial rfl (x_move hst rfl) ?_; intro a hst
                          refine r_t hst trivial rfl (x_arI (r := w64 (i_3179 + 1)) hst rfl rfl rfl) ?_; intro a hst
                          refine r_t hst trivial rfl (x_assign hst rfl) ?_; intro a hst
                          refine wpL_nil ?_
                          refine then_normal ?_
                          exact ⟨k_3208, Nat.lt_succ_self _, b_3224, (w64 (i_3179 + 1)), H, hst.keep _ ⟨rfl, rfl, rfl, rfl, rfl, rfl, rfl, trivial⟩, hsh.pick [0]⟩
                        · intro hj
                          by_cases c8834 : b_3178 = true
                          · rw [if_pos c8834] at H
                            refine q_not hst 160 rfl rfl c8834 rfl ?_; intro a hst
                            refine q_not hst 160 rfl rfl c8834 rfl ?_; intro a hst
                            refine q_not hst 160 rfl rfl c8834 rfl ?_; intro a hst
                            refine q_not hst 160 rfl rfl c8834 rfl ?_; intro a hst
                            refine q_not hst 160 rfl rfl c8834 rfl ?_; intro a hst
                            refine q_not hst 160 rfl rfl c8834 rfl ?_; intro a hst
                            refine q_not hst 160 rfl rfl c8834 rfl ?_; intro a hst
                            refine q_notU hst 167 rfl rfl rfl ?_; intro a hst
                            refine q_notU hst 167 rfl rfl rfl ?_; intro a hst
                            refine q_notU hst 167 rfl rfl rfl ?_; intro a hst
                            refine q_notU hst 167 rfl rfl rfl ?_; intro a hst
                            refine q_notU hst 167 rfl rfl rfl ?_; intro a hst
                            refine q_notU hst 167 rfl rfl rfl ?_; intro a hst
                            refine q_notU hst 167 rfl rfl rfl ?_; intro a hst
                            refine q_notU hst 167 rfl rfl rfl ?_; intro a hst
                            refine q_notU hst 167 rfl rfl rfl ?_; intro a hst
                            refine q_notU hst 167 rfl rfl rfl ?_; intro a hst
                            refine q_not hst 160 rfl rfl c8834 rfl ?_; intro a hst
                            refine q_t hst trivial rfl (fun _ hsh => x_pickT hst rfl c8834 rfl) ?_; intro a hst
                            exact hj _ ⟨true, H, hst.keep _ ⟨rfl, rfl, rfl, rfl, rfl, rfl, rfl, rfl, trivial⟩⟩
                          · rw [if_neg c8834] at H
                            replace c8834 := Bool.eq_false_iff.2 c8834
                            refine q_t hst (wt_of 160 rfl rfl c8834) rfl (fun _ hsh => x_move hst rfl) ?_; intro a hst
                            refine q_t hst (wt_of 160 rfl rfl c8834) rfl (fun _ hsh => x_move hst rfl) ?_; intro a hst
                            obtain ⟨x8844, hx8844, H⟩ := Option.bind_eq_some_iff.1 H
                            refine q_t hst (wt_of 160 rfl rfl c8834) rfl (fun _ hsh => x_indexAddr hst Try.underlying22 el_30 rfl rfl hra0 hx8844) ?_; intro a hst
                            refine q_t hst (wt_of 160 rfl rfl c8834) rfl (fun _ hsh => x_loadEsF (j := 0) (cs := [.string x8844.Begin, .string x8844.End, .int .u64 x8844.Seq]) (ps := [.string x8844.Begin, .string x8844.End, .int .u64 x8844.Seq]) hst ag_30 rfl hra0 (Same.sh0 hsa0 hsh) hx8844 rfl (fun _ h => h) rfl) ?_; intro a hst
                            refine q_t hst (wt_of 160 rfl rfl c8834) rfl (fun _ hsh => x_move hst rfl) ?_; intro a hst
                            obtain ⟨r8845, hr8845, H⟩ := Option.bind_eq_some_iff.1 H
                            refine q_call hst (wt_of 160 rfl rfl c8834) rfl fn_11 rfl (fun w9 hsh => l09_covers.calls _ x8844 a1 r8845 hr8845) ?_; intro a hst
                            refine q_t hst (wt_of 160 rfl rfl c8834) rfl (fun _ hsh => x_move hst rfl) ?_; intro a hst
                            obtain ⟨J_3231, hJ_3231, H⟩ := Jn.elim H
                            refine q_join 20 (fun a => ∃ (b_3230 : Bool), J_3231 b_3230 = some r ∧ ST [] Try.f4.ntmps a [(0, va0), (1, .string a1), (4, .bool false), (6, v_556), (12, .int .i64 i_2548), (13, .bool b_3178), (14, .int .i64 i_3179), (160, .bool b_3178), (178, .bool b_3230)]) ?_ ?_
                            · rintro a ⟨b_3230, H, hst⟩
                              subst hJ_3231
                              dsimp only at H
                              refine q_t hst trivial rfl (fun _ hsh => x_pickF hst rfl c8834 rfl) ?_; intro a hst
                              exact hj _ ⟨b_3230, H, hst.keep _ ⟨rfl, rfl, rfl, rfl, rfl, rfl, rfl, rfl, trivial⟩⟩
                            · intro hj
                              by_cases c8847 : r8845 = true
                              · rw [if_pos c8847] at H
                                refine q_t hst (wt_of 167 rfl rfl c8847) rfl (fun _ hsh => x_move hst rfl) ?_; intro a hst
                                refine q_t hst (wt_of 167 rfl rfl c8847) rfl (fun _ hsh => x_move hst rfl) ?_; intro a hst
                                obtain ⟨x8850, hx8850, H⟩ := Option.bind_eq_some_iff.1 H
                                refine q_t hst (wt_of 167 rfl rfl c8847) rfl (fun _ hsh => x_indexAddr hst Try.underlying22 el_30 rfl rfl hra0 hx8850) ?_; intro a hst
                                refine q_t hst (wt_of 167 rfl rfl c8847) rfl (fun _ hsh => x_fieldAddrE (n' := Int.toNat i_3179 * k_Tomb.sz + 2) hst fa_30_2 rfl rfl) ?_; intro a hst
                                refine q_t hst (wt_of 167 rfl rfl c8847) rfl (fun _ hsh => x_loadEF (j := 2) (cs := [.string x8850.Begin, .string x8850.End, .int .u64 x8850.Seq]) hst sc_23 rfl hra0 (Same.sh0 hsa0 hsh) hx8850 rfl (fun _ h => h) rfl) ?_; intro a hst
                                refine q_t hst (wt_of 167 rfl rfl c8847) rfl (fun _ hsh => x_move hst rfl) ?_; intro a hst
                                refine q_t hst (wt_of 167 rfl rfl c8847) rfl (fun _ hsh => x_move hst rfl) ?_; intro a hst
                                obtain ⟨x8851, hx8851, H⟩ := Option.bind_eq_some_iff.1 H
                                refine q_t hst (wt_of 167 rfl rfl c8847) rfl (fun _ hsh => x_indexAddr hst Try.underlying35 el_23 rfl rfl hr_558 hx8851) ?_; intro a hst
                                refine q_t hst (wt_of 167 rfl rfl c8847) rfl (fun _ hsh => x_loadEF (j := 0) (cs := [.int .u64 x8851]) hst sc_23 rfl hr_558 (hsh.frz 0 rfl) hx8851 rfl (fun _ h => h) rfl) ?_; intro a hst
                                refine q_t hst (wt_of 167 rfl rfl c8847) rfl (fun _ hsh => x_cmpI (b := (x8850.Seq == x8851)) hst rfl rfl rfl) ?_; intro a hst
                                refine q_t hst (wt_of 160 rfl rfl c8834) rfl (fun _ hsh => x_pickT hst rfl c8847 rfl) ?_; intro a hst
                                exact hj _ ⟨(x8850.Seq == x8851), H, hst.keep _ ⟨rfl, rfl, rfl, rfl, rfl, rfl, rfl, rfl, rfl, trivial⟩⟩
                              · rw [if_neg c8847] at H
                                replace c8847 := Bool.eq_false_iff.2 c8847
                                refine q_not hst 167 rfl rfl c8847 rfl ?_; intro a hst
                                refine q_not hst 167 rfl rfl c8847 rfl ?_; intro a hst
                                refine q_not hst 167 rfl rfl c8847 rfl ?_; intro a hst
                                refine q_not hst 167 rfl rfl c8847 rfl ?_; intro a hst
                                refine q_not hst 167 rfl rfl c8847 rfl ?_; intro a hst
                                refine q_not hst 167 rfl rfl c8847 rfl ?_; intro a hst
                                refine q_not hst 167 rfl rfl c8847 rfl ?_; intro a hst
                                refine q_not hst 167 rfl rfl c8847 rfl ?_; intro a hst
                                refine q_not hst 167 rfl rfl c8847 rfl ?_; intro a hst
                                refine q_not hst 167 rfl rfl c8847 rfl ?_; intro a hst
                                refine q_t hst (wt_of 160 rfl rfl c8834) rfl (fun _ hsh => x_pickF hst rfl c8847 rfl) ?_; intro a hst
                                exact hj _ ⟨false, H, hst.keep _ ⟨rfl, rfl, rfl, rfl, rfl, rfl, rfl, rfl, rfl, trivial⟩⟩
                      · rw [if_neg c8815] at H
                        replace c8815 := Bool.eq_false_iff.2 c8815
                        refine wq_condF hst rfl c8815 ?_
                        refine wq_exit ?_
                        refine then_exit ?_
                        refine then_exit ?_
                        refine block_hit ?_
                        refine then_normal ?_
                        exact ⟨b_3178, H, hst.keep _ ⟨rfl, rfl, rfl, rfl, rfl, rfl, trivial⟩, hsh.pick [0]⟩
             · rw [if_neg c8393] at H
               replace c8393 := Bool.eq_false_iff.2 c8393
               refine wq_condF hst rfl c8393 ?_
               refine wq_exit ?_
               refine then_exit ?_
               refine then_exit ?_
               refine block_hit ?_
               refine then_normal ?_
               exact ⟨H, hst.keep _ ⟨rfl, rfl, rfl, rfl, trivial⟩, hsh.pick [0]⟩
      · refine wq_seq ?_
        refine wq_region_lit (.inl rfl) ?_
        refine r_t hst trivial rfl (x_assign hst rfl) ?_; intro a hst
        refine wpL_nil ?_
        refine then_normal ?_
        refine wq_block ?_
        refine wq_loop_fuel (fun k_3488 a w' => ∃ (i_3360 : Int), l09_TombPieces.l4 a0 a1 l_557 J_1162 k_3488 i_3360 = some r ∧ ST [] Try.f4.ntmps a [(0, va0), (1, .string a1), (4, .bool false), (6, v_556), (9, .int .i64 i_3360)] ∧ SH (fun _ => False) w w' [Frz Z3172 w2]) k_673 ?_ ?_
        · exact ⟨0, H, hst.keep _ ⟨rfl, rfl, rfl, rfl, rfl, trivial⟩, hsh.pick [0]⟩
        · rintro k_3488 a W_3361 ⟨i_3360, H, hst, hsh⟩
          cases k_3488 with
          | zero => rw [l09_TombPieces.l4] at H; cases H
          | succ k_3488 =>
           rw [l09_TombPieces.l4] at H
           refine wq_seq ?_
           refine wq_seq ?_
           refine wq_region_lit (.inl rfl) ?_
           refine r_t hst trivial rfl (x_move hst rfl) ?_; intro a hst
           refine r_t hst trivial rfl (x_move hst rfl) ?_; intro a hst
           refine r_t hst trivial rfl (x_lenSl hst Try.underlying22 rfl hra0.slen) ?_; intro a hst
           refine r_t hst trivial rfl (x_cmpI (b := decide (i_3360 < (a0.length : Int))) hst rfl rfl rfl) ?_; intro a hst
           refine wpL_nil ?_
           refine then_normal ?_
           by_cases c9213 : (decide (i_3360 < (a0.length : Int))) = true
           · rw [if_pos c9213] at H
             refine wq_condT hst rfl c9213 ?_
             refine wq_skip ?_
             refine then_normal ?_
             obtain ⟨J_3551, hJ_3551, H⟩ := Jn.elim H
             refine wq_cut (fun a w' => J_3551 = some r ∧ ST [] Try.f4.ntmps a [(0, va0), (1, .string a1), (4, .bool false), (6, v_556), (9, .int .i64 i_3360)] ∧ SH (fun _ => False) w w' [Frz Z3172 w2]) ?_ ?_
             · rintro a W_3550 ⟨H, hst, hsh⟩
               subst hJ_3551
               refine wq_region_lit (.inl rfl) ?_
               refine r_t hst trivial rfl (x_move hst rfl) ?_; intro a hst
               refine r_t hst trivial rfl (x_arI (r := w64 (i_3360 + 1)) hst rfl rfl rfl) ?_; intro a hst
               refine r_t hst trivial rfl (x_assign hst rfl) ?_; intro a hst
               refine wpL_nil ?_
               refine then_normal ?_
               exact ⟨k_3488, Nat.lt_succ_self _, (w64 (i_3360 + 1)), H, hst.keep _ ⟨rfl, rfl, rfl, rfl, rfl, trivial⟩, hsh.pick [0]⟩
             · refine wq_block ?_
               refine wq_seq ?_
               refine wq_region_lit (.inl rfl) ?_
               refine r_t hst trivial rfl (x_assign hst rfl) ?_; intro a hst
               refine wpL_nil ?_
               refine then_normal ?_
               obtain ⟨J_3583, hJ_3583, H⟩ := Jn.elim H
               refine wq_cut (fun a w' => ∃ (b_3581 : Bool), J_3583 b_3581 = some r ∧ ST [] Try.f4.ntmps a [(0, va0), (1, .string a1), (4, .bool false), (6, v_556), (9, .int .i64 i_3360), (10, .bool b_3581)] ∧ SH (fun _ => False) w w' [Frz Z3172 w2]) ?_ ?_
               · rintro a W_3582 ⟨b_3581, H, hst, hsh⟩
                 subst hJ_3583
                 dsimp only at H
                 refine wq_seq ?_
                 refine wq_region_lit (.inl rfl) ?_
                 refine r_t hst trivial rfl (x_move hst rfl) ?_; intro a hst
                 refine r_t hst trivial rfl (x_move hst rfl) ?_; intro a hst
                 obtain ⟨x9345, hx9345, H⟩ := Option.bind_eq_some_iff.1 H
                 refine r_t hst trivial rfl (x_indexAddr hst Try.underlying22 el_30 rfl rfl hra0 hx9345) ?_; intro a hst
                 refine r_t hst trivial rfl (x_loadEsF (j := 0) (cs := [.string x9345.Begin, .string x9345.End, .int .u64 x9345.Seq]) (ps := [.string x9345.Begin, .string x9345.End, .int .u64 x9345.Seq]) hst ag_30 rfl hra0 (Same.sh0 hsa0 hsh) hx9345 rfl (fun _ h => h) rfl) ?_; intro a hst
                 refine r_t hst trivial rfl (x_move hst rfl) ?_; intro a hst
                 obtain ⟨r9346, hr9346, H⟩ := Option.bind_eq_some_iff.1 H
                 refine r_callD hst trivial rfl fn_11 rfl (l09_covers.calls _ x9345 a1 r9346 hr9346) ?_
                 rintro e w9347 ⟨rfl, hc⟩
                 replace hsh := hsh.call0 hc
                 clear hc
                 refine ⟨_, rfl, fun a hst => ?_⟩
                 refine r_t hst trivial rfl (x_move hst rfl) ?_; intro a hst
                 refine wl_join0 (Δ := []) (N := Try.f4.ntmps) 10 [(0, va0), (1, .string a1), (4, .bool false), (6, v_556), (9, .int .i64 i_3360), (146, .bool (r9346 && (!b_3581)))] ?_ ?_
                 · intro a hst
                   refine wpL_nil ?_
                   refine then_normal ?_
                   by_cases c9349 : (r9346 && (!b_3581)) = true
                   · rw [if_pos c9349] at H
                     refine wq_condT hst rfl c9349 ?_
                     refine wq_seq ?_
                     refine wq_region_lit (.inl rfl) ?_
                     refine r_t hst trivial rfl (x_assign hst rfl) ?_; intro a hst
                     refine wpL_nil ?_
                     refine then_normal ?_
                     refine wq_ret ?_
                     refine block_ret ?_
                     refine then_ret ?_
                     refine then_ret ?_
                     refine block_ret ?_
                     refine then_ret ?_
                     obtain rfl := Option.some.inj H
                     exact ret1 hst rfl rfl ⟨rfl, hsh.pick []⟩
                   · rw [if_neg c9349] at H
                     replace c9349 := Bool.eq_false_iff.2 c9349
                     refine wq_condF hst rfl c9349 ?_
                     refine wq_skip ?_
                     refine block_normal ?_
                     refine then_normal ?_
                     exact ⟨H, hst.keep _ ⟨rfl, rfl, rfl, rfl, rfl, trivial⟩, hsh.pick [0]⟩
                 · intro hj
                   by_cases c9348 : r9346 = true
                   · refine r_t hst (wt_of 143 rfl rfl c9348) rfl (x_move hst rfl) ?_; intro a hst
                     refine r_t hst (wt_of 143 rfl rfl c9348) rfl (x_notB hst rfl) ?_; intro a hst
                     refine r_t hst trivial rfl (x_andT hst rfl c9348 rfl) ?_; intro a hst
                     exact hj _ (hst.keep _ ⟨rfl, rfl, rfl, rfl, rfl, rfl, trivial⟩)
                   · replace c9348 := Bool.eq_false_iff.2 c9348
                     refine r_not hst 143 rfl rfl c9348 rfl ?_; intro a hst
                     refine r_not hst 143 rfl rfl c9348 rfl ?_; intro a hst
                     refine r_t hst trivial rfl (x_andF (!b_3581) hst rfl c9348 rfl) ?_; intro a hst
                     exact hj _ (hst.keep _ ⟨rfl, rfl, rfl, rfl, rfl, rfl, trivial⟩)
               · refine wq_seq ?_
                 refine wq_region_lit (.inl rfl) ?_
                 refine r_t hst trivial rfl (x_assign hst rfl) ?_; intro a hst
                 refine wpL_nil ?_
                 refine then_normal ?_
                 refine wq_block ?_
                 refine wq_loop_fuel (fun k_3606 a w' => ∃ (b_3594 : Bool), ∃ (i_3595 : Int), l09_TombPieces.l5 a0 l_557 i_3360 J_3583 k_3606 b_3594 i_3595 = some r ∧ ST [] Try.f4.ntmps a [(0, va0), (1, .string a1), (4, .bool false), (6, v_556), (9, .int .i64 i_3360), (10, .bool b_3594), (11, .int .i64 i_3595)] ∧ SH (fun _ => False) w w' [Frz Z3172 w2]) k_3488 ?_ ?_
                 · exact ⟨false, 0, H, hst.keep _ ⟨rfl, rfl, rfl, rfl, rfl, rfl, rfl, trivial⟩, hsh.pick [0]⟩
                 · rintro k_3606 a W_3596 ⟨b_3594, i_3595, H, hst, hsh⟩
                   cases k_3606 with
                   | zero => rw [l09_TombPieces.l5] at H; cases H
                   | succ k_3606 =>
                    rw [l09_TombPieces.l5] at H
                    refine wq_seq ?_
                    refine wq_seq ?_
                    refine wq_region_lit (.inl rfl) ?_
                    refine r_t hst trivial rfl (x_move hst rfl) ?_; intro a hst
                    refine r_t hst trivial rfl (x_move hst rfl) ?_; intro a hst
                    refine r_t hst trivial rfl (x_lenSl hst Try.underlying35 rfl hr_558.slen) ?_; intro a hst
                    refine r_t hst trivial rfl (x_cmpI (b := decide (i_3595 < (l_557.length : Int))) hst rfl rfl rfl) ?_; intro a hst
                    refine wpL_nil ?_
                    refine then_normal ?_
                    by_cases c9379 : (decide (i_3595 < (l_557.length : Int))) = true
                    · rw [if_pos c9379] at H
                      refine wq_condT hst rfl c9379 ?_
                      refine wq_skip ?_
                      refine then_normal ?_
                      refine wq_seq ?_
                      refine wq_block ?_
                      refine wq_region_q (.inl rfl) (fun w' => SH (fun _ => False) w w' [Frz Z3172 w2]) (shut_sh _ _ _) hsh.drew fo (by kernel_rfl) ?_
                      refine q_t hst trivial rfl (fun _ hsh => x_move hst rfl) ?_; intro a hst
                      refine q_t hst trivial rfl (fun _ hsh => x_move hst rfl) ?_; intro a hst
                      obtain ⟨J_3611, hJ_3611, H⟩ := Jn.elim H
                      refine q_join 13 (fun a => ∃ (b_3610 : Bool), J_3611 b_3610 = some r ∧ ST [] Try.f4.ntmps a [(0, va0), (1, .string a1), (4, .bool false), (6, v_556), (9, .int .i64 i_3360), (10, .bool b_3594), (11, .int .i64 i_3595), (136, .bool b_3610)]) ?_ ?_
                      · rintro a ⟨b_3610, H, hst⟩
                        subst hJ_3611
                        dsimp only at H
                        refine q_t hst trivial rfl (fun _ hsh => x_assign hst rfl) ?_; intro a hst
                        refine q_nil ?_
                        intro w9389 hsh
                        refine block_normal ?_
                        refine then_normal ?_
                        refine wq_region_lit (.inl rfl) ?_
                        refine r_t hst trivial rfl (x_move hst rfl) ?_; intro a hst
                        refine r_t hst trivial rfl (x_arI (r := w64 (i_3595 + 1)) hst rfl rfl rfl) ?_; intro a hst
                        refine r_t hst trivial rfl (x_assign hst rfl) ?_; intro a hst
                        refine wpL_nil ?_
                        refine then_normal ?_
                        exact ⟨k_3606, Nat.lt_succ_self _, b_3610, (w64 (i_3595 + 1)), H, hst.keep _ ⟨rfl, rfl, rfl, rfl, rfl, rfl, rfl, trivial⟩, hsh.pick [0]⟩
                      · intro hj
                        by_cases c9386 : b_3594 = true
                        · rw [if_pos c9386] at H
                          refine q_not hst 125 rfl rfl c9386 rfl ?_; intro a hst
                          refine q_not hst 125 rfl rfl c9386 rfl ?_; intro a hst
                          refine q_not hst 125 rfl rfl c9386 rfl ?_; intro a hst
                          refine q_not hst 125 rfl rfl c9386 rfl ?_; intro a hst
                          refine q_not hst 125 rfl rfl c9386 rfl ?_; intro a hst
                          refine q_not hst 125 rfl rfl c9386 rfl ?_; intro a hst
                          refine q_not hst 125 rfl rfl c9386 rfl ?_; intro a hst
                          refine q_not hst 125 rfl rfl c9386 rfl ?_; intro a hst
                          refine q_not hst 125 rfl rfl c9386 rfl ?_; intro a hst
                          refine q_not hst 125 rfl rfl c9386 rfl ?_; intro a hst
                          refine q_t hst trivial rfl (fun _ hsh => x_pickT hst rfl c9386 rfl) ?_; intro a hst
                          exact hj _ ⟨true, H, hst.keep _ ⟨rfl, rfl, rfl, rfl, rfl, rfl, rfl, rfl, trivial⟩⟩
                        · rw [if_neg c9386] at H
                          replace c9386 := Bool.eq_false_iff.2 c9386
                          refine q_t hst (wt_of 125 rfl rfl c9386) rfl (fun _ hsh => x_move hst rfl) ?_; intro a hst
                          refine q_t hst (wt_of 125 rfl rfl c9386) rfl (fun _ hsh => x_move hst rfl) ?_; intro a hst
                          obtain ⟨x9390, hx9390, H⟩ := Option.bind_eq_some_iff.1 H
                          refine q_t hst (wt_of 125 rfl rfl c9386) rfl (fun _ hsh => x_indexAddr hst Try.underlying35 el_23 rfl rfl hr_558 hx9390) ?_; intro a hst
                          refine q_t hst (wt_of 125 rfl rfl c9386) rfl (fun _ hsh => x_loadEF (j := 0) (cs := [.int .u64 x9390]) hst sc_23 rfl hr_558 (hsh.frz 0 rfl) hx9390 rfl (fun _ h => h) rfl) ?_; intro a hst
                          refine q_t hst (wt_of 125 rfl rfl c9386) rfl (fun _ hsh => x_move hst rfl) ?_; intro a hst
                          refine q_t hst (wt_of 125 rfl rfl c9386) rfl (fun _ hsh => x_move hst rfl) ?_; intro a hst
                          obtain ⟨x9391, hx9391, H⟩ := Option.bind_eq_some_iff.1 H
                          refine q_t hst (wt_of 125 rfl rfl c9386) rfl (fun _ hsh => x_indexAddr hst Try.underlying22 el_30 rfl rfl hra0 hx9391) ?_; intro a hst
                          refine q_t hst (wt_of 125 rfl rfl c9386) rfl (fun _ hsh => x_fieldAddrE (n' := Int.toNat i_3360 * k_Tomb.sz + 2) hst fa_30_2 rfl rfl) ?_; intro a hst
                          refine q_t hst (wt_of 125 rfl rfl c9386) rfl (fun _ hsh => x_loadEF (j := 2) (cs := [.string x9391.Begin, .string x9391.End, .int .u64 x9391.Seq]) hst sc_23 rfl hra0 (Same.sh0 hsa0 hsh) hx9391 rfl (fun _ h => h) rfl) ?_; intro a hst
                          refine q_t hst (wt_of 125 rfl rfl c9386) rfl (fun _ hsh => x_cmpI (b := (x9390 == x9391.Seq)) hst rfl rfl rfl) ?_; intro a hst
                          refine q_t hst trivial rfl (fun _ hsh => x_pickF hst rfl c9386 rfl) ?_; intro a hst
                          exact hj _ ⟨(x9390 == x9391.Seq), H, hst.keep _ ⟨rfl, rfl, rfl, rfl, rfl, rfl, rfl, rfl, trivial⟩⟩
                    · rw [if_neg c9379] at H
                      replace c9379 := Bool.eq_false_iff.2 c9379
                      refine wq_condF hst rfl c9379 ?_
                      refine wq_exit ?_
                      refine then_exit ?_
                      refine then_exit ?_
                      refine block_hit ?_
                      refine then_normal ?_
                      exact ⟨b_3594, H, hst.keep _ ⟨rfl, rfl, rfl, rfl, rfl, rfl, trivial⟩, hsh.pick [0]⟩
           · rw [if_neg c9213] at H
             replace c9213 := Bool.eq_false_iff.2 c9213
             refine wq_condF hst rfl c9213 ?_
             refine wq_exit ?_
             refine then_exit ?_
             refine then_exit ?_
             refine block_hit ?_
             refine then_normal ?_
             exact ⟨H, hst.keep _ ⟨rfl, rfl, rfl, rfl, trivial⟩, hsh.pick [0]⟩
end Go.Proofs.Ytmbhgfigffahbaa.Mo
