/- Printed by gen.py: contracts. -/
import Derived.Test.YtbbepmmelpabbaaVerCa1
set_option linter.unusedVariables false
set_option linter.unusedSectionVars false
set_option linter.unusedSimpArgs false
set_option maxRecDepth 100000
namespace Go.Proofs.Ytbbepmmelpabbaa.Mo
open Go Go.Proofs.Ytbbepmmelpabbaa.Sy
open Go.Proofs
set_option maxHeartbeats 4000000 in
set_option maxRecDepth 100000 in
theorem l16_VersionApplies.calls (k : Nat) (w : World) (va0 : Value) (Za0 : Nat → Prop) (wra0 : World) (hsa0 : Same Za0 wra0 w) (a0 : (List (List File))) (hra0 : RD (Kd.slice 43 k_File) Za0 wra0 va0 a0) (a1 : Edit) (va1_0 : Value) (Za1_0 : Nat → Prop) (wra1_0 : World) (hsa1_0 : Same Za1_0 wra1_0 w) (hra1_0 : RD k_Place Za1_0 wra1_0 va1_0 a1.Gone) (va1_1 : Value) (Za1_1 : Nat → Prop) (wra1_1 : World) (hsa1_1 : Same Za1_1 wra1_1 w) (hra1_1 : RD k_Added Za1_1 wra1_1 va1_1 a1.Come) (r : Bool) (h : l16_VersionApplies k a0 a1 = some r) :
    Calls Try.prog 3 ([va0, .agg #[.int .i64 a1.Log, .int .i64 a1.Next, .int .u64 a1.Seq, va1_0, va1_1]] : List Value).toArray w fun e w' => e = .returned (.bool r) ∧ SH (fun _ => False) w w' [] := by
 have H := h
 clear h
 unfold l16_VersionApplies at H
 refine calls_enter Try.func3 rfl rfl ?_
 intro a hst
 have hsh := SH.zero (fun _ => False) w
 refine wq_seq ?_
 refine wq_region_lit (.inl rfl) ?_
 refine r_box hst hsh trivial rfl rfl rfl ?_
 intro g1 a w2 hgg1 hsh hst
 refine r_t hst trivial rfl (x_assign hst rfl) ?_; intro a hst
 refine wpL_nil ?_
 refine then_normal ?_
 refine wq_seq ?_
 refine wq_seq ?_
 refine wq_region_lit (.inl rfl) ?_
 obtain ⟨r6, hr6, H⟩ := Option.bind_eq_some_iff.1 H
 refine r_callD hst trivial rfl fn_10 rfl (l16_names.calls _ r6 hr6) ?_
 rintro e w7 ⟨rfl, hc⟩
 replace hsh := hsh.call0 hc
 clear hc
 refine ⟨_, rfl, fun a hst => ?_⟩
 refine r_t hst trivial rfl (x_notB hst rfl) ?_; intro a hst
 refine wpL_nil ?_
 refine then_normal ?_
 by_cases c8 : (!r6) = true
 · rw [if_pos c8] at H
   refine wq_condT hst rfl c8 ?_
   refine wq_seq ?_
   refine wq_region_lit (.inl rfl) ?_
   refine r_t hst trivial rfl (x_assign hst rfl) ?_; intro a hst
   refine wpL_nil ?_
   refine then_normal ?_
   refine wq_ret ?_
   refine then_ret ?_
   obtain rfl := Option.some.inj H
   exact ret1 hst rfl rfl ⟨rfl, hsh.pick []⟩
 · rw [if_neg c8] at H
   replace c8 := Bool.eq_false_iff.2 c8
   refine wq_condF hst rfl c8 ?_
   refine wq_skip ?_
   refine then_normal ?_
   refine wq_seq ?_
   refine wq_region_lit (.inl rfl) ?_
   refine r_t hst trivial rfl (x_move hst rfl) ?_; intro a hst
   obtain ⟨r9, hr9, H⟩ := Option.bind_eq_some_iff.1 H
   refine r_callD hst trivial rfl fn_11 rfl (l16_copied.calls k _ _ _ _ (Same.sh0 hsa0 hsh) _ hra0 r9 hr9) ?_
   rintro e w10 ⟨v11, rfl, hc⟩
   replace hsh := hsh.call0 hc
   clear hc
   refine ⟨_, rfl, fun a hst => ?_⟩
   refine r_t hst trivial rfl (x_assign hst rfl) ?_; intro a hst
   refine wpL_nil ?_
   refine then_normal ?_
   obtain ⟨J_9, hJ_9, H⟩ := Jn.elim H
   refine wq_cut (fun a w' => ∃ (g_1 : Nat), ∃ (v_3 : Value), ∃ (l_4 : (List Place)), ∃ (v_6 : Value), ∃ (l_7 : (List Added)), J_9 l_4 l_7 = some r ∧ ST [] Try.f3.ntmps a [(0, va0), (3, .pointer (some ⟨g1, 0, none⟩)), (4, .bool false), (5, v11), (6, .pointer (some ⟨g_1, 0, none⟩))] ∧ SH (fun _ => False) w w' [Box g1 [.int .i64 a1.Log, .int .i64 a1.Next, .int .u64 a1.Seq, va1_0, va1_1] 28, Row (Kd.slice 43 k_File) 39 v11 r9, Box g_1 [.int .i64 a1.Log, .int .i64 a1.Next, .int .u64 a1.Seq, v_3, v_6] 28, Row k_Place 41 v_3 l_4, Row k_Added 45 v_6 l_7]) ?_ ?_
   · rintro a W_8 ⟨g_1, v_3, l_4, v_6, l_7, H, hst, hsh⟩
     subst hJ_9
     dsimp only at H
     refine wq_seq ?_
     refine wq_seq ?_
     refine wq_region_lit (.inl rfl) ?_
     refine r_t hst trivial rfl (x_move hst rfl) ?_; intro a hst
     obtain ⟨r259, hr259, H⟩ := Option.bind_eq_some_iff.1 H
     refine r_callD hst trivial rfl fn_12 rfl (version_Valid.calls k _ _ _ _ (Same.refl _ _) _ (hsh.row 1 rfl) r259 hr259) ?_
     rintro e w260 ⟨rfl, hc⟩
     replace hsh := hsh.call0 hc
     clear hc
     refine ⟨_, rfl, fun a hst => ?_⟩
     refine r_t hst trivial rfl (x_move hst rfl) ?_; intro a hst
     obtain ⟨r261, hr261, H⟩ := Option.bind_eq_some_iff.1 H
     refine r_callD hst trivial rfl fn_13 rfl (r16_Valid.calls k _ _ _ _ (Same.sh0 hsa0 hsh) _ hra0 r261 hr261) ?_
     rintro e w262 ⟨rfl, hc⟩
     replace hsh := hsh.call0 hc
     clear hc
     refine ⟨_, rfl, fun a hst => ?_⟩
     refine r_t hst trivial rfl (x_eqB (b := (!(r259 == r261))) hst Try.underlying4 rfl rfl rfl) ?_; intro a hst
     refine wpL_nil ?_
     refine then_normal ?_
     by_cases c263 : (!(r259 == r261)) = true
     · rw [if_pos c263] at H
       refine wq_condT hst rfl c263 ?_
       refine wq_seq ?_
       refine wq_region_lit (.inl rfl) ?_
       refine r_t hst trivial rfl (x_assign hst rfl) ?_; intro a hst
       refine wpL_nil ?_
       refine then_normal ?_
       refine wq_ret ?_
       refine then_ret ?_
       obtain rfl := Option.some.inj H
       exact ret1 hst rfl rfl ⟨rfl, hsh.pick []⟩
     · rw [if_neg c263] at H
       replace c263 := Bool.eq_false_iff.2 c263
       refine wq_condF hst rfl c263 ?_
       refine wq_skip ?_
       refine then_normal ?_
       refine wq_seq ?_
       refine wq_region_lit (.inl rfl) ?_
       refine r_t hst trivial rfl (x_move hst rfl) ?_; intro a hst
       refine r_t hst trivial rfl (x_loadBs (i := 2) (ps := [.int .i64 a1.Log, .int .i64 a1.Next, .int .u64 a1.Seq, v_3, v_6]) hst hsh ag_28 rfl rfl rfl) ?_; intro a hst
       obtain ⟨r264, hr264, H⟩ := Option.bind_eq_some_iff.1 H
       refine r_callD hst trivial rfl fn_14 rfl (version_Apply.calls k _ _ _ _ (Same.refl _ _) _ (hsh.row 1 rfl) (⟨a1.Log, a1.Next, a1.Seq, l_4, l_7⟩ : Edit) _ _ _ (Same.refl _ _) (hsh.row 3 rfl) _ _ _ (Same.refl _ _) (hsh.row 4 rfl) r264 hr264) ?_
       rintro e w265 ⟨v266, rfl, hc⟩
       replace hsh := hsh.call0 hc
       clear hc
       refine ⟨_, rfl, fun a hst => ?_⟩
       refine r_t hst trivial rfl (x_move hst rfl) ?_; intro a hst
       refine r_t hst trivial rfl (x_extract hst rfl rfl) ?_; intro a hst
       refine r_t hst trivial rfl (x_extract hst rfl rfl) ?_; intro a hst
       refine r_t hst trivial rfl (x_assign hst rfl) ?_; intro a hst
       refine r_t hst trivial rfl (x_assign hst rfl) ?_; intro a hst
       refine wpL_nil ?_
       refine then_normal ?_
       refine wq_seq ?_
       refine wq_region_lit (.inl rfl) ?_
       refine r_t hst trivial rfl (x_move hst rfl) ?_; intro a hst
       refine r_t hst trivial rfl (x_loadBs (i := 1) (ps := [.int .i64 a1.Log, .int .i64 a1.Next, .int .u64 a1.Seq, va1_0, va1_1]) hst hsh ag_28 rfl rfl rfl) ?_; intro a hst
       obtain ⟨r268, hr268, H⟩ := Option.bind_eq_some_iff.1 H
       refine r_callD hst trivial rfl fn_15 rfl (r16_Apply.calls k _ _ _ _ (Same.sh0 hsa0 hsh) _ hra0 a1 _ _ _ (Same.sh0 hsa1_0 hsh) hra1_0 _ _ _ (Same.sh0 hsa1_1 hsh) hra1_1 r268 hr268) ?_
       rintro e w269 ⟨v270, rfl, hc⟩
       replace hsh := hsh.call0 hc
       clear hc
       refine ⟨_, rfl, fun a hst => ?_⟩
       refine r_t hst trivial rfl (x_move hst rfl) ?_; intro a hst
       refine r_t hst trivial rfl (x_extract hst rfl rfl) ?_; intro a hst
       refine r_t hst trivial rfl (x_extract hst rfl rfl) ?_; intro a hst
       refine r_t hst trivial rfl (x_assign hst rfl) ?_; intro a hst
       refine r_t hst trivial rfl (x_assign hst rfl) ?_; intro a hst
       refine wpL_nil ?_
       refine then_normal ?_
       refine wq_seq ?_
       refine wq_seq ?_
       refine wq_region_lit (.inl rfl) ?_
       refine r_t hst trivial rfl (x_move hst rfl) ?_; intro a hst
       refine r_t hst trivial rfl (x_move hst rfl) ?_; intro a hst
       obtain ⟨r276, hr276, H⟩ := Option.bind_eq_some_iff.1 H
       refine r_callD hst trivial rfl fn_16 rfl (r16_Same.calls k _ _ _ _ (Same.refl _ _) _ (hsh.row 1 rfl) _ _ _ (Same.refl _ _) _ (hsh.row 0 rfl) r276 hr276) ?_
       rintro e w277 ⟨rfl, hc⟩
       replace hsh := hsh.call0 hc
       clear hc
       refine ⟨_, rfl, fun a hst => ?_⟩
       refine r_t hst trivial rfl (x_notB hst rfl) ?_; intro a hst
       refine r_t hst trivial rfl (x_move hst rfl) ?_; intro a hst
       refine wl_join0 (Δ := []) (N := Try.f3.ntmps) 9 [(0, va0), (3, .pointer (some ⟨g1, 0, none⟩)), (4, .bool false), (5, v11), (6, .pointer (some ⟨g_1, 0, none⟩)), (7, v266), (58, .bool ((!r276) || (r264.2 != r268.2)))] ?_ ?_
       · intro a hst
         refine wpL_nil ?_
         refine then_normal ?_
         by_cases c279 : ((!r276) || (r264.2 != r268.2)) = true
         · rw [if_pos c279] at H
           refine wq_condT hst rfl c279 ?_
           refine wq_seq ?_
           refine wq_region_lit (.inl rfl) ?_
           refine r_t hst trivial rfl (x_assign hst rfl) ?_; intro a hst
           refine wpL_nil ?_
           refine then_normal ?_
           refine wq_ret ?_
           refine then_ret ?_
           obtain rfl := Option.some.inj H
           exact ret1 hst rfl rfl ⟨rfl, hsh.pick []⟩
         · rw [if_neg c279] at H
           replace c279 := Bool.eq_false_iff.2 c279
           refine wq_condF hst rfl c279 ?_
           refine wq_skip ?_
           refine then_normal ?_
           refine wq_seq ?_
           refine wq_seq ?_
           refine wq_region_lit (.inl rfl) ?_
           refine r_t hst trivial rfl (x_assign hst rfl) ?_; intro a hst
           refine wpL_nil ?_
           refine then_normal ?_
           refine wq_block ?_
           refine wq_loop_fuel (fun k_31 a w' => ∃ (l_25 : (List (List File))), ∃ (i_26 : Int), l16_VersionApplies.l0 a0 a1 r9 l_4 l_7 k_31 l_25 i_26 = some r ∧ ST [] Try.f3.ntmps a [(0, va0), (3, .pointer (some ⟨g1, 0, none⟩)), (4, .bool false), (5, v11), (6, .pointer (some ⟨g_1, 0, none⟩)), (7, v266), (11, .int .i64 i_26)] ∧ SH (fun _ => False) w w' [Box g1 [.int .i64 a1.Log, .int .i64 a1.Next, .int .u64 a1.Seq, va1_0, va1_1] 28, Row (Kd.slice 43 k_File) 39 v11 r9, Box g_1 [.int .i64 a1.Log, .int .i64 a1.Next, .int .u64 a1.Seq, v_3, v_6] 28, Row k_Place 41 v_3 l_4, Row k_Added 45 v_6 l_7, Row (Kd.slice 43 k_File) 39 v266 l_25]) k ?_ ?_
           · exact ⟨r264.1, 0, H, hst.keep _ ⟨rfl, rfl, rfl, rfl, rfl, rfl, rfl, trivial⟩, hsh.pick [2, 2, 2, 2, 2, 1]⟩
           · rintro k_31 a W_27 ⟨l_25, i_26, H, hst, hsh⟩
             cases k_31 with
             | zero => rw [l16_VersionApplies.l0] at H; cases H
             | succ k_31 =>
              rw [l16_VersionApplies.l0] at H
              refine wq_seq ?_
              refine wq_seq ?_
              refine wq_region_lit (.inl rfl) ?_
              refine r_t hst trivial rfl (x_move hst rfl) ?_; intro a hst
              refine r_t hst trivial rfl (x_move hst rfl) ?_; intro a hst
              refine r_t hst trivial rfl (x_lenSl hst Try.underlying23 rfl (hsh.row 5 rfl).slen) ?_; intro a hst
              refine r_t hst trivial rfl (x_cmpI (b := decide (i_26 < (l_25.length : Int))) hst rfl rfl rfl) ?_; intro a hst
              refine wpL_nil ?_
              refine then_normal ?_
              by_cases c391 : (decide (i_26 < (l_25.length : Int))) = true
              · rw [if_pos c391] at H
                refine wq_condT hst rfl c391 ?_
                refine wq_skip ?_
                refine then_normal ?_
                refine wq_seq ?_
                refine wq_block ?_
                refine wq_region_lit (.inl rfl) ?_
                refine r_t hst trivial rfl (x_move hst rfl) ?_; intro a hst
                refine r_t hst trivial rfl (x_move hst rfl) ?_; intro a hst
                obtain ⟨Z402, hoZ402, hsh⟩ := hsh.freeze 5 rfl
                have hRZ402 := hoZ402.rd
                obtain ⟨x403, hx403, H⟩ := Option.bind_eq_some_iff.1 H
                refine r_t hst trivial rfl (x_indexAddr hst Try.underlying23 el_39 rfl rfl hRZ402 hx403) ?_; intro a hst
                obtain ⟨_, hk404, hc405⟩ := RD.cells2 hRZ402 hx403
                obtain ⟨v406, rfl, hr407⟩ := hk404
                refine r_t hst trivial rfl (x_loadC hst sc_39 rfl (hc405 _ (hsh.frz 0 rfl) 0 _ rfl)) ?_; intro a hst
                have hcl := hc405 _ (hsh.frz 0 rfl) 0 _ rfl
                replace hsh := hsh.thaw 0 rfl hoZ402
                replace hsh := hsh.takeOut 0 rfl hx403 hcl
                replace hsh := hsh.pick [1, 0, 0, 0, 0, 0, 0]
                obtain ⟨GG411, hsp, hG, hbx, hfx, hk⟩ := SH.callD (L1 := [Row k_File 43 v406 x403]) (L2 := [RowH (Kd.slice 43 k_File) 39 v266 l_25 (Int.toNat i_26) v406, Box g1 [.int .i64 a1.Log, .int .i64 a1.Next, .int .u64 a1.Seq, va1_0, va1_1] 28, Row (Kd.slice 43 k_File) 39 v11 r9, Box g_1 [.int .i64 a1.Log, .int .i64 a1.Next, .int .u64 a1.Seq, v_3, v_6] 28, Row k_Place 41 v_3 l_4, Row k_Added 45 v_6 l_7]) hsh
                obtain ⟨r408, hr408, H⟩ := Option.bind_eq_some_iff.1 H
                refine r_callD hst trivial rfl fn_17 rfl (l16_wiped.calls k_31 _ GG411 _ x403 hsp r408 hr408) ?_
                rintro e w409 ⟨rfl, hc⟩
                replace hsh := hk _ _ hc
                clear hc
                refine ⟨_, rfl, fun a hst => ?_⟩
                refine wpL_nil ?_
                refine block_normal ?_
                refine then_normal ?_
                refine wq_region_lit (.inl rfl) ?_
                refine r_t hst trivial rfl (x_move hst rfl) ?_; intro a hst
                refine r_t hst trivial rfl (x_arI (r := w64 (i_26 + 1)) hst rfl rfl rfl) ?_; intro a hst
                refine r_t hst trivial rfl (x_assign hst rfl) ?_; intro a hst
                refine wpL_nil ?_
                refine then_normal ?_
                replace hsh := hsh.pick [1, 0, 0, 0, 0, 0, 0]
                replace hsh := hsh.backIn
                exact ⟨k_31, Nat.lt_succ_self _, (List.set l_25 (Int.toNat i_26) r408), (w64 (i_26 + 1)), H, hst.keep _ ⟨rfl, rfl, rfl, rfl, rfl, rfl, rfl, trivial⟩, hsh.pick [1, 1, 1, 1, 1, 0]⟩
              · rw [if_neg c391] at H
                replace c391 := Bool.eq_false_iff.2 c391
                refine wq_condF hst rfl c391 ?_
                refine wq_exit ?_
                refine then_exit ?_
                refine then_exit ?_
                refine block_hit ?_
                refine then_normal ?_
                obtain ⟨J_41, hJ_41, H⟩ := Jn.elim H
                refine wq_cut (fun a w' => J_41 = some r ∧ ST [] Try.f3.ntmps a [(0, va0), (3, .pointer (some ⟨g1, 0, none⟩)), (4, .bool false), (5, v11), (6, .pointer (some ⟨g_1, 0, none⟩))] ∧ SH (fun _ => False) w w' [Box g1 [.int .i64 a1.Log, .int .i64 a1.Next, .int .u64 a1.Seq, va1_0, va1_1] 28, Row (Kd.slice 43 k_File) 39 v11 r9, Box g_1 [.int .i64 a1.Log, .int .i64 a1.Next, .int .u64 a1.Seq, v_3, v_6] 28, Row k_Place 41 v_3 l_4, Row k_Added 45 v_6 l_7]) ?_ ?_
                · rintro a W_40 ⟨H, hst, hsh⟩
                  subst hJ_41
                  obtain ⟨J_51, hJ_51, H⟩ := Jn.elim H
                  refine wq_cut (fun a w' => J_51 = some r ∧ ST [] Try.f3.ntmps a [(0, va0), (4, .bool false), (5, v11)] ∧ SH (fun _ => False) w w' [Row (Kd.slice 43 k_File) 39 v11 r9]) ?_ ?_
                  · rintro a W_50 ⟨H, hst, hsh⟩
                    subst hJ_51
                    refine wq_seq ?_
                    refine wq_region_lit (.inl rfl) ?_
                    refine r_t hst trivial rfl (x_move hst rfl) ?_; intro a hst
                    refine r_t hst trivial rfl (x_move hst rfl) ?_; intro a hst
                    obtain ⟨r472, hr472, H⟩ := Option.bind_eq_some_iff.1 H
                    refine r_callD hst trivial rfl fn_16 rfl (r16_Same.calls k_31 _ _ _ _ (Same.refl _ _) _ (hsh.row 0 rfl) _ _ _ (Same.sh0 hsa0 hsh) _ hra0 r472 hr472) ?_
                    rintro e w473 ⟨rfl, hc⟩
                    replace hsh := hsh.call0 hc
                    clear hc
                    refine ⟨_, rfl, fun a hst => ?_⟩
                    refine r_t hst trivial rfl (x_assign hst rfl) ?_; intro a hst
                    refine wpL_nil ?_
                    refine then_normal ?_
                    refine wq_ret ?_
                    obtain rfl := Option.some.inj H
                    exact ret1 hst rfl rfl ⟨rfl, hsh.pick []⟩
                  · refine wq_seq ?_
                    refine wq_region_lit (.inl rfl) ?_
                    refine r_t hst trivial rfl (x_assign hst rfl) ?_; intro a hst
                    refine wpL_nil ?_
                    refine then_normal ?_
                    refine wq_block ?_
                    refine wq_loop_fuel (fun k_59 a w' => ∃ (i_55 : Int), l16_VersionApplies.l1 a1 l_7 J_51 k_59 i_55 = some r ∧ ST [] Try.f3.ntmps a [(0, va0), (3, .pointer (some ⟨g1, 0, none⟩)), (4, .bool false), (5, v11), (6, .pointer (some ⟨g_1, 0, none⟩)), (13, .int .i64 i_55)] ∧ SH (fun _ => False) w w' [Box g1 [.int .i64 a1.Log, .int .i64 a1.Next, .int .u64 a1.Seq, va1_0, va1_1] 28, Row (Kd.slice 43 k_File) 39 v11 r9, Box g_1 [.int .i64 a1.Log, .int .i64 a1.Next, .int .u64 a1.Seq, v_3, v_6] 28, Row k_Place 41 v_3 l_4, Row k_Added 45 v_6 l_7]) k_31 ?_ ?_
                    · exact ⟨0, H, hst.keep _ ⟨rfl, rfl, rfl, rfl, rfl, rfl, trivial⟩, hsh.pick [0, 0, 0, 0, 0]⟩
                    · rintro k_59 a W_56 ⟨i_55, H, hst, hsh⟩
                      cases k_59 with
                      | zero => rw [l16_VersionApplies.l1] at H; cases H
                      | succ k_59 =>
                       rw [l16_VersionApplies.l1] at H
                       refine wq_seq ?_
                       refine wq_seq ?_
                       refine wq_region_lit (.inl rfl) ?_
                       refine r_t hst trivial rfl (x_move hst rfl) ?_; intro a hst
                       refine r_t hst trivial rfl (x_fieldAddr (j' := 4) hst fa_28_4 rfl rfl) ?_; intro a hst
                       refine r_t hst trivial rfl (x_loadB (i := 0) hst hsh sc_26 rfl rfl rfl) ?_; intro a hst
                       refine r_t hst trivial rfl (x_lenSl hst Try.underlying26 rfl hra1_1.slen) ?_; intro a hst
                       refine r_t hst trivial rfl (x_cmpI (b := decide (i_55 < (a1.Come.length : Int))) hst rfl rfl rfl) ?_; intro a hst
                       refine wpL_nil ?_
                       refine then_normal ?_
                       by_cases c495 : (decide (i_55 < (a1.Come.length : Int))) = true
                       · rw [if_pos c495] at H
                         refine wq_condT hst rfl c495 ?_
                         refine wq_skip ?_
                         refine then_normal ?_
                         refine wq_seq ?_
                         refine wq_block ?_
                         refine wq_seq ?_
                         refine wq_region_q (.inl rfl) (fun w' => SH (fun _ => False) w w' [Box g1 [.int .i64 a1.Log, .int .i64 a1.Next, .int .u64 a1.Seq, va1_0, va1_1] 28, Row (Kd.slice 43 k_File) 39 v11 r9, Box g_1 [.int .i64 a1.Log, .int .i64 a1.Next, .int .u64 a1.Seq, v_3, v_6] 28, Row k_Place 41 v_3 l_4, Row k_Added 45 v_6 l_7]) (shut_sh _ _ _) hsh.drew fo (by kernel_rfl) ?_
                         refine q_t hst trivial rfl (fun _ hsh => x_fieldAddr (j' := 4) hst fa_28_4 rfl rfl) ?_; intro a hst
                         refine q_t hst trivial rfl (fun _ hsh => x_loadB (i := 2) hst hsh sc_26 rfl rfl rfl) ?_; intro a hst
                         refine q_t hst trivial rfl (fun _ hsh => x_move hst rfl) ?_; intro a hst
                         obtain ⟨x500, hx500, H⟩ := Option.bind_eq_some_iff.1 H
                         refine q_t hst trivial rfl (fun _ hsh => x_indexAddr hst Try.underlying26 el_45 rfl rfl (hsh.row 4 rfl) hx500) ?_; intro a hst
                         refine q_t hst trivial rfl (fun _ hsh => x_loadEsF (j := 0) (cs := [.int .i64 x500.Level, .int .i64 x500.File.Number, .int .i64 x500.File.Size, .string x500.File.Least, .string x500.File.Limit, .int .u64 x500.File.Low, .int .u64 x500.File.High]) (ps := [.int .i64 x500.Level, .int .i64 x500.File.Number, .int .i64 x500.File.Size, .string x500.File.Least, .string x500.File.Limit, .int .u64 x500.File.Low, .int .u64 x500.File.High]) hst ag_45 rfl (hsh.row 4 rfl) (Same.refl _ _) hx500 rfl (fun _ h => h) rfl) ?_; intro a hst
                         refine q_t hst trivial rfl (fun _ hsh => x_fieldAddr (j' := 4) hst fa_28_4 rfl rfl) ?_; intro a hst
                         refine q_t hst trivial rfl (fun _ hsh => x_loadB (i := 0) hst hsh sc_26 rfl rfl rfl) ?_; intro a hst
                         refine q_t hst trivial rfl (fun _ hsh => x_move hst rfl) ?_; intro a hst
                         obtain ⟨x501, hx501, H⟩ := Option.bind_eq_some_iff.1 H
                         refine q_t hst trivial rfl (fun _ hsh => x_indexAddr hst Try.underlying26 el_45 rfl rfl hra1_1 hx501) ?_; intro a hst
                         refine q_t hst trivial rfl (fun _ hsh => x_loadEsF (j := 0) (cs := [.int .i64 x501.Level, .int .i64 x501.File.Number, .int .i64 x501.File.Size, .string x501.File.Least, .string x501.File.Limit, .int .u64 x501.File.Low, .int .u64 x501.File.High]) (ps := [.int .i64 x501.Level, .int .i64 x501.File.Number, .int .i64 x501.File.Size, .string x501.File.Least, .string x501.File.Limit, .int .u64 x501.File.Low, .int .u64 x501.File.High]) hst ag_45 rfl hra1_1 (Same.sh0 hsa1_1 hsh) hx501 rfl (fun _ h => h) rfl) ?_; intro a hst
                         refine q_t hst trivial rfl (fun _ hsh => x_eqSn (b := Added.eqb x500 x501) (x0 := x500) (y0 := x501) hst eqof_45 rfl rfl rfl) ?_; intro a hst
                         refine q_nil ?_
                         intro w502 hsh
                         refine then_normal ?_
                         by_cases c503 : (!Added.eqb x500 x501) = true
                         · rw [if_pos c503] at H
                           refine wq_condT hst rfl c503 ?_
                           refine wq_seq ?_
                           refine wq_region_lit (.inl rfl) ?_
                           refine r_t hst trivial rfl (x_assign hst rfl) ?_; intro a hst
                           refine wpL_nil ?_
                           refine then_normal ?_
                           refine wq_ret ?_
                           refine block_ret ?_
                           refine then_ret ?_
                           refine then_ret ?_
                           refine block_ret ?_
                           refine then_ret ?_
                           obtain rfl := Option.some.inj H
                           exact ret1 hst rfl rfl ⟨rfl, hsh.pick []⟩
                         · rw [if_neg c503] at H
                           replace c503 := Bool.eq_false_iff.2 c503
                           refine wq_condF hst rfl c503 ?_
                           refine wq_skip ?_
                           refine block_normal ?_
                           refine then_normal ?_
                           refine wq_region_lit (.inl rfl) ?_
                           refine r_t hst trivial rfl (x_move hst rfl) ?_; intro a hst
                           refine r_t hst trivial rfl (x_arI (r := w64 (i_55 + 1)) hst rfl rfl rfl) ?_; intro a hst
                           refine r_t hst trivial rfl (x_assign hst rfl) ?_; intro a hst
                           refine wpL_nil ?_
                           refine then_normal ?_
                           exact ⟨k_59, Nat.lt_succ_self _, (w64 (i_55 + 1)), H, hst.keep _ ⟨rfl, rfl, rfl, rfl, rfl, rfl, trivial⟩, hsh.pick [0, 0, 0, 0, 0]⟩
                       · rw [if_neg c495] at H
                         replace c495 := Bool.eq_false_iff.2 c495
                         refine wq_condF hst rfl c495 ?_
                         refine wq_exit ?_
                         refine then_exit ?_
                         refine then_exit ?_
                         refine block_hit ?_
                         refine then_normal ?_
                         exact ⟨H, hst.keep _ ⟨rfl, rfl, rfl, trivial⟩, hsh.pick [1]⟩
                · refine wq_seq ?_
                  refine wq_region_lit (.inl rfl) ?_
                  refine r_t hst trivial rfl (x_assign hst rfl) ?_; intro a hst
                  refine wpL_nil ?_
                  refine then_normal ?_
                  refine wq_block ?_
                  refine wq_loop_fuel (fun k_67 a w' => ∃ (i_63 : Int), l16_VersionApplies.l2 a1 l_4 J_41 k_67 i_63 = some r ∧ ST [] Try.f3.ntmps a [(0, va0), (3, .pointer (some ⟨g1, 0, none⟩)), (4, .bool false), (5, v11), (6, .pointer (some ⟨g_1, 0, none⟩)), (12, .int .i64 i_63)] ∧ SH (fun _ => False) w w' [Box g1 [.int .i64 a1.Log, .int .i64 a1.Next, .int .u64 a1.Seq, va1_0, va1_1] 28, Row (Kd.slice 43 k_File) 39 v11 r9, Box g_1 [.int .i64 a1.Log, .int .i64 a1.Next, .int .u64 a1.Seq, v_3, v_6] 28, Row k_Place 41 v_3 l_4, Row k_Added 45 v_6 l_7]) k_31 ?_ ?_
                  · exact ⟨0, H, hst.keep _ ⟨rfl, rfl, rfl, rfl, rfl, rfl, trivial⟩, hsh.pick [0, 0, 0, 0, 0]⟩
                  · rintro k_67 a W_64 ⟨i_63, H, hst, hsh⟩
                    cases k_67 with
                    | zero => rw [l16_VersionApplies.l2] at H; cases H
                    | succ k_67 =>
                     rw [l16_VersionApplies.l2] at H
                     refine wq_seq ?_
                     refine wq_seq ?_
                     refine wq_region_lit (.inl rfl) ?_
                     refine r_t hst trivial rfl (x_move hst rfl) ?_; intro a hst
                     refine r_t hst trivial rfl (x_fieldAddr (j' := 3) hst fa_28_3 rfl rfl) ?_; intro a hst
                     refine r_t hst trivial rfl (x_loadB (i := 0) hst hsh sc_25 rfl rfl rfl) ?_; intro a hst
                     refine r_t hst trivial rfl (x_lenSl hst Try.underlying25 rfl hra1_0.slen) ?_; intro a hst
                     refine r_t hst trivial rfl (x_cmpI (b := decide (i_63 < (a1.Gone.length : Int))) hst rfl rfl rfl) ?_; intro a hst
                     refine wpL_nil ?_
                     refine then_normal ?_
                     by_cases c525 : (decide (i_63 < (a1.Gone.length : Int))) = true
                     · rw [if_pos c525] at H
                       refine wq_condT hst rfl c525 ?_
                       refine wq_skip ?_
                       refine then_normal ?_
                       refine wq_seq ?_
                       refine wq_block ?_
                       refine wq_seq ?_
                       refine wq_region_q (.inl rfl) (fun w' => SH (fun _ => False) w w' [Box g1 [.int .i64 a1.Log, .int .i64 a1.Next, .int .u64 a1.Seq, va1_0, va1_1] 28, Row (Kd.slice 43 k_File) 39 v11 r9, Box g_1 [.int .i64 a1.Log, .int .i64 a1.Next, .int .u64 a1.Seq, v_3, v_6] 28, Row k_Place 41 v_3 l_4, Row k_Added 45 v_6 l_7]) (shut_sh _ _ _) hsh.drew fo (by kernel_rfl) ?_
                       refine q_t hst trivial rfl (fun _ hsh => x_fieldAddr (j' := 3) hst fa_28_3 rfl rfl) ?_; intro a hst
                       refine q_t hst trivial rfl (fun _ hsh => x_loadB (i := 2) hst hsh sc_25 rfl rfl rfl) ?_; intro a hst
                       refine q_t hst trivial rfl (fun _ hsh => x_move hst rfl) ?_; intro a hst
                       obtain ⟨x530, hx530, H⟩ := Option.bind_eq_some_iff.1 H
                       refine q_t hst trivial rfl (fun _ hsh => x_indexAddr hst Try.underlying25 el_41 rfl rfl (hsh.row 3 rfl) hx530) ?_; intro a hst
                       refine q_t hst trivial rfl (fun _ hsh => x_loadEsF (j := 0) (cs := [.int .i64 x530.Level, .int .i64 x530.Number]) (ps := [.int .i64 x530.Level, .int .i64 x530.Number]) hst ag_41 rfl (hsh.row 3 rfl) (Same.refl _ _) hx530 rfl (fun _ h => h) rfl) ?_; intro a hst
                       refine q_t hst trivial rfl (fun _ hsh => x_fieldAddr (j' := 3) hst fa_28_3 rfl rfl) ?_; intro a hst
                       refine q_t hst trivial rfl (fun _ hsh => x_loadB (i := 0) hst hsh sc_25 rfl rfl rfl) ?_; intro a hst
                       refine q_t hst trivial rfl (fun _ hsh => x_move hst rfl) ?_; intro a hst
                       obtain ⟨x531, hx531, H⟩ := Option.bind_eq_some_iff.1 H
                       refine q_t hst trivial rfl (fun _ hsh => x_indexAddr hst Try.underlying25 el_41 rfl rfl hra1_0 hx531) ?_; intro a hst
                       refine q_t hst trivial rfl (fun _ hsh => x_loadEsF (j := 0) (cs := [.int .i64 x531.Level, .int .i64 x531.Number]) (ps := [.int .i64 x531.Level, .int .i64 x531.Number]) hst ag_41 rfl hra1_0 (Same.sh0 hsa1_0 hsh) hx531 rfl (fun _ h => h) rfl) ?_; intro a hst
                       refine q_t hst trivial rfl (fun _ hsh => x_eqSn (b := Place.eqb x530 x531) (x0 := x530) (y0 := x531) hst eqof_41 rfl rfl rfl) ?_; intro a hst
                       refine q_nil ?_
                       intro w532 hsh
                       refine then_normal ?_
                       by_cases c533 : (!Place.eqb x530 x531) = true
                       · rw [if_pos c533] at H
                         refine wq_condT hst rfl c533 ?_
                         refine wq_seq ?_
                         refine wq_region_lit (.inl rfl) ?_
                         refine r_t hst trivial rfl (x_assign hst rfl) ?_; intro a hst
                         refine wpL_nil ?_
                         refine then_normal ?_
                         refine wq_ret ?_
                         refine block_ret ?_
                         refine then_ret ?_
                         refine then_ret ?_
                         refine block_ret ?_
                         refine then_ret ?_
                         obtain rfl := Option.some.inj H
                         exact ret1 hst rfl rfl ⟨rfl, hsh.pick []⟩
                       · rw [if_neg c533] at H
                         replace c533 := Bool.eq_false_iff.2 c533
                         refine wq_condF hst rfl c533 ?_
                         refine wq_skip ?_
                         refine block_normal ?_
                         refine then_normal ?_
                         refine wq_region_lit (.inl rfl) ?_
                         refine r_t hst trivial rfl (x_move hst rfl) ?_; intro a hst
                         refine r_t hst trivial rfl (x_arI (r := w64 (i_63 + 1)) hst rfl rfl rfl) ?_; intro a hst
                         refine r_t hst trivial rfl (x_assign hst rfl) ?_; intro a hst
                         refine wpL_nil ?_
                         refine then_normal ?_
                         exact ⟨k_67, Nat.lt_succ_self _, (w64 (i_63 + 1)), H, hst.keep _ ⟨rfl, rfl, rfl, rfl, rfl, rfl, trivial⟩, hsh.pick [0, 0, 0, 0, 0]⟩
                     · rw [if_neg c525] at H
                       replace c525 := Bool.eq_false_iff.2 c525
                       refine wq_condF hst rfl c525 ?_
                       refine wq_exit ?_
                       refine then_exit ?_
                       refine then_exit ?_
                       refine block_hit ?_
                       refine then_normal ?_
                       exact ⟨H, hst.keep _ ⟨rfl, rfl, rfl, rfl, rfl, trivial⟩, hsh.pick [0, 0, 0, 0, 0]⟩
       · intro hj
         by_cases c278 : (!r276) = true
         · refine r_not hst 54 rfl rfl c278 rfl ?_; intro a hst
           refine r_not hst 54 rfl rfl c278 rfl ?_; intro a hst
           refine r_not hst 54 rfl rfl c278 rfl ?_; intro a hst
           refine r_t hst trivial rfl (x_orT (r264.2 != r268.2) hst rfl c278 rfl) ?_; intro a hst
           exact hj _ (hst.keep _ ⟨rfl, rfl, rfl, rfl, rfl, rfl, rfl, trivial⟩)
         · replace c278 := Bool.eq_false_iff.2 c278
           refine r_t hst (wt_of 54 rfl rfl c278) rfl (x_move hst rfl) ?_; intro a hst
           refine r_t hst (wt_of 54 rfl rfl c278) rfl (x_move hst rfl) ?_; intro a hst
           refine r_t hst (wt_of 54 rfl rfl c278) rfl (x_cmpI (b := (r264.2 != r268.2)) hst rfl rfl rfl) ?_; intro a hst
           refine r_t hst trivial rfl (x_orF hst rfl c278 rfl) ?_; intro a hst
           exact hj _ (hst.keep _ ⟨rfl, rfl, rfl, rfl, rfl, rfl, rfl, trivial⟩)
   · have hw533_0 := hsh.row 0 rfl
     refine wq_region_t (.inl rfl) (.alt3 [(3, 0), (0, 1), (3, 2), (0, 3), (3, 4), (0, 5), (3, 7), (0, 8), (3, 11), (0, 12)] 6 10 15 (.alt3 [] 9 10 15 (.alt [] 10 15 (.alt [] 13 15 (.fin [(0, 14), (1, 15), (2, 16)]) (.fin [(1, 13), (0, 14), (2, 16)])) (.fin [(1, 10), (1, 13), (0, 14), (2, 16)])) (.alt [] 9 15 (.alt [] 13 15 (.fin [(0, 14), (1, 15), (2, 16)]) (.fin [(1, 13), (0, 14), (2, 16)])) (.fin [(1, 9), (1, 13), (0, 14), (2, 16)])) (.alt [] 9 10 (.fin [(1, 10), (1, 13), (0, 14), (2, 16)]) (.fin [(1, 9), (1, 13), (0, 14), (2, 16)]))) (.alt [] 6 15 (.alt [] 9 15 (.alt [] 13 15 (.fin [(0, 14), (1, 15), (2, 16)]) (.fin [(1, 13), (0, 14), (2, 16)])) (.fin [(1, 9), (1, 13), (0, 14), (2, 16)])) (.fin [(1, 6), (1, 9), (1, 13), (0, 14), (2, 16)])) (.alt [] 6 10 (.alt [] 9 10 (.fin [(1, 10), (1, 13), (0, 14), (2, 16)]) (.fin [(1, 9), (1, 13), (0, 14), (2, 16)])) (.fin [(1, 6), (1, 9), (1, 13), (0, 14), (2, 16)]))) (fun w' => SH (fun _ => False) w w' [Row (Kd.slice 43 k_File) 39 v11 r9, Box g1 [.int .i64 a1.Log, .int .i64 a1.Next, .int .u64 a1.Seq, va1_0, va1_1] 28]) (fun w' => SH (fun _ => False) w w' [Row (Kd.slice 43 k_File) 39 v11 r9, Box g1 [.int .i64 a1.Log, .int .i64 a1.Next, .int .u64 a1.Seq, va1_0, va1_1] 28]) (fun w' => SH (fun _ => False) w w' [Row (Kd.slice 43 k_File) 39 v11 r9, Box g1 [.int .i64 a1.Log, .int .i64 a1.Next, .int .u64 a1.Seq, va1_0, va1_1] 28]) (shut_sh _ _ _) (shut_sh _ _ _) (shut_sh _ _ _) (sub_sh [0, 0] rfl) (sub_sh [0, 0] rfl) hsh.drew fo (by kernel_rfl) ?_
     refine t_alt3 ?_
     refine m_p hst trivial rfl (fun _ => x_fieldAddr (j' := 0) hst fa_28_0 rfl rfl) ?_; intro a hst
     refine m_t hst trivial rfl (fun _ hsh => x_loadB (i := 1) hst hsh sc_3 rfl rfl rfl) ?_; intro a hst
     refine m_p hst trivial rfl (fun _ => x_fieldAddr (j' := 1) hst fa_28_1 rfl rfl) ?_; intro a hst
     refine m_t hst trivial rfl (fun _ hsh => x_loadB (i := 1) hst hsh sc_3 rfl rfl rfl) ?_; intro a hst
     refine m_p hst trivial rfl (fun _ => x_fieldAddr (j' := 2) hst fa_28_2 rfl rfl) ?_; intro a hst
     refine m_t hst trivial rfl (fun _ hsh => x_loadB (i := 1) hst hsh sc_24 rfl rfl rfl) ?_; intro a hst
     refine m_p hst trivial rfl (fun _ => x_fieldAddr (j' := 3) hst fa_28_3 rfl rfl) ?_; intro a hst
     refine m_t hst trivial rfl (fun _ hsh => x_loadB (i := 1) hst hsh sc_25 rfl rfl rfl) ?_; intro a hst
     refine m_p hst trivial rfl (fun _ => x_fieldAddr (j' := 4) hst fa_28_4 rfl rfl) ?_; intro a hst
     refine m_t hst trivial rfl (fun _ hsh => x_loadB (i := 1) hst hsh sc_26 rfl rfl rfl) ?_; intro a hst
     refine m_alt3 ?_ ?_ ?_
     · refine ld_loud ?_
       intro w534 hsh
       refine r_buildSlice (vs := []) (cs := []) hst hsh trivial rfl Try.underlying25 el_41 rfl rfl (by simp [Value.cells]) rfl rfl ?_
       intro g535 a w536 hgg535 hsh hst
       replace hsh := hsh.pick [0, 0, 0]
       replace hsh : SH (fun _ => False) w w536 [Row k_Place 41 (.slice (some ⟨g535, 0, none⟩) 0 0) ([]), Row (Kd.slice 43 k_File) 39 v11 r9, Box g1 [.int .i64 a1.Log, .int .i64 a1.Next, .int .u64 a1.Seq, va1_0, va1_1] 28] := SH.boxRow ([] : List Place) hsh rfl rfl rfl
       refine m_on (MB := [Row (Kd.slice 43 k_File) 39 v11 r9, Box g1 [.int .i64 a1.Log, .int .i64 a1.Next, .int .u64 a1.Seq, va1_0, va1_1] 28]) [1, 1] [0, 0] rfl rfl hsh rfl (sub_sh [0, 0] rfl) ?_
       refine t_alt3 ?_
       refine m_alt3 ?_ ?_ ?_
       · refine ld_loud ?_
         intro w538 hsh
         replace hsh := hsh.pick [0, 0, 0]
         obtain ⟨l539, hl539, H⟩ := Option.bind_eq_some_iff.1 H
         refine r_appendN (M := [Row (Kd.slice 43 k_File) 39 v11 r9, Box g1 [.int .i64 a1.Log, .int .i64 a1.Next, .int .u64 a1.Seq, va1_0, va1_1] 28]) hst hsh trivial rfl Try.underlying25 el_41 (by decide) (by decide) (by decide) rfl rfl (flat_flat _ _ _ _) hra1_0 (Same.sh0 hsa1_0 hsh) hl539 ?_
         intro v540 a w541 hsh hst
         refine m_on (MB := [Row k_Place 41 v540 l539, Row (Kd.slice 43 k_File) 39 v11 r9, Box g1 [.int .i64 a1.Log, .int .i64 a1.Next, .int .u64 a1.Seq, va1_0, va1_1] 28]) [0, 0, 0] [1, 1] rfl rfl hsh rfl (sub_sh [0, 0] rfl) ?_
         refine t_alt ?_
         refine m_alt ?_ ?_
         · refine ld_loud ?_
           intro w542 hsh
           refine r_buildSlice (vs := []) (cs := []) hst hsh trivial rfl Try.underlying26 el_45 rfl rfl (by simp [Value.cells]) rfl rfl ?_
           intro g543 a w544 hgg543 hsh hst
           replace hsh := hsh.pick [0, 0, 0, 0]
           replace hsh : SH (fun _ => False) w w544 [Row k_Added 45 (.slice (some ⟨g543, 0, none⟩) 0 0) ([]), Row k_Place 41 v540 l539, Row (Kd.slice 43 k_File) 39 v11 r9, Box g1 [.int .i64 a1.Log, .int .i64 a1.Next, .int .u64 a1.Seq, va1_0, va1_1] 28] := SH.boxRow ([] : List Added) hsh rfl rfl rfl
           refine m_on (MB := [Row k_Place 41 v540 l539, Row (Kd.slice 43 k_File) 39 v11 r9, Box g1 [.int .i64 a1.Log, .int .i64 a1.Next, .int .u64 a1.Seq, va1_0, va1_1] 28]) [1, 1, 1] [0, 0, 0] rfl rfl hsh rfl (sub_sh [1, 1] rfl) ?_
           refine t_alt ?_
           refine m_alt ?_ ?_
           · refine ld_loud ?_
             intro w546 hsh
             replace hsh := hsh.pick [0, 0, 0, 0]
             obtain ⟨l547, hl547, H⟩ := Option.bind_eq_some_iff.1 H
             refine r_appendN (M := [Row k_Place 41 v540 l539, Row (Kd.slice 43 k_File) 39 v11 r9, Box g1 [.int .i64 a1.Log, .int .i64 a1.Next, .int .u64 a1.Seq, va1_0, va1_1] 28]) hst hsh trivial rfl Try.underlying26 el_45 (by decide) (by decide) (by decide) rfl rfl (flat_flat _ _ _ _) hra1_1 (Same.sh0 hsa1_1 hsh) hl547 ?_
             intro v548 a w549 hsh hst
             refine m_on (MB := [Row k_Added 45 v548 l547, Row k_Place 41 v540 l539, Row (Kd.slice 43 k_File) 39 v11 r9, Box g1 [.int .i64 a1.Log, .int .i64 a1.Next, .int .u64 a1.Seq, va1_0, va1_1] 28]) [0, 0, 0, 0] [1, 1, 1] rfl rfl hsh rfl (sub_sh [1, 1] rfl) ?_
             refine t_fin ?_
             refine m_t hst trivial rfl (fun _ hsh => x_build (cs := [.int .i64 a1.Log, .int .i64 a1.Next, .int .u64 a1.Seq, v540, v548]) hst rfl (by obtain ⟨_, _, e0⟩ := (hsh.row 1 rfl).slen; obtain ⟨_, _, e1⟩ := (hsh.row 0 rfl).slen; rw [e0, e1]; kernel_rfl)) ?_; intro a hst
             refine m_loud (.inl rfl) ?_
             intro w550 hsh
             refine r_alloc hst hsh trivial rfl zr_28 ?_
             intro g551 a w552 hgg551 hsh hst
             refine m_on (MB := [Box g551 [.int .i64 0, .int .i64 0, .int .u64 0, (.slice none 0 0), (.slice none 0 0)] 28, Row k_Added 45 v548 l547, Row k_Place 41 v540 l539, Row (Kd.slice 43 k_File) 39 v11 r9, Box g1 [.int .i64 a1.Log, .int .i64 a1.Next, .int .u64 a1.Seq, va1_0, va1_1] 28]) [0, 0, 0, 0, 0] [1, 1, 1, 1] rfl rfl hsh rfl (sub_sh [2, 2] rfl) ?_
             refine m_loud (.inr rfl) ?_
             intro w553 hsh
             refine r_storeBs (i := 0) (cs' := [.int .i64 a1.Log, .int .i64 a1.Next, .int .u64 a1.Seq, v540, v548]) (vs := [.int .i64 a1.Log, .int .i64 a1.Next, .int .u64 a1.Seq, v540, v548]) hst hsh trivial ag_28 rfl rfl rfl rfl (one_cons rfl (one_cons rfl (one_cons rfl (one_cons (one_slice (hsh.row 2 rfl).slen) (one_cons (one_slice (hsh.row 1 rfl).slen) rfl))))) rfl ?_; intro a w554 hsh hst
             refine m_turn hsh (sub_sh [3, 3] rfl) ?_
             refine m_nil ?_
             intro w555 hsh
             refine qn_normal ?_
             refine then_normal ?_
             exact ⟨g551, v540, l539, v548, l547, H, hst.keep _ ⟨rfl, rfl, rfl, rfl, rfl, trivial⟩, hsh.pick [4, 3, 0, 1, 0]⟩
           · refine ld_loud ?_
             intro w556 hsh
             refine r_alloc hst hsh trivial rfl zr_28 ?_
             intro g557 a w558 hgg557 hsh hst
             refine m_on (MB := [Box g557 [.int .i64 0, .int .i64 0, .int .u64 0, (.slice none 0 0), (.slice none 0 0)] 28, Row k_Place 41 v540 l539, Row (Kd.slice 43 k_File) 39 v11 r9, Box g1 [.int .i64 a1.Log, .int .i64 a1.Next, .int .u64 a1.Seq, va1_0, va1_1] 28]) [0, 1, 1, 1] [1, 1, 1] rfl rfl hsh rfl (sub_sh [1, 1] rfl) ?_
             refine t_fin ?_
             refine m_loud (.inl rfl) ?_
             intro w559 hsh
             replace hsh := hsh.pick [1, 0, 0, 0, 0]
             obtain ⟨l560, hl560, H⟩ := Option.bind_eq_some_iff.1 H
             refine r_appendN (M := [Box g557 [.int .i64 0, .int .i64 0, .int .u64 0, (.slice none 0 0), (.slice none 0 0)] 28, Row k_Place 41 v540 l539, Row (Kd.slice 43 k_File) 39 v11 r9, Box g1 [.int .i64 a1.Log, .int .i64 a1.Next, .int .u64 a1.Seq, va1_0, va1_1] 28]) hst hsh trivial rfl Try.underlying26 el_45 (by decide) (by decide) (by decide) rfl rfl (flat_flat _ _ _ _) hra1_1 (Same.sh0 hsa1_1 hsh) hl560 ?_
             intro v561 a w562 hsh hst
             refine m_on (MB := [Row k_Added 45 v561 l560, Box g557 [.int .i64 0, .int .i64 0, .int .u64 0, (.slice none 0 0), (.slice none 0 0)] 28, Row k_Place 41 v540 l539, Row (Kd.slice 43 k_File) 39 v11 r9, Box g1 [.int .i64 a1.Log, .int .i64 a1.Next, .int .u64 a1.Seq, va1_0, va1_1] 28]) [0, 0, 0, 0, 0] [1, 1, 1, 1] rfl rfl hsh rfl (sub_sh [2, 2] rfl) ?_
             refine m_t hst trivial rfl (fun _ hsh => x_build (cs := [.int .i64 a1.Log, .int .i64 a1.Next, .int .u64 a1.Seq, v540, v561]) hst rfl (by obtain ⟨_, _, e0⟩ := (hsh.row 2 rfl).slen; obtain ⟨_, _, e1⟩ := (hsh.row 0 rfl).slen; rw [e0, e1]; kernel_rfl)) ?_; intro a hst
             refine m_loud (.inr rfl) ?_
             intro w563 hsh
             refine r_storeBs (i := 1) (cs' := [.int .i64 a1.Log, .int .i64 a1.Next, .int .u64 a1.Seq, v540, v561]) (vs := [.int .i64 a1.Log, .int .i64 a1.Next, .int .u64 a1.Seq, v540, v561]) hst hsh trivial ag_28 rfl rfl rfl rfl (one_cons rfl (one_cons rfl (one_cons rfl (one_cons (one_slice (hsh.row 2 rfl).slen) (one_cons (one_slice (hsh.row 0 rfl).slen) rfl))))) rfl ?_; intro a w564 hsh hst
             refine m_turn hsh (sub_sh [3, 3] rfl) ?_
             refine m_nil ?_
             intro w565 hsh
             refine qn_normal ?_
             refine then_normal ?_
             exact ⟨g557, v540, l539, v561, l560, H, hst.keep _ ⟨rfl, rfl, rfl, rfl, rfl, trivial⟩, hsh.pick [4, 3, 0, 1, 0]⟩
         · refine ld_loud ?_
           intro w566 hsh
           refine r_alloc hst hsh trivial rfl zr_28 ?_
           intro g567 a w568 hgg567 hsh hst
           refine m_on (MB := [Box g567 [.int .i64 0, .int .i64 0, .int .u64 0, (.slice none 0 0), (.slice none 0 0)] 28, Row k_Place 41 v540 l539, Row (Kd.slice 43 k_File) 39 v11 r9, Box g1 [.int .i64 a1.Log, .int .i64 a1.Next, .int .u64 a1.Seq, va1_0, va1_1] 28]) [0, 0, 0, 0] [1, 1, 1] rfl rfl hsh rfl (sub_sh [1, 1] rfl) ?_
           refine t_fin ?_
           refine m_loud (.inl rfl) ?_
           intro w569 hsh
           refine r_buildSlice (vs := []) (cs := []) hst hsh trivial rfl Try.underlying26 el_45 rfl rfl (by simp [Value.cells]) rfl rfl ?_
           intro g570 a w571 hgg570 hsh hst
           replace hsh := hsh.pick [0, 0, 0, 0, 0]
           replace hsh : SH (fun _ => False) w w571 [Row k_Added 45 (.slice (some ⟨g570, 0, none⟩) 0 0) ([]), Box g567 [.int .i64 0, .int .i64 0, .int .u64 0, (.slice none 0 0), (.slice none 0 0)] 28, Row k_Place 41 v540 l539, Row (Kd.slice 43 k_File) 39 v11 r9, Box g1 [.int .i64 a1.Log, .int .i64 a1.Next, .int .u64 a1.Seq, va1_0, va1_1] 28] := SH.boxRow ([] : List Added) hsh rfl rfl rfl
           refine m_on (MB := [Box g567 [.int .i64 0, .int .i64 0, .int .u64 0, (.slice none 0 0), (.slice none 0 0)] 28, Row k_Place 41 v540 l539, Row (Kd.slice 43 k_File) 39 v11 r9, Box g1 [.int .i64 a1.Log, .int .i64 a1.Next, .int .u64 a1.Seq, va1_0, va1_1] 28]) [1, 1, 1, 1] [0, 0, 0, 0] rfl rfl hsh rfl (sub_sh [2, 2] rfl) ?_
           refine m_loud (.inl rfl) ?_
           intro w573 hsh
           replace hsh := hsh.pick [0, 0, 0, 0, 0]
           obtain ⟨l574, hl574, H⟩ := Option.bind_eq_some_iff.1 H
           refine r_appendN (M := [Box g567 [.int .i64 0, .int .i64 0, .int .u64 0, (.slice none 0 0), (.slice none 0 0)] 28, Row k_Place 41 v540 l539, Row (Kd.slice 43 k_File) 39 v11 r9, Box g1 [.int .i64 a1.Log, .int .i64 a1.Next, .int .u64 a1.Seq, va1_0, va1_1] 28]) hst hsh trivial rfl Try.underlying26 el_45 (by decide) (by decide) (by decide) rfl rfl (flat_flat _ _ _ _) hra1_1 (Same.sh0 hsa1_1 hsh) hl574 ?_
           intro v575 a w576 hsh hst
           refine m_on (MB := [Row k_Added 45 v575 l574, Box g567 [.int .i64 0, .int .i64 0, .int .u64 0, (.slice none 0 0), (.slice none 0 0)] 28, Row k_Place 41 v540 l539, Row (Kd.slice 43 k_File) 39 v11 r9, Box g1 [.int .i64 a1.Log, .int .i64 a1.Next, .int .u64 a1.Seq, va1_0, va1_1] 28]) [0, 0, 0, 0, 0] [1, 1, 1, 1] rfl rfl hsh rfl (sub_sh [2, 2] rfl) ?_
           refine m_t hst trivial rfl (fun _ hsh => x_build (cs := [.int .i64 a1.Log, .int .i64 a1.Next, .int .u64 a1.Seq, v540, v575]) hst rfl (by obtain ⟨_, _, e0⟩ := (hsh.row 2 rfl).slen; obtain ⟨_, _, e1⟩ := (hsh.row 0 rfl).slen; rw [e0, e1]; kernel_rfl)) ?_; intro a hst
           refine m_loud (.inr rfl) ?_
           intro w577 hsh
           refine r_storeBs (i := 1) (cs' := [.int .i64 a1.Log, .int .i64 a1.Next, .int .u64 a1.Seq, v540, v575]) (vs := [.int .i64 a1.Log, .int .i64 a1.Next, .int .u64 a1.Seq, v540, v575]) hst hsh trivial ag_28 rfl rfl rfl rfl (one_cons rfl (one_cons rfl (one_cons rfl (one_cons (one_slice (hsh.row 2 rfl).slen) (one_cons (one_slice (hsh.row 0 rfl).slen) rfl))))) rfl ?_; intro a w578 hsh hst
           refine m_turn hsh (sub_sh [3, 3] rfl) ?_
           refine m_nil ?_
           intro w579 hsh
           refine qn_normal ?_
           refine then_normal ?_
           exact ⟨g567, v540, l539, v575, l574, H, hst.keep _ ⟨rfl, rfl, rfl, rfl, rfl, trivial⟩, hsh.pick [4, 3, 0, 1, 0]⟩
       · refine ld_loud ?_
         intro w580 hsh
         refine r_buildSlice (vs := []) (cs := []) hst hsh trivial rfl Try.underlying26 el_45 rfl rfl (by simp [Value.cells]) rfl rfl ?_
         intro g581 a w582 hgg581 hsh hst
         replace hsh := hsh.pick [0, 0, 0, 0]
         replace hsh : SH (fun _ => False) w w582 [Row k_Added 45 (.slice (some ⟨g581, 0, none⟩) 0 0) ([]), Row k_Place 41 (.slice (some ⟨g535, 0, none⟩) 0 0) ([]), Row (Kd.slice 43 k_File) 39 v11 r9, Box g1 [.int .i64 a1.Log, .int .i64 a1.Next, .int .u64 a1.Seq, va1_0, va1_1] 28] := SH.boxRow ([] : List Added) hsh rfl rfl rfl
         refine m_on (MB := [Row (Kd.slice 43 k_File) 39 v11 r9, Box g1 [.int .i64 a1.Log, .int .i64 a1.Next, .int .u64 a1.Seq, va1_0, va1_1] 28]) [2, 2] [0, 0] rfl rfl hsh rfl (sub_sh [0, 0] rfl) ?_
         refine t_alt ?_
         refine m_alt ?_ ?_
         · refine ld_loud ?_
           intro w584 hsh
           replace hsh := hsh.pick [1, 0, 0, 0]
           obtain ⟨l585, hl585, H⟩ := Option.bind_eq_some_iff.1 H
           refine r_appendN (M := [Row k_Added 45 (.slice (some ⟨g581, 0, none⟩) 0 0) ([]), Row (Kd.slice 43 k_File) 39 v11 r9, Box g1 [.int .i64 a1.Log, .int .i64 a1.Next, .int .u64 a1.Seq, va1_0, va1_1] 28]) hst hsh trivial rfl Try.underlying25 el_41 (by decide) (by decide) (by decide) rfl rfl (flat_flat _ _ _ _) hra1_0 (Same.sh0 hsa1_0 hsh) hl585 ?_
           intro v586 a w587 hsh hst
           refine m_on (MB := [Row k_Place 41 v586 l585, Row (Kd.slice 43 k_File) 39 v11 r9, Box g1 [.int .i64 a1.Log, .int .i64 a1.Next, .int .u64 a1.Seq, va1_0, va1_1] 28]) [0, 1, 1] [1, 1] rfl rfl hsh rfl (sub_sh [0, 0] rfl) ?_
           refine t_alt ?_
           refine m_alt ?_ ?_
           · refine ld_loud ?_
             intro w588 hsh
             replace hsh := hsh.pick [1, 0, 0, 0]
             obtain ⟨l589, hl589, H⟩ := Option.bind_eq_some_iff.1 H
             refine r_appendN (M := [Row k_Place 41 v586 l585, Row (Kd.slice 43 k_File) 39 v11 r9, Box g1 [.int .i64 a1.Log, .int .i64 a1.Next, .int .u64 a1.Seq, va1_0, va1_1] 28]) hst hsh trivial rfl Try.underlying26 el_45 (by decide) (by decide) (by decide) rfl rfl (flat_flat _ _ _ _) hra1_1 (Same.sh0 hsa1_1 hsh) hl589 ?_
             intro v590 a w591 hsh hst
             refine m_on (MB := [Row k_Added 45 v590 l589, Row k_Place 41 v586 l585, Row (Kd.slice 43 k_File) 39 v11 r9, Box g1 [.int .i64 a1.Log, .int .i64 a1.Next, .int .u64 a1.Seq, va1_0, va1_1] 28]) [0, 0, 0, 0] [1, 1, 1] rfl rfl hsh rfl (sub_sh [1, 1] rfl) ?_
             refine t_fin ?_
             refine m_t hst trivial rfl (fun _ hsh => x_build (cs := [.int .i64 a1.Log, .int .i64 a1.Next, .int .u64 a1.Seq, v586, v590]) hst rfl (by obtain ⟨_, _, e0⟩ := (hsh.row 1 rfl).slen; obtain ⟨_, _, e1⟩ := (hsh.row 0 rfl).slen; rw [e0, e1]; kernel_rfl)) ?_; intro a hst
             refine m_loud (.inl rfl) ?_
             intro w592 hsh
             refine r_alloc hst hsh trivial rfl zr_28 ?_
             intro g593 a w594 hgg593 hsh hst
             refine m_on (MB := [Box g593 [.int .i64 0, .int .i64 0, .int .u64 0, (.slice none 0 0), (.slice none 0 0)] 28, Row k_Added 45 v590 l589, Row k_Place 41 v586 l585, Row (Kd.slice 43 k_File) 39 v11 r9, Box g1 [.int .i64 a1.Log, .int .i64 a1.Next, .int .u64 a1.Seq, va1_0, va1_1] 28]) [0, 0, 0, 0, 0] [1, 1, 1, 1] rfl rfl hsh rfl (sub_sh [2, 2] rfl) ?_
             refine m_loud (.inr rfl) ?_
             intro w595 hsh
             refine r_storeBs (i := 0) (cs' := [.int .i64 a1.Log, .int .i64 a1.Next, .int .u64 a1.Seq, v586, v590]) (vs := [.int .i64 a1.Log, .int .i64 a1.Next, .int .u64 a1.Seq, v586, v590]) hst hsh trivial ag_28 rfl rfl rfl rfl (one_cons rfl (one_cons rfl (one_cons rfl (one_cons (one_slice (hsh.row 2 rfl).slen) (one_cons (one_slice (hsh.row 1 rfl).slen) rfl))))) rfl ?_; intro a w596 hsh hst
             refine m_turn hsh (sub_sh [3, 3] rfl) ?_
             refine m_nil ?_
             intro w597 hsh
             refine qn_normal ?_
             refine then_normal ?_
             exact ⟨g593, v586, l585, v590, l589, H, hst.keep _ ⟨rfl, rfl, rfl, rfl, rfl, trivial⟩, hsh.pick [4, 3, 0, 1, 0]⟩
           · refine ld_loud ?_
             intro w598 hsh
             refine r_alloc hst hsh trivial rfl zr_28 ?_
             intro g599 a w600 hgg599 hsh hst
             refine m_on (MB := [Box g599 [.int .i64 0, .int .i64 0, .int .u64 0, (.slice none 0 0), (.slice none 0 0)] 28, Row k_Place 41 v586 l585, Row (Kd.slice 43 k_File) 39 v11 r9, Box g1 [.int .i64 a1.Log, .int .i64 a1.Next, .int .u64 a1.Seq, va1_0, va1_1] 28]) [0, 0, 1, 1] [1, 1, 1] rfl rfl hsh rfl (sub_sh [1, 1] rfl) ?_
             refine t_fin ?_
             refine m_loud (.inl rfl) ?_
             intro w601 hsh
             replace hsh := hsh.pick [2, 0, 0, 0, 0]
             obtain ⟨l602, hl602, H⟩ := Option.bind_eq_some_iff.1 H
             refine r_appendN (M := [Box g599 [.int .i64 0, .int .i64 0, .int .u64 0, (.slice none 0 0), (.slice none 0 0)] 28, Row k_Place 41 v586 l585, Row (Kd.slice 43 k_File) 39 v11 r9, Box g1 [.int .i64 a1.Log, .int .i64 a1.Next, .int .u64 a1.Seq, va1_0, va1_1] 28]) hst hsh trivial rfl Try.underlying26 el_45 (by decide) (by decide) (by decide) rfl rfl (flat_flat _ _ _ _) hra1_1 (Same.sh0 hsa1_1 hsh) hl602 ?_
             intro v603 a w604 hsh hst
             refine m_on (MB := [Row k_Added 45 v603 l602, Box g599 [.int .i64 0, .int .i64 0, .int .u64 0, (.slice none 0 0), (.slice none 0 0)] 28, Row k_Place 41 v586 l585, Row (Kd.slice 43 k_File) 39 v11 r9, Box g1 [.int .i64 a1.Log, .int .i64 a1.Next, .int .u64 a1.Seq, va1_0, va1_1] 28]) [0, 0, 0, 0, 0] [1, 1, 1, 1] rfl rfl hsh rfl (sub_sh [2, 2] rfl) ?_
             refine m_t hst trivial rfl (fun _ hsh => x_build (cs := [.int .i64 a1.Log, .int .i64 a1.Next, .int .u64 a1.Seq, v586, v603]) hst rfl (by obtain ⟨_, _, e0⟩ := (hsh.row 2 rfl).slen; obtain ⟨_, _, e1⟩ := (hsh.row 0 rfl).slen; rw [e0, e1]; kernel_rfl)) ?_; intro a hst
             refine m_loud (.inr rfl) ?_
             intro w605 hsh
             refine r_storeBs (i := 1) (cs' := [.int .i64 a1.Log, .int .i64 a1.Next, .int .u64 a1.Seq, v586, v603]) (vs := [.int .i64 a1.Log, .int .i64 a1.Next, .int .u64 a1.Seq, v586, v603]) hst hsh trivial ag_28 rfl rfl rfl rfl (one_cons rfl (one_cons rfl (one_cons rfl (one_cons (one_slice (hsh.row 2 rfl).slen) (one_cons (one_slice (hsh.row 0 rfl).slen) rfl))))) rfl ?_; intro a w606 hsh hst
             refine m_turn hsh (sub_sh [3, 3] rfl) ?_
             refine m_nil ?_
             intro w607 hsh
             refine qn_normal ?_
             refine then_normal ?_
             exact ⟨g599, v586, l585, v603, l602, H, hst.keep _ ⟨rfl, rfl, rfl, rfl, rfl, trivial⟩, hsh.pick [4, 3, 0, 1, 0]⟩
         · refine ld_loud ?_
           intro w608 hsh
           refine r_alloc hst hsh trivial rfl zr_28 ?_
           intro g609 a w610 hgg609 hsh hst
           refine m_on (MB := [Box g609 [.int .i64 0, .int .i64 0, .int .u64 0, (.slice none 0 0), (.slice none 0 0)] 28, Row (Kd.slice 43 k_File) 39 v11 r9, Box g1 [.int .i64 a1.Log, .int .i64 a1.Next, .int .u64 a1.Seq, va1_0, va1_1] 28]) [0, 2, 2] [1, 1] rfl rfl hsh rfl (sub_sh [0, 0] rfl) ?_
           refine t_fin ?_
           refine m_loud (.inl rfl) ?_
           intro w611 hsh
           replace hsh := hsh.pick [2, 0, 0, 0, 0]
           obtain ⟨l612, hl612, H⟩ := Option.bind_eq_some_iff.1 H
           refine r_appendN (M := [Box g609 [.int .i64 0, .int .i64 0, .int .u64 0, (.slice none 0 0), (.slice none 0 0)] 28, Row k_Added 45 (.slice (some ⟨g581, 0, none⟩) 0 0) ([]), Row (Kd.slice 43 k_File) 39 v11 r9, Box g1 [.int .i64 a1.Log, .int .i64 a1.Next, .int .u64 a1.Seq, va1_0, va1_1] 28]) hst hsh trivial rfl Try.underlying25 el_41 (by decide) (by decide) (by decide) rfl rfl (flat_flat _ _ _ _) hra1_0 (Same.sh0 hsa1_0 hsh) hl612 ?_
           intro v613 a w614 hsh hst
           refine m_on (MB := [Row k_Place 41 v613 l612, Box g609 [.int .i64 0, .int .i64 0, .int .u64 0, (.slice none 0 0), (.slice none 0 0)] 28, Row (Kd.slice 43 k_File) 39 v11 r9, Box g1 [.int .i64 a1.Log, .int .i64 a1.Next, .int .u64 a1.Seq, va1_0, va1_1] 28]) [0, 0, 1, 1] [1, 1, 1] rfl rfl hsh rfl (sub_sh [1, 1] rfl) ?_
           refine m_loud (.inl rfl) ?_
           intro w615 hsh
           replace hsh := hsh.pick [2, 0, 0, 0, 0]
           obtain ⟨l616, hl616, H⟩ := Option.bind_eq_some_iff.1 H
           refine r_appendN (M := [Row k_Place 41 v613 l612, Box g609 [.int .i64 0, .int .i64 0, .int .u64 0, (.slice none 0 0), (.slice none 0 0)] 28, Row (Kd.slice 43 k_File) 39 v11 r9, Box g1 [.int .i64 a1.Log, .int .i64 a1.Next, .int .u64 a1.Seq, va1_0, va1_1] 28]) hst hsh trivial rfl Try.underlying26 el_45 (by decide) (by decide) (by decide) rfl rfl (flat_flat _ _ _ _) hra1_1 (Same.sh0 hsa1_1 hsh) hl616 ?_
           intro v617 a w618 hsh hst
           refine m_on (MB := [Row k_Added 45 v617 l616, Row k_Place 41 v613 l612, Box g609 [.int .i64 0, .int .i64 0, .int .u64 0, (.slice none 0 0), (.slice none 0 0)] 28, Row (Kd.slice 43 k_File) 39 v11 r9, Box g1 [.int .i64 a1.Log, .int .i64 a1.Next, .int .u64 a1.Seq, va1_0, va1_1] 28]) [0, 0, 0, 0, 0] [1, 1, 1, 1] rfl rfl hsh rfl (sub_sh [2, 2] rfl) ?_
           refine m_t hst trivial rfl (fun _ hsh => x_build (cs := [.int .i64 a1.Log, .int .i64 a1.Next, .int .u64 a1.Seq, v613, v617]) hst rfl (by obtain ⟨_, _, e0⟩ := (hsh.row 1 rfl).slen; obtain ⟨_, _, e1⟩ := (hsh.row 0 rfl).slen; rw [e0, e1]; kernel_rfl)) ?_; intro a hst
           refine m_loud (.inr rfl) ?_
           intro w619 hsh
           refine r_storeBs (i := 2) (cs' := [.int .i64 a1.Log, .int .i64 a1.Next, .int .u64 a1.Seq, v613, v617]) (vs := [.int .i64 a1.Log, .int .i64 a1.Next, .int .u64 a1.Seq, v613, v617]) hst hsh trivial ag_28 rfl rfl rfl rfl (one_cons rfl (one_cons rfl (one_cons rfl (one_cons (one_slice (hsh.row 1 rfl).slen) (one_cons (one_slice (hsh.row 0 rfl).slen) rfl))))) rfl ?_; intro a w620 hsh hst
           refine m_turn hsh (sub_sh [3, 3] rfl) ?_
           refine m_nil ?_
           intro w621 hsh
           refine qn_normal ?_
           refine then_normal ?_
           exact ⟨g609, v613, l612, v617, l616, H, hst.keep _ ⟨rfl, rfl, rfl, rfl, rfl, trivial⟩, hsh.pick [4, 3, 0, 1, 0]⟩
       · refine ld_loud ?_
         intro w622 hsh
         refine r_alloc hst hsh trivial rfl zr_28 ?_
         intro g623 a w624 hgg623 hsh hst
         refine m_on (MB := [Box g623 [.int .i64 0, .int .i64 0, .int .u64 0, (.slice none 0 0), (.slice none 0 0)] 28, Row (Kd.slice 43 k_File) 39 v11 r9, Box g1 [.int .i64 a1.Log, .int .i64 a1.Next, .int .u64 a1.Seq, va1_0, va1_1] 28]) [0, 1, 1] [1, 1] rfl rfl hsh rfl (sub_sh [0, 0] rfl) ?_
         refine t_alt ?_
         refine m_alt ?_ ?_
         · refine ld_loud ?_
           intro w625 hsh
           replace hsh := hsh.pick [1, 0, 0, 0]
           obtain ⟨l626, hl626, H⟩ := Option.bind_eq_some_iff.1 H
           refine r_appendN (M := [Box g623 [.int .i64 0, .int .i64 0, .int .u64 0, (.slice none 0 0), (.slice none 0 0)] 28, Row (Kd.slice 43 k_File) 39 v11 r9, Box g1 [.int .i64 a1.Log, .int .i64 a1.Next, .int .u64 a1.Seq, va1_0, va1_1] 28]) hst hsh trivial rfl Try.underlying25 el_41 (by decide) (by decide) (by decide) rfl rfl (flat_flat _ _ _ _) hra1_0 (Same.sh0 hsa1_0 hsh) hl626 ?_
           intro v627 a w628 hsh hst
           refine m_on (MB := [Row k_Place 41 v627 l626, Box g623 [.int .i64 0, .int .i64 0, .int .u64 0, (.slice none 0 0), (.slice none 0 0)] 28, Row (Kd.slice 43 k_File) 39 v11 r9, Box g1 [.int .i64 a1.Log, .int .i64 a1.Next, .int .u64 a1.Seq, va1_0, va1_1] 28]) [0, 0, 0, 0] [1, 1, 1] rfl rfl hsh rfl (sub_sh [1, 1] rfl) ?_
           refine t_fin ?_
           refine m_loud (.inl rfl) ?_
           intro w629 hsh
           refine r_buildSlice (vs := []) (cs := []) hst hsh trivial rfl Try.underlying26 el_45 rfl rfl (by simp [Value.cells]) rfl rfl ?_
           intro g630 a w631 hgg630 hsh hst
           replace hsh := hsh.pick [0, 0, 0, 0, 0]
           replace hsh : SH (fun _ => False) w w631 [Row k_Added 45 (.slice (some ⟨g630, 0, none⟩) 0 0) ([]), Row k_Place 41 v627 l626, Box g623 [.int .i64 0, .int .i64 0, .int .u64 0, (.slice none 0 0), (.slice none 0 0)] 28, Row (Kd.slice 43 k_File) 39 v11 r9, Box g1 [.int .i64 a1.Log, .int .i64 a1.Next, .int .u64 a1.Seq, va1_0, va1_1] 28] := SH.boxRow ([] : List Added) hsh rfl rfl rfl
           refine m_on (MB := [Row k_Place 41 v627 l626, Box g623 [.int .i64 0, .int .i64 0, .int .u64 0, (.slice none 0 0), (.slice none 0 0)] 28, Row (Kd.slice 43 k_File) 39 v11 r9, Box g1 [.int .i64 a1.Log, .int .i64 a1.Next, .int .u64 a1.Seq, va1_0, va1_1] 28]) [1, 1, 1, 1] [0, 0, 0, 0] rfl rfl hsh rfl (sub_sh [2, 2] rfl) ?_
           refine m_loud (.inl rfl) ?_
           intro w633 hsh
           replace hsh := hsh.pick [0, 0, 0, 0, 0]
           obtain ⟨l634, hl634, H⟩ := Option.bind_eq_some_iff.1 H
           refine r_appendN (M := [Row k_Place 41 v627 l626, Box g623 [.int .i64 0, .int .i64 0, .int .u64 0, (.slice none 0 0), (.slice none 0 0)] 28, Row (Kd.slice 43 k_File) 39 v11 r9, Box g1 [.int .i64 a1.Log, .int .i64 a1.Next, .int .u64 a1.Seq, va1_0, va1_1] 28]) hst hsh trivial rfl Try.underlying26 el_45 (by decide) (by decide) (by decide) rfl rfl (flat_flat _ _ _ _) hra1_1 (Same.sh0 hsa1_1 hsh) hl634 ?_
           intro v635 a w636 hsh hst
           refine m_on (MB := [Row k_Added 45 v635 l634, Row k_Place 41 v627 l626, Box g623 [.int .i64 0, .int .i64 0, .int .u64 0, (.slice none 0 0), (.slice none 0 0)] 28, Row (Kd.slice 43 k_File) 39 v11 r9, Box g1 [.int .i64 a1.Log, .int .i64 a1.Next, .int .u64 a1.Seq, va1_0, va1_1] 28]) [0, 0, 0, 0, 0] [1, 1, 1, 1] rfl rfl hsh rfl (sub_sh [2, 2] rfl) ?_
           refine m_t hst trivial rfl (fun _ hsh => x_build (cs := [.int .i64 a1.Log, .int .i64 a1.Next, .int .u64 a1.Seq, v627, v635]) hst rfl (by obtain ⟨_, _, e0⟩ := (hsh.row 1 rfl).slen; obtain ⟨_, _, e1⟩ := (hsh.row 0 rfl).slen; rw [e0, e1]; kernel_rfl)) ?_; intro a hst
           refine m_loud (.inr rfl) ?_
           intro w637 hsh
           refine r_storeBs (i := 2) (cs' := [.int .i64 a1.Log, .int .i64 a1.Next, .int .u64 a1.Seq, v627, v635]) (vs := [.int .i64 a1.Log, .int .i64 a1.Next, .int .u64 a1.Seq, v627, v635]) hst hsh trivial ag_28 rfl rfl rfl rfl (one_cons rfl (one_cons rfl (one_cons rfl (one_cons (one_slice (hsh.row 1 rfl).slen) (one_cons (one_slice (hsh.row 0 rfl).slen) rfl))))) rfl ?_; intro a w638 hsh hst
           refine m_turn hsh (sub_sh [3, 3] rfl) ?_
           refine m_nil ?_
           intro w639 hsh
           refine qn_normal ?_
           refine then_normal ?_
           exact ⟨g623, v627, l626, v635, l634, H, hst.keep _ ⟨rfl, rfl, rfl, rfl, rfl, trivial⟩, hsh.pick [4, 3, 0, 1, 0]⟩
         · refine ld_loud ?_
           intro w640 hsh
           refine r_buildSlice (vs := []) (cs := []) hst hsh trivial rfl Try.underlying26 el_45 rfl rfl (by simp [Value.cells]) rfl rfl ?_
           intro g641 a w642 hgg641 hsh hst
           replace hsh := hsh.pick [0, 0, 0, 0, 0]
           replace hsh : SH (fun _ => False) w w642 [Row k_Added 45 (.slice (some ⟨g641, 0, none⟩) 0 0) ([]), Box g623 [.int .i64 0, .int .i64 0, .int .u64 0, (.slice none 0 0), (.slice none 0 0)] 28, Row k_Place 41 (.slice (some ⟨g535, 0, none⟩) 0 0) ([]), Row (Kd.slice 43 k_File) 39 v11 r9, Box g1 [.int .i64 a1.Log, .int .i64 a1.Next, .int .u64 a1.Seq, va1_0, va1_1] 28] := SH.boxRow ([] : List Added) hsh rfl rfl rfl
           refine m_on (MB := [Box g623 [.int .i64 0, .int .i64 0, .int .u64 0, (.slice none 0 0), (.slice none 0 0)] 28, Row (Kd.slice 43 k_File) 39 v11 r9, Box g1 [.int .i64 a1.Log, .int .i64 a1.Next, .int .u64 a1.Seq, va1_0, va1_1] 28]) [1, 2, 2] [0, 0, 0] rfl rfl hsh rfl (sub_sh [1, 1] rfl) ?_
           refine t_fin ?_
           refine m_loud (.inl rfl) ?_
           intro w644 hsh
           replace hsh := hsh.pick [2, 0, 0, 0, 0]
           obtain ⟨l645, hl645, H⟩ := Option.bind_eq_some_iff.1 H
           refine r_appendN (M := [Row k_Added 45 (.slice (some ⟨g641, 0, none⟩) 0 0) ([]), Box g623 [.int .i64 0, .int .i64 0, .int .u64 0, (.slice none 0 0), (.slice none 0 0)] 28, Row (Kd.slice 43 k_File) 39 v11 r9, Box g1 [.int .i64 a1.Log, .int .i64 a1.Next, .int .u64 a1.Seq, va1_0, va1_1] 28]) hst hsh trivial rfl Try.underlying25 el_41 (by decide) (by decide) (by decide) rfl rfl (flat_flat _ _ _ _) hra1_0 (Same.sh0 hsa1_0 hsh) hl645 ?_
           intro v646 a w647 hsh hst
           refine m_on (MB := [Row k_Place 41 v646 l645, Box g623 [.int .i64 0, .int .i64 0, .int .u64 0, (.slice none 0 0), (.slice none 0 0)] 28, Row (Kd.slice 43 k_File) 39 v11 r9, Box g1 [.int .i64 a1.Log, .int .i64 a1.Next, .int .u64 a1.Seq, va1_0, va1_1] 28]) [0, 1, 1, 1] [1, 1, 1] rfl rfl hsh rfl (sub_sh [1, 1] rfl) ?_
           refine m_loud (.inl rfl) ?_
           intro w648 hsh
           replace hsh := hsh.pick [1, 0, 0, 0, 0]
           obtain ⟨l649, hl649, H⟩ := Option.bind_eq_some_iff.1 H
           refine r_appendN (M := [Row k_Place 41 v646 l645, Box g623 [.int .i64 0, .int .i64 0, .int .u64 0, (.slice none 0 0), (.slice none 0 0)] 28, Row (Kd.slice 43 k_File) 39 v11 r9, Box g1 [.int .i64 a1.Log, .int .i64 a1.Next, .int .u64 a1.Seq, va1_0, va1_1] 28]) hst hsh trivial rfl Try.underlying26 el_45 (by decide) (by decide) (by decide) rfl rfl (flat_flat _ _ _ _) hra1_1 (Same.sh0 hsa1_1 hsh) hl649 ?_
           intro v650 a w651 hsh hst
           refine m_on (MB := [Row k_Added 45 v650 l649, Row k_Place 41 v646 l645, Box g623 [.int .i64 0, .int .i64 0, .int .u64 0, (.slice none 0 0), (.slice none 0 0)] 28, Row (Kd.slice 43 k_File) 39 v11 r9, Box g1 [.int .i64 a1.Log, .int .i64 a1.Next, .int .u64 a1.Seq, va1_0, va1_1] 28]) [0, 0, 0, 0, 0] [1, 1, 1, 1] rfl rfl hsh rfl (sub_sh [2, 2] rfl) ?_
           refine m_t hst trivial rfl (fun _ hsh => x_build (cs := [.int .i64 a1.Log, .int .i64 a1.Next, .int .u64 a1.Seq, v646, v650]) hst rfl (by obtain ⟨_, _, e0⟩ := (hsh.row 1 rfl).slen; obtain ⟨_, _, e1⟩ := (hsh.row 0 rfl).slen; rw [e0, e1]; kernel_rfl)) ?_; intro a hst
           refine m_loud (.inr rfl) ?_
           intro w652 hsh
           refine r_storeBs (i := 2) (cs' := [.int .i64 a1.Log, .int .i64 a1.Next, .int .u64 a1.Seq, v646, v650]) (vs := [.int .i64 a1.Log, .int .i64 a1.Next, .int .u64 a1.Seq, v646, v650]) hst hsh trivial ag_28 rfl rfl rfl rfl (one_cons rfl (one_cons rfl (one_cons rfl (one_cons (one_slice (hsh.row 1 rfl).slen) (one_cons (one_slice (hsh.row 0 rfl).slen) rfl))))) rfl ?_; intro a w653 hsh hst
           refine m_turn hsh (sub_sh [3, 3] rfl) ?_
           refine m_nil ?_
           intro w654 hsh
           refine qn_normal ?_
           refine then_normal ?_
           exact ⟨g623, v646, l645, v650, l649, H, hst.keep _ ⟨rfl, rfl, rfl, rfl, rfl, trivial⟩, hsh.pick [4, 3, 0, 1, 0]⟩
     · refine ld_loud ?_
       intro w655 hsh
       refine r_buildSlice (vs := []) (cs := []) hst hsh trivial rfl Try.underlying26 el_45 rfl rfl (by simp [Value.cells]) rfl rfl ?_
       intro g656 a w657 hgg656 hsh hst
       replace hsh := hsh.pick [0, 0, 0]
       replace hsh : SH (fun _ => False) w w657 [Row k_Added 45 (.slice (some ⟨g656, 0, none⟩) 0 0) ([]), Row (Kd.slice 43 k_File) 39 v11 r9, Box g1 [.int .i64 a1.Log, .int .i64 a1.Next, .int .u64 a1.Seq, va1_0, va1_1] 28] := SH.boxRow ([] : List Added) hsh rfl rfl rfl
       refine m_on (MB := [Row (Kd.slice 43 k_File) 39 v11 r9, Box g1 [.int .i64 a1.Log, .int .i64 a1.Next, .int .u64 a1.Seq, va1_0, va1_1] 28]) [1, 1] [0, 0] rfl rfl hsh rfl (sub_sh [0, 0] rfl) ?_
       refine t_alt ?_
       refine m_alt ?_ ?_
       · refine ld_loud ?_
         intro w659 hsh
         refine r_buildSlice (vs := []) (cs := []) hst hsh trivial rfl Try.underlying25 el_41 rfl rfl (by simp [Value.cells]) rfl rfl ?_
         intro g660 a w661 hgg660 hsh hst
         replace hsh := hsh.pick [0, 0, 0, 0]
         replace hsh : SH (fun _ => False) w w661 [Row k_Place 41 (.slice (some ⟨g660, 0, none⟩) 0 0) ([]), Row k_Added 45 (.slice (some ⟨g656, 0, none⟩) 0 0) ([]), Row (Kd.slice 43 k_File) 39 v11 r9, Box g1 [.int .i64 a1.Log, .int .i64 a1.Next, .int .u64 a1.Seq, va1_0, va1_1] 28] := SH.boxRow ([] : List Place) hsh rfl rfl rfl
         refine m_on (MB := [Row (Kd.slice 43 k_File) 39 v11 r9, Box g1 [.int .i64 a1.Log, .int .i64 a1.Next, .int .u64 a1.Seq, va1_0, va1_1] 28]) [2, 2] [0, 0] rfl rfl hsh rfl (sub_sh [0, 0] rfl) ?_
         refine t_alt ?_
         refine m_alt ?_ ?_
         · refine ld_loud ?_
           intro w663 hsh
           replace hsh := hsh.pick [0, 0, 0, 0]
           obtain ⟨l664, hl664, H⟩ := Option.bind_eq_some_iff.1 H
           refine r_appendN (M := [Row k_Added 45 (.slice (some ⟨g656, 0, none⟩) 0 0) ([]), Row (Kd.slice 43 k_File) 39 v11 r9, Box g1 [.int .i64 a1.Log, .int .i64 a1.Next, .int .u64 a1.Seq, va1_0, va1_1] 28]) hst hsh trivial rfl Try.underlying25 el_41 (by decide) (by decide) (by decide) rfl rfl (flat_flat _ _ _ _) hra1_0 (Same.sh0 hsa1_0 hsh) hl664 ?_
           intro v665 a w666 hsh hst
           refine m_on (MB := [Row k_Place 41 v665 l664, Row (Kd.slice 43 k_File) 39 v11 r9, Box g1 [.int .i64 a1.Log, .int .i64 a1.Next, .int .u64 a1.Seq, va1_0, va1_1] 28]) [0, 1, 1] [1, 1] rfl rfl hsh rfl (sub_sh [0, 0] rfl) ?_
           refine t_alt ?_
           refine m_alt ?_ ?_
           · refine ld_loud ?_
             intro w667 hsh
             replace hsh := hsh.pick [1, 0, 0, 0]
             obtain ⟨l668, hl668, H⟩ := Option.bind_eq_some_iff.1 H
             refine r_appendN (M := [Row k_Place 41 v665 l664, Row (Kd.slice 43 k_File) 39 v11 r9, Box g1 [.int .i64 a1.Log, .int .i64 a1.Next, .int .u64 a1.Seq, va1_0, va1_1] 28]) hst hsh trivial rfl Try.underlying26 el_45 (by decide) (by decide) (by decide) rfl rfl (flat_flat _ _ _ _) hra1_1 (Same.sh0 hsa1_1 hsh) hl668 ?_
             intro v669 a w670 hsh hst
             refine m_on (MB := [Row k_Added 45 v669 l668, Row k_Place 41 v665 l664, Row (Kd.slice 43 k_File) 39 v11 r9, Box g1 [.int .i64 a1.Log, .int .i64 a1.Next, .int .u64 a1.Seq, va1_0, va1_1] 28]) [0, 0, 0, 0] [1, 1, 1] rfl rfl hsh rfl (sub_sh [1, 1] rfl) ?_
             refine t_fin ?_
             refine m_t hst trivial rfl (fun _ hsh => x_build (cs := [.int .i64 a1.Log, .int .i64 a1.Next, .int .u64 a1.Seq, v665, v669]) hst rfl (by obtain ⟨_, _, e0⟩ := (hsh.row 1 rfl).slen; obtain ⟨_, _, e1⟩ := (hsh.row 0 rfl).slen; rw [e0, e1]; kernel_rfl)) ?_; intro a hst
             refine m_loud (.inl rfl) ?_
             intro w671 hsh
             refine r_alloc hst hsh trivial rfl zr_28 ?_
             intro g672 a w673 hgg672 hsh hst
             refine m_on (MB := [Box g672 [.int .i64 0, .int .i64 0, .int .u64 0, (.slice none 0 0), (.slice none 0 0)] 28, Row k_Added 45 v669 l668, Row k_Place 41 v665 l664, Row (Kd.slice 43 k_File) 39 v11 r9, Box g1 [.int .i64 a1.Log, .int .i64 a1.Next, .int .u64 a1.Seq, va1_0, va1_1] 28]) [0, 0, 0, 0, 0] [1, 1, 1, 1] rfl rfl hsh rfl (sub_sh [2, 2] rfl) ?_
             refine m_loud (.inr rfl) ?_
             intro w674 hsh
             refine r_storeBs (i := 0) (cs' := [.int .i64 a1.Log, .int .i64 a1.Next, .int .u64 a1.Seq, v665, v669]) (vs := [.int .i64 a1.Log, .int .i64 a1.Next, .int .u64 a1.Seq, v665, v669]) hst hsh trivial ag_28 rfl rfl rfl rfl (one_cons rfl (one_cons rfl (one_cons rfl (one_cons (one_slice (hsh.row 2 rfl).slen) (one_cons (one_slice (hsh.row 1 rfl).slen) rfl))))) rfl ?_; intro a w675 hsh hst
             refine m_turn hsh (sub_sh [3, 3] rfl) ?_
             refine m_nil ?_
             intro w676 hsh
             refine qn_normal ?_
             refine then_normal ?_
             exact ⟨g672, v665, l664, v669, l668, H, hst.keep _ ⟨rfl, rfl, rfl, rfl, rfl, trivial⟩, hsh.pick [4, 3, 0, 1, 0]⟩
           · refine ld_loud ?_
             intro w677 hsh
             refine r_alloc hst hsh trivial rfl zr_28 ?_
             intro g678 a w679 hgg678 hsh hst
             refine m_on (MB := [Box g678 [.int .i64 0, .int .i64 0, .int .u64 0, (.slice none 0 0), (.slice none 0 0)] 28, Row k_Place 41 v665 l664, Row (Kd.slice 43 k_File) 39 v11 r9, Box g1 [.int .i64 a1.Log, .int .i64 a1.Next, .int .u64 a1.Seq, va1_0, va1_1] 28]) [0, 0, 1, 1] [1, 1, 1] rfl rfl hsh rfl (sub_sh [1, 1] rfl) ?_
             refine t_fin ?_
             refine m_loud (.inl rfl) ?_
             intro w680 hsh
             replace hsh := hsh.pick [2, 0, 0, 0, 0]
             obtain ⟨l681, hl681, H⟩ := Option.bind_eq_some_iff.1 H
             refine r_appendN (M := [Box g678 [.int .i64 0, .int .i64 0, .int .u64 0, (.slice none 0 0), (.slice none 0 0)] 28, Row k_Place 41 v665 l664, Row (Kd.slice 43 k_File) 39 v11 r9, Box g1 [.int .i64 a1.Log, .int .i64 a1.Next, .int .u64 a1.Seq, va1_0, va1_1] 28]) hst hsh trivial rfl Try.underlying26 el_45 (by decide) (by decide) (by decide) rfl rfl (flat_flat _ _ _ _) hra1_1 (Same.sh0 hsa1_1 hsh) hl681 ?_
             intro v682 a w683 hsh hst
             refine m_on (MB := [Row k_Added 45 v682 l681, Box g678 [.int .i64 0, .int .i64 0, .int .u64 0, (.slice none 0 0), (.slice none 0 0)] 28, Row k_Place 41 v665 l664, Row (Kd.slice 43 k_File) 39 v11 r9, Box g1 [.int .i64 a1.Log, .int .i64 a1.Next, .int .u64 a1.Seq, va1_0, va1_1] 28]) [0, 0, 0, 0, 0] [1, 1, 1, 1] rfl rfl hsh rfl (sub_sh [2, 2] rfl) ?_
             refine m_t hst trivial rfl (fun _ hsh => x_build (cs := [.int .i64 a1.Log, .int .i64 a1.Next, .int .u64 a1.Seq, v665, v682]) hst rfl (by obtain ⟨_, _, e0⟩ := (hsh.row 2 rfl).slen; obtain ⟨_, _, e1⟩ := (hsh.row 0 rfl).slen; rw [e0, e1]; kernel_rfl)) ?_; intro a hst
             refine m_loud (.inr rfl) ?_
             intro w684 hsh
             refine r_storeBs (i := 1) (cs' := [.int .i64 a1.Log, .int .i64 a1.Next, .int .u64 a1.Seq, v665, v682]) (vs := [.int .i64 a1.Log, .int .i64 a1.Next, .int .u64 a1.Seq, v665, v682]) hst hsh trivial ag_28 rfl rfl rfl rfl (one_cons rfl (one_cons rfl (one_cons rfl (one_cons (one_slice (hsh.row 2 rfl).slen) (one_cons (one_slice (hsh.row 0 rfl).slen) rfl))))) rfl ?_; intro a w685 hsh hst
             refine m_turn hsh (sub_sh [3, 3] rfl) ?_
             refine m_nil ?_
             intro w686 hsh
             refine qn_normal ?_
             refine then_normal ?_
             exact ⟨g678, v665, l664, v682, l681, H, hst.keep _ ⟨rfl, rfl, rfl, rfl, rfl, trivial⟩, hsh.pick [4, 3, 0, 1, 0]⟩
         · refine ld_loud ?_
           intro w687 hsh
           refine r_alloc hst hsh trivial rfl zr_28 ?_
           intro g688 a w689 hgg688 hsh hst
           refine m_on (MB := [Box g688 [.int .i64 0, .int .i64 0, .int .u64 0, (.slice none 0 0), (.slice none 0 0)] 28, Row (Kd.slice 43 k_File) 39 v11 r9, Box g1 [.int .i64 a1.Log, .int .i64 a1.Next, .int .u64 a1.Seq, va1_0, va1_1] 28]) [0, 2, 2] [1, 1] rfl rfl hsh rfl (sub_sh [0, 0] rfl) ?_
           refine t_fin ?_
           refine m_loud (.inl rfl) ?_
           intro w690 hsh
           replace hsh := hsh.pick [1, 0, 0, 0, 0]
           obtain ⟨l691, hl691, H⟩ := Option.bind_eq_some_iff.1 H
           refine r_appendN (M := [Box g688 [.int .i64 0, .int .i64 0, .int .u64 0, (.slice none 0 0), (.slice none 0 0)] 28, Row k_Added 45 (.slice (some ⟨g656, 0, none⟩) 0 0) ([]), Row (Kd.slice 43 k_File) 39 v11 r9, Box g1 [.int .i64 a1.Log, .int .i64 a1.Next, .int .u64 a1.Seq, va1_0, va1_1] 28]) hst hsh trivial rfl Try.underlying25 el_41 (by decide) (by decide) (by decide) rfl rfl (flat_flat _ _ _ _) hra1_0 (Same.sh0 hsa1_0 hsh) hl691 ?_
           intro v692 a w693 hsh hst
           refine m_on (MB := [Row k_Place 41 v692 l691, Box g688 [.int .i64 0, .int .i64 0, .int .u64 0, (.slice none 0 0), (.slice none 0 0)] 28, Row (Kd.slice 43 k_File) 39 v11 r9, Box g1 [.int .i64 a1.Log, .int .i64 a1.Next, .int .u64 a1.Seq, va1_0, va1_1] 28]) [0, 0, 1, 1] [1, 1, 1] rfl rfl hsh rfl (sub_sh [1, 1] rfl) ?_
           refine m_loud (.inl rfl) ?_
           intro w694 hsh
           replace hsh := hsh.pick [2, 0, 0, 0, 0]
           obtain ⟨l695, hl695, H⟩ := Option.bind_eq_some_iff.1 H
           refine r_appendN (M := [Row k_Place 41 v692 l691, Box g688 [.int .i64 0, .int .i64 0, .int .u64 0, (.slice none 0 0), (.slice none 0 0)] 28, Row (Kd.slice 43 k_File) 39 v11 r9, Box g1 [.int .i64 a1.Log, .int .i64 a1.Next, .int .u64 a1.Seq, va1_0, va1_1] 28]) hst hsh trivial rfl Try.underlying26 el_45 (by decide) (by decide) (by decide) rfl rfl (flat_flat _ _ _ _) hra1_1 (Same.sh0 hsa1_1 hsh) hl695 ?_
           intro v696 a w697 hsh hst
           refine m_on (MB := [Row k_Added 45 v696 l695, Row k_Place 41 v692 l691, Box g688 [.int .i64 0, .int .i64 0, .int .u64 0, (.slice none 0 0), (.slice none 0 0)] 28, Row (Kd.slice 43 k_File) 39 v11 r9, Box g1 [.int .i64 a1.Log, .int .i64 a1.Next, .int .u64 a1.Seq, va1_0, va1_1] 28]) [0, 0, 0, 0, 0] [1, 1, 1, 1] rfl rfl hsh rfl (sub_sh [2, 2] rfl) ?_
           refine m_t hst trivial rfl (fun _ hsh => x_build (cs := [.int .i64 a1.Log, .int .i64 a1.Next, .int .u64 a1.Seq, v692, v696]) hst rfl (by obtain ⟨_, _, e0⟩ := (hsh.row 1 rfl).slen; obtain ⟨_, _, e1⟩ := (hsh.row 0 rfl).slen; rw [e0, e1]; kernel_rfl)) ?_; intro a hst
           refine m_loud (.inr rfl) ?_
           intro w698 hsh
           refine r_storeBs (i := 2) (cs' := [.int .i64 a1.Log, .int .i64 a1.Next, .int .u64 a1.Seq, v692, v696]) (vs := [.int .i64 a1.Log, .int .i64 a1.Next, .int .u64 a1.Seq, v692, v696]) hst hsh trivial ag_28 rfl rfl rfl rfl (one_cons rfl (one_cons rfl (one_cons rfl (one_cons (one_slice (hsh.row 1 rfl).slen) (one_cons (one_slice (hsh.row 0 rfl).slen) rfl))))) rfl ?_; intro a w699 hsh hst
           refine m_turn hsh (sub_sh [3, 3] rfl) ?_
           refine m_nil ?_
           intro w700 hsh
           refine qn_normal ?_
           refine then_normal ?_
           exact ⟨g688, v692, l691, v696, l695, H, hst.keep _ ⟨rfl, rfl, rfl, rfl, rfl, trivial⟩, hsh.pick [4, 3, 0, 1, 0]⟩
       · refine ld_loud ?_
         intro w701 hsh
         refine r_alloc hst hsh trivial rfl zr_28 ?_
         intro g702 a w703 hgg702 hsh hst
         refine m_on (MB := [Box g702 [.int .i64 0, .int .i64 0, .int .u64 0, (.slice none 0 0), (.slice none 0 0)] 28, Row (Kd.slice 43 k_File) 39 v11 r9, Box g1 [.int .i64 a1.Log, .int .i64 a1.Next, .int .u64 a1.Seq, va1_0, va1_1] 28]) [0, 1, 1] [1, 1] rfl rfl hsh rfl (sub_sh [0, 0] rfl) ?_
         refine t_fin ?_
         refine m_loud (.inl rfl) ?_
         intro w704 hsh
         refine r_buildSlice (vs := []) (cs := []) hst hsh trivial rfl Try.underlying25 el_41 rfl rfl (by simp [Value.cells]) rfl rfl ?_
         intro g705 a w706 hgg705 hsh hst
         replace hsh := hsh.pick [0, 0, 0, 0, 0]
         replace hsh : SH (fun _ => False) w w706 [Row k_Place 41 (.slice (some ⟨g705, 0, none⟩) 0 0) ([]), Box g702 [.int .i64 0, .int .i64 0, .int .u64 0, (.slice none 0 0), (.slice none 0 0)] 28, Row k_Added 45 (.slice (some ⟨g656, 0, none⟩) 0 0) ([]), Row (Kd.slice 43 k_File) 39 v11 r9, Box g1 [.int .i64 a1.Log, .int .i64 a1.Next, .int .u64 a1.Seq, va1_0, va1_1] 28] := SH.boxRow ([] : List Place) hsh rfl rfl rfl
         refine m_on (MB := [Box g702 [.int .i64 0, .int .i64 0, .int .u64 0, (.slice none 0 0), (.slice none 0 0)] 28, Row (Kd.slice 43 k_File) 39 v11 r9, Box g1 [.int .i64 a1.Log, .int .i64 a1.Next, .int .u64 a1.Seq, va1_0, va1_1] 28]) [1, 2, 2] [0, 0, 0] rfl rfl hsh rfl (sub_sh [1, 1] rfl) ?_
         refine m_loud (.inl rfl) ?_
         intro w708 hsh
         replace hsh := hsh.pick [0, 0, 0, 0, 0]
         obtain ⟨l709, hl709, H⟩ := Option.bind_eq_some_iff.1 H
         refine r_appendN (M := [Box g702 [.int .i64 0, .int .i64 0, .int .u64 0, (.slice none 0 0), (.slice none 0 0)] 28, Row k_Added 45 (.slice (some ⟨g656, 0, none⟩) 0 0) ([]), Row (Kd.slice 43 k_File) 39 v11 r9, Box g1 [.int .i64 a1.Log, .int .i64 a1.Next, .int .u64 a1.Seq, va1_0, va1_1] 28]) hst hsh trivial rfl Try.underlying25 el_41 (by decide) (by decide) (by decide) rfl rfl (flat_flat _ _ _ _) hra1_0 (Same.sh0 hsa1_0 hsh) hl709 ?_
         intro v710 a w711 hsh hst
         refine m_on (MB := [Row k_Place 41 v710 l709, Box g702 [.int .i64 0, .int .i64 0, .int .u64 0, (.slice none 0 0), (.slice none 0 0)] 28, Row (Kd.slice 43 k_File) 39 v11 r9, Box g1 [.int .i64 a1.Log, .int .i64 a1.Next, .int .u64 a1.Seq, va1_0, va1_1] 28]) [0, 0, 1, 1] [1, 1, 1] rfl rfl hsh rfl (sub_sh [1, 1] rfl) ?_
         refine m_loud (.inl rfl) ?_
         intro w712 hsh
         replace hsh := hsh.pick [2, 0, 0, 0, 0]
         obtain ⟨l713, hl713, H⟩ := Option.bind_eq_some_iff.1 H
         refine r_appendN (M := [Row k_Place 41 v710 l709, Box g702 [.int .i64 0, .int .i64 0, .int .u64 0, (.slice none 0 0), (.slice none 0 0)] 28, Row (Kd.slice 43 k_File) 39 v11 r9, Box g1 [.int .i64 a1.Log, .int .i64 a1.Next, .int .u64 a1.Seq, va1_0, va1_1] 28]) hst hsh trivial rfl Try.underlying26 el_45 (by decide) (by decide) (by decide) rfl rfl (flat_flat _ _ _ _) hra1_1 (Same.sh0 hsa1_1 hsh) hl713 ?_
         intro v714 a w715 hsh hst
         refine m_on (MB := [Row k_Added 45 v714 l713, Row k_Place 41 v710 l709, Box g702 [.int .i64 0, .int .i64 0, .int .u64 0, (.slice none 0 0), (.slice none 0 0)] 28, Row (Kd.slice 43 k_File) 39 v11 r9, Box g1 [.int .i64 a1.Log, .int .i64 a1.Next, .int .u64 a1.Seq, va1_0, va1_1] 28]) [0, 0, 0, 0, 0] [1, 1, 1, 1] rfl rfl hsh rfl (sub_sh [2, 2] rfl) ?_
         refine m_t hst trivial rfl (fun _ hsh => x_build (cs := [.int .i64 a1.Log, .int .i64 a1.Next, .int .u64 a1.Seq, v710, v714]) hst rfl (by obtain ⟨_, _, e0⟩ := (hsh.row 1 rfl).slen; obtain ⟨_, _, e1⟩ := (hsh.row 0 rfl).slen; rw [e0, e1]; kernel_rfl)) ?_; intro a hst
         refine m_loud (.inr rfl) ?_
         intro w716 hsh
         refine r_storeBs (i := 2) (cs' := [.int .i64 a1.Log, .int .i64 a1.Next, .int .u64 a1.Seq, v710, v714]) (vs := [.int .i64 a1.Log, .int .i64 a1.Next, .int .u64 a1.Seq, v710, v714]) hst hsh trivial ag_28 rfl rfl rfl rfl (one_cons rfl (one_cons rfl (one_cons rfl (one_cons (one_slice (hsh.row 1 rfl).slen) (one_cons (one_slice (hsh.row 0 rfl).slen) rfl))))) rfl ?_; intro a w717 hsh hst
         refine m_turn hsh (sub_sh [3, 3] rfl) ?_
         refine m_nil ?_
         intro w718 hsh
         refine qn_normal ?_
         refine then_normal ?_
         exact ⟨g702, v710, l709, v714, l713, H, hst.keep _ ⟨rfl, rfl, rfl, rfl, rfl, trivial⟩, hsh.pick [4, 3, 0, 1, 0]⟩
     · refine ld_loud ?_
       intro w719 hsh
       refine r_alloc hst hsh trivial rfl zr_28 ?_
       intro g720 a w721 hgg720 hsh hst
       refine m_on (MB := [Box g720 [.int .i64 0, .int .i64 0, .int .u64 0, (.slice none 0 0), (.slice none 0 0)] 28, Row (Kd.slice 43 k_File) 39 v11 r9, Box g1 [.int .i64 a1.Log, .int .i64 a1.Next, .int .u64 a1.Seq, va1_0, va1_1] 28]) [0, 0, 0] [1, 1] rfl rfl hsh rfl (sub_sh [0, 0] rfl) ?_
       refine t_alt ?_
       refine m_alt ?_ ?_
       · refine ld_loud ?_
         intro w722 hsh
         refine r_buildSlice (vs := []) (cs := []) hst hsh trivial rfl Try.underlying25 el_41 rfl rfl (by simp [Value.cells]) rfl rfl ?_
         intro g723 a w724 hgg723 hsh hst
         replace hsh := hsh.pick [0, 0, 0, 0]
         replace hsh : SH (fun _ => False) w w724 [Row k_Place 41 (.slice (some ⟨g723, 0, none⟩) 0 0) ([]), Box g720 [.int .i64 0, .int .i64 0, .int .u64 0, (.slice none 0 0), (.slice none 0 0)] 28, Row (Kd.slice 43 k_File) 39 v11 r9, Box g1 [.int .i64 a1.Log, .int .i64 a1.Next, .int .u64 a1.Seq, va1_0, va1_1] 28] := SH.boxRow ([] : List Place) hsh rfl rfl rfl
         refine m_on (MB := [Box g720 [.int .i64 0, .int .i64 0, .int .u64 0, (.slice none 0 0), (.slice none 0 0)] 28, Row (Kd.slice 43 k_File) 39 v11 r9, Box g1 [.int .i64 a1.Log, .int .i64 a1.Next, .int .u64 a1.Seq, va1_0, va1_1] 28]) [1, 1, 1] [0, 0, 0] rfl rfl hsh rfl (sub_sh [1, 1] rfl) ?_
         refine t_alt ?_
         refine m_alt ?_ ?_
         · refine ld_loud ?_
           intro w726 hsh
           replace hsh := hsh.pick [0, 0, 0, 0]
           obtain ⟨l727, hl727, H⟩ := Option.bind_eq_some_iff.1 H
           refine r_appendN (M := [Box g720 [.int .i64 0, .int .i64 0, .int .u64 0, (.slice none 0 0), (.slice none 0 0)] 28, Row (Kd.slice 43 k_File) 39 v11 r9, Box g1 [.int .i64 a1.Log, .int .i64 a1.Next, .int .u64 a1.Seq, va1_0, va1_1] 28]) hst hsh trivial rfl Try.underlying25 el_41 (by decide) (by decide) (by decide) rfl rfl (flat_flat _ _ _ _) hra1_0 (Same.sh0 hsa1_0 hsh) hl727 ?_
           intro v728 a w729 hsh hst
           refine m_on (MB := [Row k_Place 41 v728 l727, Box g720 [.int .i64 0, .int .i64 0, .int .u64 0, (.slice none 0 0), (.slice none 0 0)] 28, Row (Kd.slice 43 k_File) 39 v11 r9, Box g1 [.int .i64 a1.Log, .int .i64 a1.Next, .int .u64 a1.Seq, va1_0, va1_1] 28]) [0, 0, 0, 0] [1, 1, 1] rfl rfl hsh rfl (sub_sh [1, 1] rfl) ?_
           refine t_fin ?_
           refine m_loud (.inl rfl) ?_
           intro w730 hsh
           refine r_buildSlice (vs := []) (cs := []) hst hsh trivial rfl Try.underlying26 el_45 rfl rfl (by simp [Value.cells]) rfl rfl ?_
           intro g731 a w732 hgg731 hsh hst
           replace hsh := hsh.pick [0, 0, 0, 0, 0]
           replace hsh : SH (fun _ => False) w w732 [Row k_Added 45 (.slice (some ⟨g731, 0, none⟩) 0 0) ([]), Row k_Place 41 v728 l727, Box g720 [.int .i64 0, .int .i64 0, .int .u64 0, (.slice none 0 0), (.slice none 0 0)] 28, Row (Kd.slice 43 k_File) 39 v11 r9, Box g1 [.int .i64 a1.Log, .int .i64 a1.Next, .int .u64 a1.Seq, va1_0, va1_1] 28] := SH.boxRow ([] : List Added) hsh rfl rfl rfl
           refine m_on (MB := [Row k_Place 41 v728 l727, Box g720 [.int .i64 0, .int .i64 0, .int .u64 0, (.slice none 0 0), (.slice none 0 0)] 28, Row (Kd.slice 43 k_File) 39 v11 r9, Box g1 [.int .i64 a1.Log, .int .i64 a1.Next, .int .u64 a1.Seq, va1_0, va1_1] 28]) [1, 1, 1, 1] [0, 0, 0, 0] rfl rfl hsh rfl (sub_sh [2, 2] rfl) ?_
           refine m_loud (.inl rfl) ?_
           intro w734 hsh
           replace hsh := hsh.pick [0, 0, 0, 0, 0]
           obtain ⟨l735, hl735, H⟩ := Option.bind_eq_some_iff.1 H
           refine r_appendN (M := [Row k_Place 41 v728 l727, Box g720 [.int .i64 0, .int .i64 0, .int .u64 0, (.slice none 0 0), (.slice none 0 0)] 28, Row (Kd.slice 43 k_File) 39 v11 r9, Box g1 [.int .i64 a1.Log, .int .i64 a1.Next, .int .u64 a1.Seq, va1_0, va1_1] 28]) hst hsh trivial rfl Try.underlying26 el_45 (by decide) (by decide) (by decide) rfl rfl (flat_flat _ _ _ _) hra1_1 (Same.sh0 hsa1_1 hsh) hl735 ?_
           intro v736 a w737 hsh hst
           refine m_on (MB := [Row k_Added 45 v736 l735, Row k_Place 41 v728 l727, Box g720 [.int .i64 0, .int .i64 0, .int .u64 0, (.slice none 0 0), (.slice none 0 0)] 28, Row (Kd.slice 43 k_File) 39 v11 r9, Box g1 [.int .i64 a1.Log, .int .i64 a1.Next, .int .u64 a1.Seq, va1_0, va1_1] 28]) [0, 0, 0, 0, 0] [1, 1, 1, 1] rfl rfl hsh rfl (sub_sh [2, 2] rfl) ?_
           refine m_t hst trivial rfl (fun _ hsh => x_build (cs := [.int .i64 a1.Log, .int .i64 a1.Next, .int .u64 a1.Seq, v728, v736]) hst rfl (by obtain ⟨_, _, e0⟩ := (hsh.row 1 rfl).slen; obtain ⟨_, _, e1⟩ := (hsh.row 0 rfl).slen; rw [e0, e1]; kernel_rfl)) ?_; intro a hst
           refine m_loud (.inr rfl) ?_
           intro w738 hsh
           refine r_storeBs (i := 2) (cs' := [.int .i64 a1.Log, .int .i64 a1.Next, .int .u64 a1.Seq, v728, v736]) (vs := [.int .i64 a1.Log, .int .i64 a1.Next, .int .u64 a1.Seq, v728, v736]) hst hsh trivial ag_28 rfl rfl rfl rfl (one_cons rfl (one_cons rfl (one_cons rfl (one_cons (one_slice (hsh.row 1 rfl).slen) (one_cons (one_slice (hsh.row 0 rfl).slen) rfl))))) rfl ?_; intro a w739 hsh hst
           refine m_turn hsh (sub_sh [3, 3] rfl) ?_
           refine m_nil ?_
           intro w740 hsh
           refine qn_normal ?_
           refine then_normal ?_
           exact ⟨g720, v728, l727, v736, l735, H, hst.keep _ ⟨rfl, rfl, rfl, rfl, rfl, trivial⟩, hsh.pick [4, 3, 0, 1, 0]⟩
         · refine ld_loud ?_
           intro w741 hsh
           refine r_buildSlice (vs := []) (cs := []) hst hsh trivial rfl Try.underlying26 el_45 rfl rfl (by simp [Value.cells]) rfl rfl ?_
           intro g742 a w743 hgg742 hsh hst
           replace hsh := hsh.pick [0, 0, 0, 0, 0]
           replace hsh : SH (fun _ => False) w w743 [Row k_Added 45 (.slice (some ⟨g742, 0, none⟩) 0 0) ([]), Row k_Place 41 (.slice (some ⟨g723, 0, none⟩) 0 0) ([]), Box g720 [.int .i64 0, .int .i64 0, .int .u64 0, (.slice none 0 0), (.slice none 0 0)] 28, Row (Kd.slice 43 k_File) 39 v11 r9, Box g1 [.int .i64 a1.Log, .int .i64 a1.Next, .int .u64 a1.Seq, va1_0, va1_1] 28] := SH.boxRow ([] : List Added) hsh rfl rfl rfl
           refine m_on (MB := [Box g720 [.int .i64 0, .int .i64 0, .int .u64 0, (.slice none 0 0), (.slice none 0 0)] 28, Row (Kd.slice 43 k_File) 39 v11 r9, Box g1 [.int .i64 a1.Log, .int .i64 a1.Next, .int .u64 a1.Seq, va1_0, va1_1] 28]) [2, 2, 2] [0, 0, 0] rfl rfl hsh rfl (sub_sh [1, 1] rfl) ?_
           refine t_fin ?_
           refine m_loud (.inl rfl) ?_
           intro w745 hsh
           replace hsh := hsh.pick [1, 0, 0, 0, 0]
           obtain ⟨l746, hl746, H⟩ := Option.bind_eq_some_iff.1 H
           refine r_appendN (M := [Row k_Added 45 (.slice (some ⟨g742, 0, none⟩) 0 0) ([]), Box g720 [.int .i64 0, .int .i64 0, .int .u64 0, (.slice none 0 0), (.slice none 0 0)] 28, Row (Kd.slice 43 k_File) 39 v11 r9, Box g1 [.int .i64 a1.Log, .int .i64 a1.Next, .int .u64 a1.Seq, va1_0, va1_1] 28]) hst hsh trivial rfl Try.underlying25 el_41 (by decide) (by decide) (by decide) rfl rfl (flat_flat _ _ _ _) hra1_0 (Same.sh0 hsa1_0 hsh) hl746 ?_
           intro v747 a w748 hsh hst
           refine m_on (MB := [Row k_Place 41 v747 l746, Box g720 [.int .i64 0, .int .i64 0, .int .u64 0, (.slice none 0 0), (.slice none 0 0)] 28, Row (Kd.slice 43 k_File) 39 v11 r9, Box g1 [.int .i64 a1.Log, .int .i64 a1.Next, .int .u64 a1.Seq, va1_0, va1_1] 28]) [0, 1, 1, 1] [1, 1, 1] rfl rfl hsh rfl (sub_sh [1, 1] rfl) ?_
           refine m_loud (.inl rfl) ?_
           intro w749 hsh
           replace hsh := hsh.pick [1, 0, 0, 0, 0]
           obtain ⟨l750, hl750, H⟩ := Option.bind_eq_some_iff.1 H
           refine r_appendN (M := [Row k_Place 41 v747 l746, Box g720 [.int .i64 0, .int .i64 0, .int .u64 0, (.slice none 0 0), (.slice none 0 0)] 28, Row (Kd.slice 43 k_File) 39 v11 r9, Box g1 [.int .i64 a1.Log, .int .i64 a1.Next, .int .u64 a1.Seq, va1_0, va1_1] 28]) hst hsh trivial rfl Try.underlying26 el_45 (by decide) (by decide) (by decide) rfl rfl (flat_flat _ _ _ _) hra1_1 (Same.sh0 hsa1_1 hsh) hl750 ?_
           intro v751 a w752 hsh hst
           refine m_on (MB := [Row k_Added 45 v751 l750, Row k_Place 41 v747 l746, Box g720 [.int .i64 0, .int .i64 0, .int .u64 0, (.slice none 0 0), (.slice none 0 0)] 28, Row (Kd.slice 43 k_File) 39 v11 r9, Box g1 [.int .i64 a1.Log, .int .i64 a1.Next, .int .u64 a1.Seq, va1_0, va1_1] 28]) [0, 0, 0, 0, 0] [1, 1, 1, 1] rfl rfl hsh rfl (sub_sh [2, 2] rfl) ?_
           refine m_t hst trivial rfl (fun _ hsh => x_build (cs := [.int .i64 a1.Log, .int .i64 a1.Next, .int .u64 a1.Seq, v747, v751]) hst rfl (by obtain ⟨_, _, e0⟩ := (hsh.row 1 rfl).slen; obtain ⟨_, _, e1⟩ := (hsh.row 0 rfl).slen; rw [e0, e1]; kernel_rfl)) ?_; intro a hst
           refine m_loud (.inr rfl) ?_
           intro w753 hsh
           refine r_storeBs (i := 2) (cs' := [.int .i64 a1.Log, .int .i64 a1.Next, .int .u64 a1.Seq, v747, v751]) (vs := [.int .i64 a1.Log, .int .i64 a1.Next, .int .u64 a1.Seq, v747, v751]) hst hsh trivial ag_28 rfl rfl rfl rfl (one_cons rfl (one_cons rfl (one_cons rfl (one_cons (one_slice (hsh.row 1 rfl).slen) (one_cons (one_slice (hsh.row 0 rfl).slen) rfl))))) rfl ?_; intro a w754 hsh hst
           refine m_turn hsh (sub_sh [3, 3] rfl) ?_
           refine m_nil ?_
           intro w755 hsh
           refine qn_normal ?_
           refine then_normal ?_
           exact ⟨g720, v747, l746, v751, l750, H, hst.keep _ ⟨rfl, rfl, rfl, rfl, rfl, trivial⟩, hsh.pick [4, 3, 0, 1, 0]⟩
       · refine ld_loud ?_
         intro w756 hsh
         refine r_buildSlice (vs := []) (cs := []) hst hsh trivial rfl Try.underlying26 el_45 rfl rfl (by simp [Value.cells]) rfl rfl ?_
         intro g757 a w758 hgg757 hsh hst
         replace hsh := hsh.pick [0, 0, 0, 0]
         replace hsh : SH (fun _ => False) w w758 [Row k_Added 45 (.slice (some ⟨g757, 0, none⟩) 0 0) ([]), Box g720 [.int .i64 0, .int .i64 0, .int .u64 0, (.slice none 0 0), (.slice none 0 0)] 28, Row (Kd.slice 43 k_File) 39 v11 r9, Box g1 [.int .i64 a1.Log, .int .i64 a1.Next, .int .u64 a1.Seq, va1_0, va1_1] 28] := SH.boxRow ([] : List Added) hsh rfl rfl rfl
         refine m_on (MB := [Box g720 [.int .i64 0, .int .i64 0, .int .u64 0, (.slice none 0 0), (.slice none 0 0)] 28, Row (Kd.slice 43 k_File) 39 v11 r9, Box g1 [.int .i64 a1.Log, .int .i64 a1.Next, .int .u64 a1.Seq, va1_0, va1_1] 28]) [1, 1, 1] [0, 0, 0] rfl rfl hsh rfl (sub_sh [1, 1] rfl) ?_
         refine t_fin ?_
         refine m_loud (.inl rfl) ?_
         intro w760 hsh
         refine r_buildSlice (vs := []) (cs := []) hst hsh trivial rfl Try.underlying25 el_41 rfl rfl (by simp [Value.cells]) rfl rfl ?_
         intro g761 a w762 hgg761 hsh hst
         replace hsh := hsh.pick [0, 0, 0, 0, 0]
         replace hsh : SH (fun _ => False) w w762 [Row k_Place 41 (.slice (some ⟨g761, 0, none⟩) 0 0) ([]), Row k_Added 45 (.slice (some ⟨g757, 0, none⟩) 0 0) ([]), Box g720 [.int .i64 0, .int .i64 0, .int .u64 0, (.slice none 0 0), (.slice none 0 0)] 28, Row (Kd.slice 43 k_File) 39 v11 r9, Box g1 [.int .i64 a1.Log, .int .i64 a1.Next, .int .u64 a1.Seq, va1_0, va1_1] 28] := SH.boxRow ([] : List Place) hsh rfl rfl rfl
         refine m_on (MB := [Box g720 [.int .i64 0, .int .i64 0, .int .u64 0, (.slice none 0 0), (.slice none 0 0)] 28, Row (Kd.slice 43 k_File) 39 v11 r9, Box g1 [.int .i64 a1.Log, .int .i64 a1.Next, .int .u64 a1.Seq, va1_0, va1_1] 28]) [2, 2, 2] [0, 0, 0] rfl rfl hsh rfl (sub_sh [1, 1] rfl) ?_
         refine m_loud (.inl rfl) ?_
         intro w764 hsh
         replace hsh := hsh.pick [0, 0, 0, 0, 0]
         obtain ⟨l765, hl765, H⟩ := Option.bind_eq_some_iff.1 H
         refine r_appendN (M := [Row k_Added 45 (.slice (some ⟨g757, 0, none⟩) 0 0) ([]), Box g720 [.int .i64 0, .int .i64 0, .int .u64 0, (.slice none 0 0), (.slice none 0 0)] 28, Row (Kd.slice 43 k_File) 39 v11 r9, Box g1 [.int .i64 a1.Log, .int .i64 a1.Next, .int .u64 a1.Seq, va1_0, va1_1] 28]) hst hsh trivial rfl Try.underlying25 el_41 (by decide) (by decide) (by decide) rfl rfl (flat_flat _ _ _ _) hra1_0 (Same.sh0 hsa1_0 hsh) hl765 ?_
         intro v766 a w767 hsh hst
         refine m_on (MB := [Row k_Place 41 v766 l765, Box g720 [.int .i64 0, .int .i64 0, .int .u64 0, (.slice none 0 0), (.slice none 0 0)] 28, Row (Kd.slice 43 k_File) 39 v11 r9, Box g1 [.int .i64 a1.Log, .int .i64 a1.Next, .int .u64 a1.Seq, va1_0, va1_1] 28]) [0, 1, 1, 1] [1, 1, 1] rfl rfl hsh rfl (sub_sh [1, 1] rfl) ?_
         refine m_loud (.inl rfl) ?_
         intro w768 hsh
         replace hsh := hsh.pick [1, 0, 0, 0, 0]
         obtain ⟨l769, hl769, H⟩ := Option.bind_eq_some_iff.1 H
         refine r_appendN (M := [Row k_Place 41 v766 l765, Box g720 [.int .i64 0, .int .i64 0, .int .u64 0, (.slice none 0 0), (.slice none 0 0)] 28, Row (Kd.slice 43 k_File) 39 v11 r9, Box g1 [.int .i64 a1.Log, .int .i64 a1.Next, .int .u64 a1.Seq, va1_0, va1_1] 28]) hst hsh trivial rfl Try.underlying26 el_45 (by decide) (by decide) (by decide) rfl rfl (flat_flat _ _ _ _) hra1_1 (Same.sh0 hsa1_1 hsh) hl769 ?_
         intro v770 a w771 hsh hst
         refine m_on (MB := [Row k_Added 45 v770 l769, Row k_Place 41 v766 l765, Box g720 [.int .i64 0, .int .i64 0, .int .u64 0, (.slice none 0 0), (.slice none 0 0)] 28, Row (Kd.slice 43 k_File) 39 v11 r9, Box g1 [.int .i64 a1.Log, .int .i64 a1.Next, .int .u64 a1.Seq, va1_0, va1_1] 28]) [0, 0, 0, 0, 0] [1, 1, 1, 1] rfl rfl hsh rfl (sub_sh [2, 2] rfl) ?_
         refine m_t hst trivial rfl (fun _ hsh => x_build (cs := [.int .i64 a1.Log, .int .i64 a1.Next, .int .u64 a1.Seq, v766, v770]) hst rfl (by obtain ⟨_, _, e0⟩ := (hsh.row 1 rfl).slen; obtain ⟨_, _, e1⟩ := (hsh.row 0 rfl).slen; rw [e0, e1]; kernel_rfl)) ?_; intro a hst
         refine m_loud (.inr rfl) ?_
         intro w772 hsh
         refine r_storeBs (i := 2) (cs' := [.int .i64 a1.Log, .int .i64 a1.Next, .int .u64 a1.Seq, v766, v770]) (vs := [.int .i64 a1.Log, .int .i64 a1.Next, .int .u64 a1.Seq, v766, v770]) hst hsh trivial ag_28 rfl rfl rfl rfl (one_cons rfl (one_cons rfl (one_cons rfl (one_cons (one_slice (hsh.row 1 rfl).slen) (one_cons (one_slice (hsh.row 0 rfl).slen) rfl))))) rfl ?_; intro a w773 hsh hst
         refine m_turn hsh (sub_sh [3, 3] rfl) ?_
         refine m_nil ?_
         intro w774 hsh
         refine qn_normal ?_
         refine then_normal ?_
         exact ⟨g720, v766, l765, v770, l769, H, hst.keep _ ⟨rfl, rfl, rfl, rfl, rfl, trivial⟩, hsh.pick [4, 3, 0, 1, 0]⟩
end Go.Proofs.Ytbbepmmelpabbaa.Mo
