/- Printed by gen.py: contracts. -/
import Derived.Test.YtbbepmmelpabbaaVerCa0
set_option linter.unusedVariables false
set_option linter.unusedSectionVars false
set_option linter.unusedSimpArgs false
set_option maxRecDepth 100000
namespace Go.Proofs.Ytbbepmmelpabbaa.Mo
open Go Go.Proofs.Ytbbepmmelpabbaa.Sy
open Go.Proofs
set_option maxHeartbeats 4000000 in
set_option maxRecDepth 100000 in
theorem slices_symMergeCmpFunc_File.calls (k : Nat) : ∀ (w : World) (GG : Nat → Prop) (va0 : Value) (a0 : (List File)) (a1 : Int) (a2 : Int) (a3 : Int) (va4 : Value) (Za4 : Nat → Prop) (wra4 : World) (hsa4 : Same Za4 wra4 w) (hda4 : ∀ k, Za4 k → k < wra4.heap.size → ¬ GG k) (a4 : (File → File → Option Int)) (hra4 : ∀ (w : World) (x0 : File) (x1 : File) (r : Int), Same Za4 wra4 w → a4 x0 x1 = some r → CallsV Try.prog va4 [.agg #[.int .i64 x0.Number, .int .i64 x0.Size, .string x0.Least, .string x0.Limit, .int .u64 x0.Low, .int .u64 x0.High], .agg #[.int .i64 x1.Number, .int .i64 x1.Size, .string x1.Least, .string x1.Limit, .int .u64 x1.Low, .int .u64 x1.High]] w (fun e w'' => e = .returned (.int .i64 r) ∧ SH (fun _ => False) w w'' [])) (hsep : Sep GG w [Row k_File 43 va0 a0]) (r : (List File)) (h : slices_symMergeCmpFunc_File k a0 a1 a2 a3 a4 = some r),
    Calls Try.prog 82 ([va0, .int .i64 a1, .int .i64 a2, .int .i64 a3, va4] : List Value).toArray w fun e w' => e = .returned (.tuple #[]) ∧ SH GG w w' [Row k_File 43 va0 r] := by
 induction k with
 | zero =>
  intros
  rename_i h
  rw [slices_symMergeCmpFunc_File] at h
  cases h
 | succ k ih =>
  intro w GG va0 a0 a1 a2 a3 va4 Za4 wra4 hsa4 hda4 a4 hra4 hsep r h
  have H := h
  clear h
  rw [slices_symMergeCmpFunc_File] at H
  refine calls_enter Try.func82 rfl rfl ?_
  intro a hst
  have hsh := SH.start hsep
  obtain ⟨J_52, hJ_52, H⟩ := Jn.elim H
  refine wq_cut (fun a w' => J_52 = some r ∧ ST [] Try.f82.ntmps a [(0, va0), (1, .int .i64 a1), (2, .int .i64 a2), (3, .int .i64 a3), (4, va4)] ∧ SH GG w w' [Row k_File 43 va0 a0]) ?_ ?_
  · rintro a W_51 ⟨H, hst, hsh⟩
    subst hJ_52
    obtain ⟨J_104, hJ_104, H⟩ := Jn.elim H
    refine wq_cut (fun a w' => J_104 = some r ∧ ST [] Try.f82.ntmps a [(0, va0), (1, .int .i64 a1), (2, .int .i64 a2), (3, .int .i64 a3), (4, va4)] ∧ SH GG w w' [Row k_File 43 va0 a0]) ?_ ?_
    · rintro a W_103 ⟨H, hst, hsh⟩
      subst hJ_104
      refine wq_seq ?_
      refine wq_region_lit (.inl rfl) ?_
      refine r_t hst trivial rfl (x_move hst rfl) ?_; intro a hst
      refine r_t hst trivial rfl (x_move hst rfl) ?_; intro a hst
      refine r_t hst trivial rfl (x_arI (r := w64 (a1 + a3)) hst rfl rfl rfl) ?_; intro a hst
      refine r_t hst trivial rfl (x_convI hst Try.underlying3 Try.underlying88 rfl) ?_; intro a hst
      refine r_t hst trivial rfl (x_shr hst rfl rfl (by decide) (by decide)) ?_; intro a hst
      refine r_t hst trivial rfl (x_convI hst Try.underlying88 Try.underlying3 rfl) ?_; intro a hst
      refine r_t hst trivial rfl (x_assign hst rfl) ?_; intro a hst
      refine wpL_nil ?_
      refine then_normal ?_
      refine wq_seq ?_
      refine wq_region_lit (.inl rfl) ?_
      refine r_t hst trivial rfl (x_move hst rfl) ?_; intro a hst
      refine r_t hst trivial rfl (x_move hst rfl) ?_; intro a hst
      refine r_t hst trivial rfl (x_arI (r := w64 ((w64 ((wu64 (w64 (a1 + a3))) / 2 ^ (Int.toNat 1))) + a2)) hst rfl rfl rfl) ?_; intro a hst
      refine r_t hst trivial rfl (x_assign hst rfl) ?_; intro a hst
      refine wpL_nil ?_
      refine then_normal ?_
      refine wq_seq ?_
      refine wq_region_lit (.inl rfl) ?_
      refine r_t hst trivial rfl (x_assign hst rfl) ?_; intro a hst
      refine r_t hst trivial rfl (x_assign hst rfl) ?_; intro a hst
      refine wpL_nil ?_
      refine then_normal ?_
      obtain ⟨J_108, hJ_108, H⟩ := Jn.elim H
      refine wq_cut (fun a w' => ∃ (i_105 : Int), ∃ (i_106 : Int), J_108 i_105 i_106 = some r ∧ ST [] Try.f82.ntmps a [(0, va0), (1, .int .i64 a1), (2, .int .i64 a2), (3, .int .i64 a3), (4, va4), (18, .int .i64 (w64 ((wu64 (w64 (a1 + a3))) / 2 ^ (Int.toNat 1)))), (19, .int .i64 (w64 ((w64 ((wu64 (w64 (a1 + a3))) / 2 ^ (Int.toNat 1))) + a2))), (20, .int .i64 i_105), (21, .int .i64 i_106)] ∧ SH GG w w' [Row k_File 43 va0 a0]) ?_ ?_
      · rintro a W_107 ⟨i_105, i_106, H, hst, hsh⟩
        subst hJ_108
        dsimp only at H
        refine wq_seq ?_
        refine wq_region_lit (.inl rfl) ?_
        refine r_t hst trivial rfl (x_move hst rfl) ?_; intro a hst
        refine r_t hst trivial rfl (x_arI (r := w64 ((w64 ((w64 ((wu64 (w64 (a1 + a3))) / 2 ^ (Int.toNat 1))) + a2)) - 1)) hst rfl rfl rfl) ?_; intro a hst
        refine r_t hst trivial rfl (x_assign hst rfl) ?_; intro a hst
        refine wpL_nil ?_
        refine then_normal ?_
        obtain ⟨J_122, hJ_122, H⟩ := Jn.elim H
        refine wq_cut (fun a w' => ∃ (i_120 : Int), J_122 i_120 = some r ∧ ST [] Try.f82.ntmps a [(0, va0), (1, .int .i64 a1), (2, .int .i64 a2), (3, .int .i64 a3), (4, va4), (18, .int .i64 (w64 ((wu64 (w64 (a1 + a3))) / 2 ^ (Int.toNat 1)))), (19, .int .i64 (w64 ((w64 ((wu64 (w64 (a1 + a3))) / 2 ^ (Int.toNat 1))) + a2))), (20, .int .i64 i_120)] ∧ SH GG w w' [Row k_File 43 va0 a0]) ?_ ?_
        · rintro a W_121 ⟨i_120, H, hst, hsh⟩
          subst hJ_122
          dsimp only at H
          refine wq_seq ?_
          refine wq_region_lit (.inl rfl) ?_
          refine r_t hst trivial rfl (x_move hst rfl) ?_; intro a hst
          refine r_t hst trivial rfl (x_move hst rfl) ?_; intro a hst
          refine r_t hst trivial rfl (x_arI (r := w64 ((w64 ((w64 ((wu64 (w64 (a1 + a3))) / 2 ^ (Int.toNat 1))) + a2)) - i_120)) hst rfl rfl rfl) ?_; intro a hst
          refine r_t hst trivial rfl (x_assign hst rfl) ?_; intro a hst
          refine wpL_nil ?_
          refine then_normal ?_
          obtain ⟨J_125, hJ_125, H⟩ := Jn.elim H
          refine wq_cut (fun a w' => ∃ (l_123 : (List File)), J_125 l_123 = some r ∧ ST [] Try.f82.ntmps a [(0, va0), (1, .int .i64 a1), (3, .int .i64 a3), (4, va4), (18, .int .i64 (w64 ((wu64 (w64 (a1 + a3))) / 2 ^ (Int.toNat 1)))), (20, .int .i64 i_120), (24, .int .i64 (w64 ((w64 ((w64 ((wu64 (w64 (a1 + a3))) / 2 ^ (Int.toNat 1))) + a2)) - i_120)))] ∧ SH GG w w' [Row k_File 43 va0 l_123]) ?_ ?_
          · rintro a W_124 ⟨l_123, H, hst, hsh⟩
            subst hJ_125
            dsimp only at H
            obtain ⟨J_128, hJ_128, H⟩ := Jn.elim H
            refine wq_cut (fun a w' => ∃ (l_126 : (List File)), J_128 l_126 = some r ∧ ST [] Try.f82.ntmps a [(0, va0), (3, .int .i64 a3), (4, va4), (18, .int .i64 (w64 ((wu64 (w64 (a1 + a3))) / 2 ^ (Int.toNat 1)))), (24, .int .i64 (w64 ((w64 ((w64 ((wu64 (w64 (a1 + a3))) / 2 ^ (Int.toNat 1))) + a2)) - i_120)))] ∧ SH GG w w' [Row k_File 43 va0 l_126]) ?_ ?_
            · rintro a W_127 ⟨l_126, H, hst, hsh⟩
              subst hJ_128
              dsimp only at H
              refine wq_seq ?_
              refine wq_region_lit (.inl rfl) ?_
              refine r_t hst trivial rfl (x_move hst rfl) ?_; intro a hst
              refine r_t hst trivial rfl (x_move hst rfl) ?_; intro a hst
              refine r_t hst trivial rfl (x_cmpI (b := decide ((w64 ((wu64 (w64 (a1 + a3))) / 2 ^ (Int.toNat 1))) < (w64 ((w64 ((w64 ((wu64 (w64 (a1 + a3))) / 2 ^ (Int.toNat 1))) + a2)) - i_120)))) hst rfl rfl rfl) ?_; intro a hst
              refine r_t hst trivial rfl (x_move hst rfl) ?_; intro a hst
              refine wl_join0 (Δ := []) (N := Try.f82.ntmps) 8 [(0, va0), (3, .int .i64 a3), (4, va4), (18, .int .i64 (w64 ((wu64 (w64 (a1 + a3))) / 2 ^ (Int.toNat 1)))), (24, .int .i64 (w64 ((w64 ((w64 ((wu64 (w64 (a1 + a3))) / 2 ^ (Int.toNat 1))) + a2)) - i_120))), (213, .bool ((decide ((w64 ((wu64 (w64 (a1 + a3))) / 2 ^ (Int.toNat 1))) < (w64 ((w64 ((w64 ((wu64 (w64 (a1 + a3))) / 2 ^ (Int.toNat 1))) + a2)) - i_120)))) && (decide ((w64 ((w64 ((w64 ((wu64 (w64 (a1 + a3))) / 2 ^ (Int.toNat 1))) + a2)) - i_120)) < a3))))] ?_ ?_
              · intro a hst
                refine wpL_nil ?_
                refine then_normal ?_
                by_cases c423 : ((decide ((w64 ((wu64 (w64 (a1 + a3))) / 2 ^ (Int.toNat 1))) < (w64 ((w64 ((w64 ((wu64 (w64 (a1 + a3))) / 2 ^ (Int.toNat 1))) + a2)) - i_120)))) && (decide ((w64 ((w64 ((w64 ((wu64 (w64 (a1 + a3))) / 2 ^ (Int.toNat 1))) + a2)) - i_120)) < a3))) = true
                · rw [if_pos c423] at H
                  refine wq_condT hst rfl c423 ?_
                  refine wq_region_lit (.inl rfl) ?_
                  refine r_t hst trivial rfl (x_move hst rfl) ?_; intro a hst
                  refine r_t hst trivial rfl (x_move hst rfl) ?_; intro a hst
                  refine r_t hst trivial rfl (x_move hst rfl) ?_; intro a hst
                  refine r_t hst trivial rfl (x_move hst rfl) ?_; intro a hst
                  refine r_t hst trivial rfl (x_move hst rfl) ?_; intro a hst
                  replace hsh := hsh.pick [0]
                  obtain ⟨GG426, hsp, hG, hbx, hfx, hk⟩ := SH.callD (L1 := [Row k_File 43 va0 l_126]) (L2 := []) hsh
                  obtain ⟨r424, hr424, H⟩ := Option.bind_eq_some_iff.1 H
                  refine r_callD hst trivial rfl fn_82 rfl (ih _ GG426 _ l_126 (w64 ((wu64 (w64 (a1 + a3))) / 2 ^ (Int.toNat 1))) (w64 ((w64 ((w64 ((wu64 (w64 (a1 + a3))) / 2 ^ (Int.toNat 1))) + a2)) - i_120)) a3 va4 Za4 wra4 (Same.sh2 hsa4 hda4 hsh) (disj_own hsa4 hda4 hG) a4 hra4 hsp r424 hr424) ?_
                  rintro e w425 ⟨rfl, hc⟩
                  replace hsh := hk _ _ hc
                  clear hc
                  refine ⟨_, rfl, fun a hst => ?_⟩
                  refine wpL_nil ?_
                  obtain rfl := Option.some.inj H
                  exact end0 hst rfl ⟨rfl, hsh.pick [0]⟩
                · rw [if_neg c423] at H
                  replace c423 := Bool.eq_false_iff.2 c423
                  refine wq_condF hst rfl c423 ?_
                  refine wq_skip ?_
                  obtain rfl := Option.some.inj H
                  exact end0 hst rfl ⟨rfl, hsh.pick [0]⟩
              · intro hj
                by_cases c422 : (decide ((w64 ((wu64 (w64 (a1 + a3))) / 2 ^ (Int.toNat 1))) < (w64 ((w64 ((w64 ((wu64 (w64 (a1 + a3))) / 2 ^ (Int.toNat 1))) + a2)) - i_120)))) = true
                · refine r_t hst (wt_of 209 rfl rfl c422) rfl (x_move hst rfl) ?_; intro a hst
                  refine r_t hst (wt_of 209 rfl rfl c422) rfl (x_move hst rfl) ?_; intro a hst
                  refine r_t hst (wt_of 209 rfl rfl c422) rfl (x_cmpI (b := decide ((w64 ((w64 ((w64 ((wu64 (w64 (a1 + a3))) / 2 ^ (Int.toNat 1))) + a2)) - i_120)) < a3)) hst rfl rfl rfl) ?_; intro a hst
                  refine r_t hst trivial rfl (x_andT hst rfl c422 rfl) ?_; intro a hst
                  exact hj _ (hst.keep _ ⟨rfl, rfl, rfl, rfl, rfl, rfl, trivial⟩)
                · replace c422 := Bool.eq_false_iff.2 c422
                  refine r_not hst 209 rfl rfl c422 rfl ?_; intro a hst
                  refine r_not hst 209 rfl rfl c422 rfl ?_; intro a hst
                  refine r_not hst 209 rfl rfl c422 rfl ?_; intro a hst
                  refine r_t hst trivial rfl (x_andF (decide ((w64 ((w64 ((w64 ((wu64 (w64 (a1 + a3))) / 2 ^ (Int.toNat 1))) + a2)) - i_120)) < a3)) hst rfl c422 rfl) ?_; intro a hst
                  exact hj _ (hst.keep _ ⟨rfl, rfl, rfl, rfl, rfl, rfl, trivial⟩)
            · refine wq_seq ?_
              refine wq_region_lit (.inl rfl) ?_
              refine r_t hst trivial rfl (x_move hst rfl) ?_; intro a hst
              refine r_t hst trivial rfl (x_move hst rfl) ?_; intro a hst
              refine r_t hst trivial rfl (x_cmpI (b := decide (a1 < i_120)) hst rfl rfl rfl) ?_; intro a hst
              refine r_t hst trivial rfl (x_move hst rfl) ?_; intro a hst
              refine wl_join0 (Δ := []) (N := Try.f82.ntmps) 8 [(0, va0), (1, .int .i64 a1), (3, .int .i64 a3), (4, va4), (18, .int .i64 (w64 ((wu64 (w64 (a1 + a3))) / 2 ^ (Int.toNat 1)))), (20, .int .i64 i_120), (24, .int .i64 (w64 ((w64 ((w64 ((wu64 (w64 (a1 + a3))) / 2 ^ (Int.toNat 1))) + a2)) - i_120))), (199, .bool ((decide (a1 < i_120)) && (decide (i_120 < (w64 ((wu64 (w64 (a1 + a3))) / 2 ^ (Int.toNat 1)))))))] ?_ ?_
              · intro a hst
                refine wpL_nil ?_
                refine then_normal ?_
                by_cases c428 : ((decide (a1 < i_120)) && (decide (i_120 < (w64 ((wu64 (w64 (a1 + a3))) / 2 ^ (Int.toNat 1)))))) = true
                · rw [if_pos c428] at H
                  refine wq_condT hst rfl c428 ?_
                  refine wq_region_lit (.inl rfl) ?_
                  refine r_t hst trivial rfl (x_move hst rfl) ?_; intro a hst
                  refine r_t hst trivial rfl (x_move hst rfl) ?_; intro a hst
                  refine r_t hst trivial rfl (x_move hst rfl) ?_; intro a hst
                  refine r_t hst trivial rfl (x_move hst rfl) ?_; intro a hst
                  refine r_t hst trivial rfl (x_move hst rfl) ?_; intro a hst
                  replace hsh := hsh.pick [0]
                  obtain ⟨GG431, hsp, hG, hbx, hfx, hk⟩ := SH.callD (L1 := [Row k_File 43 va0 l_123]) (L2 := []) hsh
                  obtain ⟨r429, hr429, H⟩ := Option.bind_eq_some_iff.1 H
                  refine r_callD hst trivial rfl fn_82 rfl (ih _ GG431 _ l_123 a1 i_120 (w64 ((wu64 (w64 (a1 + a3))) / 2 ^ (Int.toNat 1))) va4 Za4 wra4 (Same.sh2 hsa4 hda4 hsh) (disj_own hsa4 hda4 hG) a4 hra4 hsp r429 hr429) ?_
                  rintro e w430 ⟨rfl, hc⟩
                  replace hsh := hk _ _ hc
                  clear hc
                  refine ⟨_, rfl, fun a hst => ?_⟩
                  refine wpL_nil ?_
                  refine then_normal ?_
                  exact ⟨r429, H, hst.keep _ ⟨rfl, rfl, rfl, rfl, rfl, trivial⟩, hsh.pick [0]⟩
                · rw [if_neg c428] at H
                  replace c428 := Bool.eq_false_iff.2 c428
                  refine wq_condF hst rfl c428 ?_
                  refine wq_skip ?_
                  refine then_normal ?_
                  exact ⟨l_123, H, hst.keep _ ⟨rfl, rfl, rfl, rfl, rfl, trivial⟩, hsh.pick [0]⟩
              · intro hj
                by_cases c427 : (decide (a1 < i_120)) = true
                · refine r_t hst (wt_of 195 rfl rfl c427) rfl (x_move hst rfl) ?_; intro a hst
                  refine r_t hst (wt_of 195 rfl rfl c427) rfl (x_move hst rfl) ?_; intro a hst
                  refine r_t hst (wt_of 195 rfl rfl c427) rfl (x_cmpI (b := decide (i_120 < (w64 ((wu64 (w64 (a1 + a3))) / 2 ^ (Int.toNat 1))))) hst rfl rfl rfl) ?_; intro a hst
                  refine r_t hst trivial rfl (x_andT hst rfl c427 rfl) ?_; intro a hst
                  exact hj _ (hst.keep _ ⟨rfl, rfl, rfl, rfl, rfl, rfl, rfl, rfl, trivial⟩)
                · replace c427 := Bool.eq_false_iff.2 c427
                  refine r_not hst 195 rfl rfl c427 rfl ?_; intro a hst
                  refine r_not hst 195 rfl rfl c427 rfl ?_; intro a hst
                  refine r_not hst 195 rfl rfl c427 rfl ?_; intro a hst
                  refine r_t hst trivial rfl (x_andF (decide (i_120 < (w64 ((wu64 (w64 (a1 + a3))) / 2 ^ (Int.toNat 1))))) hst rfl c427 rfl) ?_; intro a hst
                  exact hj _ (hst.keep _ ⟨rfl, rfl, rfl, rfl, rfl, rfl, rfl, rfl, trivial⟩)
          · refine wq_seq ?_
            refine wq_region_lit (.inl rfl) ?_
            refine r_t hst trivial rfl (x_move hst rfl) ?_; intro a hst
            refine r_t hst trivial rfl (x_move hst rfl) ?_; intro a hst
            refine r_t hst trivial rfl (x_cmpI (b := decide (i_120 < a2)) hst rfl rfl rfl) ?_; intro a hst
            refine r_t hst trivial rfl (x_move hst rfl) ?_; intro a hst
            refine wl_join0 (Δ := []) (N := Try.f82.ntmps) 8 [(0, va0), (1, .int .i64 a1), (2, .int .i64 a2), (3, .int .i64 a3), (4, va4), (18, .int .i64 (w64 ((wu64 (w64 (a1 + a3))) / 2 ^ (Int.toNat 1)))), (20, .int .i64 i_120), (24, .int .i64 (w64 ((w64 ((w64 ((wu64 (w64 (a1 + a3))) / 2 ^ (Int.toNat 1))) + a2)) - i_120))), (185, .bool ((decide (i_120 < a2)) && (decide (a2 < (w64 ((w64 ((w64 ((wu64 (w64 (a1 + a3))) / 2 ^ (Int.toNat 1))) + a2)) - i_120))))))] ?_ ?_
            · intro a hst
              refine wpL_nil ?_
              refine then_normal ?_
              by_cases c433 : ((decide (i_120 < a2)) && (decide (a2 < (w64 ((w64 ((w64 ((wu64 (w64 (a1 + a3))) / 2 ^ (Int.toNat 1))) + a2)) - i_120))))) = true
              · rw [if_pos c433] at H
                refine wq_condT hst rfl c433 ?_
                refine wq_region_lit (.inl rfl) ?_
                refine r_t hst trivial rfl (x_move hst rfl) ?_; intro a hst
                refine r_t hst trivial rfl (x_move hst rfl) ?_; intro a hst
                refine r_t hst trivial rfl (x_move hst rfl) ?_; intro a hst
                refine r_t hst trivial rfl (x_move hst rfl) ?_; intro a hst
                refine r_t hst trivial rfl (x_move hst rfl) ?_; intro a hst
                replace hsh := hsh.pick [0]
                obtain ⟨GG436, hsp, hG, hbx, hfx, hk⟩ := SH.callD (L1 := [Row k_File 43 va0 a0]) (L2 := []) hsh
                obtain ⟨r434, hr434, H⟩ := Option.bind_eq_some_iff.1 H
                refine r_callD hst trivial rfl fn_88 rfl (slices_rotateCmpFunc_File.calls k _ GG436 _ a0 i_120 a2 (w64 ((w64 ((w64 ((wu64 (w64 (a1 + a3))) / 2 ^ (Int.toNat 1))) + a2)) - i_120)) va4 Za4 wra4 (Same.sh2 hsa4 hda4 hsh) (disj_own hsa4 hda4 hG) a4 hra4 hsp r434 hr434) ?_
                rintro e w435 ⟨rfl, hc⟩
                replace hsh := hk _ _ hc
                clear hc
                refine ⟨_, rfl, fun a hst => ?_⟩
                refine wpL_nil ?_
                refine then_normal ?_
                exact ⟨r434, H, hst.keep _ ⟨rfl, rfl, rfl, rfl, rfl, rfl, rfl, trivial⟩, hsh.pick [0]⟩
              · rw [if_neg c433] at H
                replace c433 := Bool.eq_false_iff.2 c433
                refine wq_condF hst rfl c433 ?_
                refine wq_skip ?_
                refine then_normal ?_
                exact ⟨a0, H, hst.keep _ ⟨rfl, rfl, rfl, rfl, rfl, rfl, rfl, trivial⟩, hsh.pick [0]⟩
            · intro hj
              by_cases c432 : (decide (i_120 < a2)) = true
              · refine r_t hst (wt_of 181 rfl rfl c432) rfl (x_move hst rfl) ?_; intro a hst
                refine r_t hst (wt_of 181 rfl rfl c432) rfl (x_move hst rfl) ?_; intro a hst
                refine r_t hst (wt_of 181 rfl rfl c432) rfl (x_cmpI (b := decide (a2 < (w64 ((w64 ((w64 ((wu64 (w64 (a1 + a3))) / 2 ^ (Int.toNat 1))) + a2)) - i_120)))) hst rfl rfl rfl) ?_; intro a hst
                refine r_t hst trivial rfl (x_andT hst rfl c432 rfl) ?_; intro a hst
                exact hj _ (hst.keep _ ⟨rfl, rfl, rfl, rfl, rfl, rfl, rfl, rfl, rfl, trivial⟩)
              · replace c432 := Bool.eq_false_iff.2 c432
                refine r_not hst 181 rfl rfl c432 rfl ?_; intro a hst
                refine r_not hst 181 rfl rfl c432 rfl ?_; intro a hst
                refine r_not hst 181 rfl rfl c432 rfl ?_; intro a hst
                refine r_t hst trivial rfl (x_andF (decide (a2 < (w64 ((w64 ((w64 ((wu64 (w64 (a1 + a3))) / 2 ^ (Int.toNat 1))) + a2)) - i_120)))) hst rfl c432 rfl) ?_; intro a hst
                exact hj _ (hst.keep _ ⟨rfl, rfl, rfl, rfl, rfl, rfl, rfl, rfl, rfl, trivial⟩)
        · refine wq_block ?_
          refine wq_loop_fuel (fun k_139 a w' => ∃ (i_133 : Int), ∃ (i_134 : Int), slices_symMergeCmpFunc_File.l0 a0 a1 a2 a3 a4 J_122 k_139 i_133 i_134 = some r ∧ ST [] Try.f82.ntmps a [(0, va0), (1, .int .i64 a1), (2, .int .i64 a2), (3, .int .i64 a3), (4, va4), (18, .int .i64 (w64 ((wu64 (w64 (a1 + a3))) / 2 ^ (Int.toNat 1)))), (19, .int .i64 (w64 ((w64 ((wu64 (w64 (a1 + a3))) / 2 ^ (Int.toNat 1))) + a2))), (20, .int .i64 i_133), (21, .int .i64 i_134), (22, .int .i64 (w64 ((w64 ((w64 ((wu64 (w64 (a1 + a3))) / 2 ^ (Int.toNat 1))) + a2)) - 1)))] ∧ SH GG w w' [Row k_File 43 va0 a0]) k ?_ ?_
          · exact ⟨i_105, i_106, H, hst.keep _ ⟨rfl, rfl, rfl, rfl, rfl, rfl, rfl, rfl, rfl, rfl, trivial⟩, hsh.pick [0]⟩
          · rintro k_139 a W_135 ⟨i_133, i_134, H, hst, hsh⟩
            cases k_139 with
            | zero => rw [slices_symMergeCmpFunc_File.l0] at H; cases H
            | succ k_139 =>
             rw [slices_symMergeCmpFunc_File.l0] at H
             refine wq_seq ?_
             refine wq_seq ?_
             refine wq_region_lit (.inl rfl) ?_
             refine r_t hst trivial rfl (x_move hst rfl) ?_; intro a hst
             refine r_t hst trivial rfl (x_move hst rfl) ?_; intro a hst
             refine r_t hst trivial rfl (x_cmpI (b := decide (i_133 < i_134)) hst rfl rfl rfl) ?_; intro a hst
             refine wpL_nil ?_
             refine then_normal ?_
             by_cases c454 : (decide (i_133 < i_134)) = true
             · rw [if_pos c454] at H
               refine wq_condT hst rfl c454 ?_
               refine wq_skip ?_
               refine then_normal ?_
               refine wq_block ?_
               refine wq_seq ?_
               refine wq_region_lit (.inl rfl) ?_
               refine r_t hst trivial rfl (x_move hst rfl) ?_; intro a hst
               refine r_t hst trivial rfl (x_move hst rfl) ?_; intro a hst
               refine r_t hst trivial rfl (x_arI (r := w64 (i_133 + i_134)) hst rfl rfl rfl) ?_; intro a hst
               refine r_t hst trivial rfl (x_convI hst Try.underlying3 Try.underlying88 rfl) ?_; intro a hst
               refine r_t hst trivial rfl (x_shr hst rfl rfl (by decide) (by decide)) ?_; intro a hst
               refine r_t hst trivial rfl (x_convI hst Try.underlying88 Try.underlying3 rfl) ?_; intro a hst
               refine r_t hst trivial rfl (x_assign hst rfl) ?_; intro a hst
               refine wpL_nil ?_
               refine then_normal ?_
               refine wq_seq ?_
               refine wq_region_q (.inl rfl) (fun w' => SH GG w w' [Row k_File 43 va0 a0]) (shut_sh _ _ _) hsh.drew fo (by kernel_rfl) ?_
               refine q_t hst trivial rfl (fun _ hsh => x_move hst rfl) ?_; intro a hst
               refine q_t hst trivial rfl (fun _ hsh => x_move hst rfl) ?_; intro a hst
               refine q_t hst trivial rfl (fun _ hsh => x_move hst rfl) ?_; intro a hst
               refine q_t hst trivial rfl (fun _ hsh => x_move hst rfl) ?_; intro a hst
               refine q_t hst trivial rfl (fun _ hsh => x_arI (r := w64 ((w64 ((w64 ((w64 ((wu64 (w64 (a1 + a3))) / 2 ^ (Int.toNat 1))) + a2)) - 1)) - (w64 ((wu64 (w64 (i_133 + i_134))) / 2 ^ (Int.toNat 1))))) hst rfl rfl rfl) ?_; intro a hst
               obtain ⟨x455, hx455, H⟩ := Option.bind_eq_some_iff.1 H
               refine q_t hst trivial rfl (fun _ hsh => x_indexAddr hst Try.underlying39 el_43 rfl rfl (hsh.row 0 rfl) hx455) ?_; intro a hst
               refine q_t hst trivial rfl (fun _ hsh => x_loadEsF (j := 0) (cs := [.int .i64 x455.Number, .int .i64 x455.Size, .string x455.Least, .string x455.Limit, .int .u64 x455.Low, .int .u64 x455.High]) (ps := [.int .i64 x455.Number, .int .i64 x455.Size, .string x455.Least, .string x455.Limit, .int .u64 x455.Low, .int .u64 x455.High]) hst ag_43 rfl (hsh.row 0 rfl) (Same.refl _ _) hx455 rfl (fun _ h => h) rfl) ?_; intro a hst
               refine q_t hst trivial rfl (fun _ hsh => x_move hst rfl) ?_; intro a hst
               refine q_t hst trivial rfl (fun _ hsh => x_move hst rfl) ?_; intro a hst
               obtain ⟨x456, hx456, H⟩ := Option.bind_eq_some_iff.1 H
               refine q_t hst trivial rfl (fun _ hsh => x_indexAddr hst Try.underlying39 el_43 rfl rfl (hsh.row 0 rfl) hx456) ?_; intro a hst
               refine q_t hst trivial rfl (fun _ hsh => x_loadEsF (j := 0) (cs := [.int .i64 x456.Number, .int .i64 x456.Size, .string x456.Least, .string x456.Limit, .int .u64 x456.Low, .int .u64 x456.High]) (ps := [.int .i64 x456.Number, .int .i64 x456.Size, .string x456.Least, .string x456.Limit, .int .u64 x456.Low, .int .u64 x456.High]) hst ag_43 rfl (hsh.row 0 rfl) (Same.refl _ _) hx456 rfl (fun _ h => h) rfl) ?_; intro a hst
               obtain ⟨r457, hr457, H⟩ := Option.bind_eq_some_iff.1 H
               refine q_callV hst trivial rfl rfl rfl (fun w9 hsh => hra4 _ x455 x456 r457 (Same.sh2 hsa4 hda4 hsh) hr457) ?_; intro a hst
               refine q_t hst trivial rfl (fun _ hsh => x_cmpI (b := decide (r457 < 0)) hst rfl rfl rfl) ?_; intro a hst
               refine q_t hst trivial rfl (fun _ hsh => x_notB hst rfl) ?_; intro a hst
               refine q_nil ?_
               intro w459 hsh
               refine then_normal ?_
               by_cases c460 : (!(decide (r457 < 0))) = true
               · rw [if_pos c460] at H
                 refine wq_condT hst rfl c460 ?_
                 refine wq_region_lit (.inl rfl) ?_
                 refine r_t hst trivial rfl (x_move hst rfl) ?_; intro a hst
                 refine r_t hst trivial rfl (x_arI (r := w64 ((w64 ((wu64 (w64 (i_133 + i_134))) / 2 ^ (Int.toNat 1))) + 1)) hst rfl rfl rfl) ?_; intro a hst
                 refine r_t hst trivial rfl (x_assign hst rfl) ?_; intro a hst
                 refine wpL_nil ?_
                 refine block_normal ?_
                 refine then_normal ?_
                 exact ⟨k_139, Nat.lt_succ_self _, (w64 ((w64 ((wu64 (w64 (i_133 + i_134))) / 2 ^ (Int.toNat 1))) + 1)), i_134, H, hst.keep _ ⟨rfl, rfl, rfl, rfl, rfl, rfl, rfl, rfl, rfl, rfl, trivial⟩, hsh.pick [0]⟩
               · rw [if_neg c460] at H
                 replace c460 := Bool.eq_false_iff.2 c460
                 refine wq_condF hst rfl c460 ?_
                 refine wq_region_lit (.inl rfl) ?_
                 refine r_t hst trivial rfl (x_move hst rfl) ?_; intro a hst
                 refine r_t hst trivial rfl (x_assign hst rfl) ?_; intro a hst
                 refine wpL_nil ?_
                 refine block_normal ?_
                 refine then_normal ?_
                 exact ⟨k_139, Nat.lt_succ_self _, i_133, (w64 ((wu64 (w64 (i_133 + i_134))) / 2 ^ (Int.toNat 1))), H, hst.keep _ ⟨rfl, rfl, rfl, rfl, rfl, rfl, rfl, rfl, rfl, rfl, trivial⟩, hsh.pick [0]⟩
             · rw [if_neg c454] at H
               replace c454 := Bool.eq_false_iff.2 c454
               refine wq_condF hst rfl c454 ?_
               refine wq_exit ?_
               refine then_exit ?_
               refine then_exit ?_
               refine block_hit ?_
               refine then_normal ?_
               exact ⟨i_133, H, hst.keep _ ⟨rfl, rfl, rfl, rfl, rfl, rfl, rfl, rfl, trivial⟩, hsh.pick [0]⟩
      · refine wq_seq ?_
        refine wq_region_lit (.inl rfl) ?_
        refine r_t hst trivial rfl (x_move hst rfl) ?_; intro a hst
        refine r_t hst trivial rfl (x_move hst rfl) ?_; intro a hst
        refine r_t hst trivial rfl (x_cmpI (b := decide ((w64 ((wu64 (w64 (a1 + a3))) / 2 ^ (Int.toNat 1))) < a2)) hst rfl rfl rfl) ?_; intro a hst
        refine wpL_nil ?_
        refine then_normal ?_
        by_cases c461 : (decide ((w64 ((wu64 (w64 (a1 + a3))) / 2 ^ (Int.toNat 1))) < a2)) = true
        · rw [if_pos c461] at H
          refine wq_condT hst rfl c461 ?_
          refine wq_seq ?_
          refine wq_region_lit (.inl rfl) ?_
          refine r_t hst trivial rfl (x_move hst rfl) ?_; intro a hst
          refine r_t hst trivial rfl (x_move hst rfl) ?_; intro a hst
          refine r_t hst trivial rfl (x_arI (r := w64 ((w64 ((w64 ((wu64 (w64 (a1 + a3))) / 2 ^ (Int.toNat 1))) + a2)) - a3)) hst rfl rfl rfl) ?_; intro a hst
          refine r_t hst trivial rfl (x_assign hst rfl) ?_; intro a hst
          refine wpL_nil ?_
          refine then_normal ?_
          refine wq_region_lit (.inl rfl) ?_
          refine r_t hst trivial rfl (x_move hst rfl) ?_; intro a hst
          refine r_t hst trivial rfl (x_assign hst rfl) ?_; intro a hst
          refine wpL_nil ?_
          refine then_normal ?_
          exact ⟨(w64 ((w64 ((w64 ((wu64 (w64 (a1 + a3))) / 2 ^ (Int.toNat 1))) + a2)) - a3)), (w64 ((wu64 (w64 (a1 + a3))) / 2 ^ (Int.toNat 1))), H, hst.keep _ ⟨rfl, rfl, rfl, rfl, rfl, rfl, rfl, rfl, rfl, trivial⟩, hsh.pick [0]⟩
        · rw [if_neg c461] at H
          replace c461 := Bool.eq_false_iff.2 c461
          refine wq_condF hst rfl c461 ?_
          refine wq_seq ?_
          refine wq_region_lit (.inl rfl) ?_
          refine r_t hst trivial rfl (x_move hst rfl) ?_; intro a hst
          refine r_t hst trivial rfl (x_assign hst rfl) ?_; intro a hst
          refine wpL_nil ?_
          refine then_normal ?_
          refine wq_region_lit (.inl rfl) ?_
          refine r_t hst trivial rfl (x_move hst rfl) ?_; intro a hst
          refine r_t hst trivial rfl (x_assign hst rfl) ?_; intro a hst
          refine wpL_nil ?_
          refine then_normal ?_
          exact ⟨a1, a2, H, hst.keep _ ⟨rfl, rfl, rfl, rfl, rfl, rfl, rfl, rfl, rfl, trivial⟩, hsh.pick [0]⟩
    · refine wq_seq ?_
      refine wq_region_lit (.inl rfl) ?_
      refine r_t hst trivial rfl (x_move hst rfl) ?_; intro a hst
      refine r_t hst trivial rfl (x_move hst rfl) ?_; intro a hst
      refine r_t hst trivial rfl (x_arI (r := w64 (a3 - a2)) hst rfl rfl rfl) ?_; intro a hst
      refine r_t hst trivial rfl (x_cmpI (b := ((w64 (a3 - a2)) == 1)) hst rfl rfl rfl) ?_; intro a hst
      refine wpL_nil ?_
      refine then_normal ?_
      by_cases c462 : ((w64 (a3 - a2)) == 1) = true
      · rw [if_pos c462] at H
        refine wq_condT hst rfl c462 ?_
        refine wq_seq ?_
        refine wq_region_lit (.inl rfl) ?_
        refine r_t hst trivial rfl (x_move hst rfl) ?_; intro a hst
        refine r_t hst trivial rfl (x_assign hst rfl) ?_; intro a hst
        refine wpL_nil ?_
        refine then_normal ?_
        refine wq_seq ?_
        refine wq_region_lit (.inl rfl) ?_
        refine r_t hst trivial rfl (x_move hst rfl) ?_; intro a hst
        refine r_t hst trivial rfl (x_assign hst rfl) ?_; intro a hst
        refine wpL_nil ?_
        refine then_normal ?_
        obtain ⟨J_153, hJ_153, H⟩ := Jn.elim H
        refine wq_cut (fun a w' => ∃ (i_151 : Int), J_153 i_151 = some r ∧ ST [] Try.f82.ntmps a [(0, va0), (1, .int .i64 a1), (2, .int .i64 a2), (3, .int .i64 a3), (4, va4), (14, .int .i64 i_151)] ∧ SH GG w w' [Row k_File 43 va0 a0]) ?_ ?_
        · rintro a W_152 ⟨i_151, H, hst, hsh⟩
          subst hJ_153
          dsimp only at H
          obtain ⟨J_167, hJ_167, H⟩ := Jn.elim H
          refine wq_cut (fun a w' => ∃ (l_165 : (List File)), J_167 l_165 = some r ∧ ST [] Try.f82.ntmps a [(0, va0), (1, .int .i64 a1), (2, .int .i64 a2), (3, .int .i64 a3), (4, va4)] ∧ SH GG w w' [Row k_File 43 va0 l_165]) ?_ ?_
          · rintro a W_166 ⟨l_165, H, hst, hsh⟩
            subst hJ_167
            dsimp only at H
            refine wq_ret ?_
            refine then_ret ?_
            obtain rfl := Option.some.inj H
            exact ret0 hst rfl ⟨rfl, hsh.pick [0]⟩
          · refine wq_seq ?_
            refine wq_region_lit (.inl rfl) ?_
            refine r_t hst trivial rfl (x_move hst rfl) ?_; intro a hst
            refine r_t hst trivial rfl (x_assign hst rfl) ?_; intro a hst
            refine wpL_nil ?_
            refine then_normal ?_
            refine wq_block ?_
            refine wq_loop_fuel (fun k_178 a w' => ∃ (l_172 : (List File)), ∃ (i_173 : Int), slices_symMergeCmpFunc_File.l1 i_151 J_167 k_178 l_172 i_173 = some r ∧ ST [] Try.f82.ntmps a [(0, va0), (1, .int .i64 a1), (2, .int .i64 a2), (3, .int .i64 a3), (4, va4), (14, .int .i64 i_151), (17, .int .i64 i_173)] ∧ SH GG w w' [Row k_File 43 va0 l_172]) k ?_ ?_
            · exact ⟨a0, a2, H, hst.keep _ ⟨rfl, rfl, rfl, rfl, rfl, rfl, rfl, trivial⟩, hsh.pick [0]⟩
            · rintro k_178 a W_174 ⟨l_172, i_173, H, hst, hsh⟩
              cases k_178 with
              | zero => rw [slices_symMergeCmpFunc_File.l1] at H; cases H
              | succ k_178 =>
               rw [slices_symMergeCmpFunc_File.l1] at H
               refine wq_seq ?_
               refine wq_seq ?_
               refine wq_region_lit (.inl rfl) ?_
               refine r_t hst trivial rfl (x_move hst rfl) ?_; intro a hst
               refine r_t hst trivial rfl (x_move hst rfl) ?_; intro a hst
               refine r_t hst trivial rfl (x_cmpI (b := decide (i_151 < i_173)) hst rfl rfl rfl) ?_; intro a hst
               refine wpL_nil ?_
               refine then_normal ?_
               by_cases c608 : (decide (i_151 < i_173)) = true
               · rw [if_pos c608] at H
                 refine wq_condT hst rfl c608 ?_
                 refine wq_skip ?_
                 refine then_normal ?_
                 refine wq_seq ?_
                 refine wq_block ?_
                 have hw619_0 := hsh.row 0 rfl
                 refine wq_region_t (.inl rfl) (.fin [(3, 0), (3, 1), (3, 2), (3, 3), (3, 4), (3, 5), (3, 6), (3, 7), (3, 8), (0, 9), (3, 10), (3, 11), (3, 12), (0, 13), (3, 14), (2, 15), (0, 16), (2, 17)]) (fun w' => SH GG w w' []) (fun w' => SH GG w w' [Row k_File 43 va0 l_172]) (fun w' => SH GG w w' [Row k_File 43 va0 l_172]) (shut_sh _ _ _) (shut_sh _ _ _) (shut_sh _ _ _) (sub_sh [] rfl) (sub_sh [0] rfl) hsh.drew fo (by kernel_rfl) ?_
                 refine t_fin ?_
                 refine m_p hst trivial rfl (fun _ => x_move hst rfl) ?_; intro a hst
                 refine m_p hst trivial rfl (fun _ => x_move hst rfl) ?_; intro a hst
                 refine m_p hst trivial rfl (fun _ => x_move hst rfl) ?_; intro a hst
                 refine m_p hst trivial rfl (fun _ => x_move hst rfl) ?_; intro a hst
                 refine m_p hst trivial rfl (fun _ => x_arI (r := w64 (i_173 - 1)) hst rfl rfl rfl) ?_; intro a hst
                 refine m_p hst trivial rfl (fun _ => x_move hst rfl) ?_; intro a hst
                 refine m_p hst trivial rfl (fun _ => x_move hst rfl) ?_; intro a hst
                 refine m_p hst trivial rfl (fun _ => x_arI (r := w64 (i_173 - 1)) hst rfl rfl rfl) ?_; intro a hst
                 obtain ⟨x620, hx620, H⟩ := Option.bind_eq_some_iff.1 H
                 refine m_p hst trivial rfl (fun _ => x_indexAddr hst Try.underlying39 el_43 rfl rfl hw619_0 hx620) ?_; intro a hst
                 refine m_t hst trivial rfl (fun _ hsh => x_loadEsF (j := 0) (cs := [.int .i64 x620.Number, .int .i64 x620.Size, .string x620.Least, .string x620.Limit, .int .u64 x620.Low, .int .u64 x620.High]) (ps := [.int .i64 x620.Number, .int .i64 x620.Size, .string x620.Least, .string x620.Limit, .int .u64 x620.Low, .int .u64 x620.High]) hst ag_43 rfl (hsh.row 0 rfl) (Same.refl _ _) hx620 rfl (fun _ h => h) rfl) ?_; intro a hst
                 refine m_p hst trivial rfl (fun _ => x_move hst rfl) ?_; intro a hst
                 refine m_p hst trivial rfl (fun _ => x_move hst rfl) ?_; intro a hst
                 obtain ⟨x621, hx621, H⟩ := Option.bind_eq_some_iff.1 H
                 refine m_p hst trivial rfl (fun _ => x_indexAddr hst Try.underlying39 el_43 rfl rfl hw619_0 hx621) ?_; intro a hst
                 refine m_t hst trivial rfl (fun _ hsh => x_loadEsF (j := 0) (cs := [.int .i64 x621.Number, .int .i64 x621.Size, .string x621.Least, .string x621.Limit, .int .u64 x621.Low, .int .u64 x621.High]) (ps := [.int .i64 x621.Number, .int .i64 x621.Size, .string x621.Least, .string x621.Limit, .int .u64 x621.Low, .int .u64 x621.High]) hst ag_43 rfl (hsh.row 0 rfl) (Same.refl _ _) hx621 rfl (fun _ h => h) rfl) ?_; intro a hst
                 obtain ⟨x622, hx622, H⟩ := Option.bind_eq_some_iff.1 H
                 refine m_p hst trivial rfl (fun _ => x_indexAddr hst Try.underlying39 el_43 rfl rfl hw619_0 hx622) ?_; intro a hst
                 refine m_loud (.inr rfl) ?_
                 intro w623 hsh
                 obtain ⟨l624, hl624, H⟩ := Option.bind_eq_some_iff.1 H
                 refine r_storeEs (i := 0) (off := 0) (new := x620) (vs := [.int .i64 x620.Number, .int .i64 x620.Size, .string x620.Least, .string x620.Limit, .int .u64 x620.Low, .int .u64 x620.High]) (cs' := [.int .i64 x620.Number, .int .i64 x620.Size, .string x620.Least, .string x620.Limit, .int .u64 x620.Low, .int .u64 x620.High]) hst hsh trivial ag_43 rfl rfl rfl hx622 rfl (Nat.le_of_ble_eq_true rfl) rfl (fun _ _ _ h => by rw [h]; rfl) (fun _ _ => rfl) ?_; intro a w625 hsh hst
                 rw [← upd_some hl624] at hsh
                 refine m_turn hsh (sub_sh [] rfl) ?_
                 obtain ⟨x626, hx626, H⟩ := Option.bind_eq_some_iff.1 H
                 refine m_t hst trivial rfl (fun _ hsh => x_indexAddr hst Try.underlying39 el_43 rfl rfl (hsh.row 0 rfl) hx626) ?_; intro a hst
                 refine m_loud (.inr rfl) ?_
                 intro w627 hsh
                 obtain ⟨l628, hl628, H⟩ := Option.bind_eq_some_iff.1 H
                 refine r_storeEs (i := 0) (off := 0) (new := x621) (vs := [.int .i64 x621.Number, .int .i64 x621.Size, .string x621.Least, .string x621.Limit, .int .u64 x621.Low, .int .u64 x621.High]) (cs' := [.int .i64 x621.Number, .int .i64 x621.Size, .string x621.Least, .string x621.Limit, .int .u64 x621.Low, .int .u64 x621.High]) hst hsh trivial ag_43 rfl rfl rfl hx626 rfl (Nat.le_of_ble_eq_true rfl) rfl (fun _ _ _ h => by rw [h]; rfl) (fun _ _ => rfl) ?_; intro a w629 hsh hst
                 rw [← upd_some hl628] at hsh
                 refine m_turn hsh (sub_sh [] rfl) ?_
                 refine m_nil ?_
                 intro w630 hsh
                 refine qn_normal ?_
                 refine block_normal ?_
                 refine then_normal ?_
                 refine wq_region_lit (.inl rfl) ?_
                 refine r_t hst trivial rfl (x_move hst rfl) ?_; intro a hst
                 refine r_t hst trivial rfl (x_arI (r := w64 (i_173 - 1)) hst rfl rfl rfl) ?_; intro a hst
                 refine r_t hst trivial rfl (x_assign hst rfl) ?_; intro a hst
                 refine wpL_nil ?_
                 refine then_normal ?_
                 exact ⟨k_178, Nat.lt_succ_self _, l628, (w64 (i_173 - 1)), H, hst.keep _ ⟨rfl, rfl, rfl, rfl, rfl, rfl, rfl, trivial⟩, hsh.pick [0]⟩
               · rw [if_neg c608] at H
                 replace c608 := Bool.eq_false_iff.2 c608
                 refine wq_condF hst rfl c608 ?_
                 refine wq_exit ?_
                 refine then_exit ?_
                 refine then_exit ?_
                 refine block_hit ?_
                 refine then_normal ?_
                 exact ⟨l_172, H, hst.keep _ ⟨rfl, rfl, rfl, rfl, rfl, trivial⟩, hsh.pick [0]⟩
        · refine wq_block ?_
          refine wq_loop_fuel (fun k_189 a w' => ∃ (i_183 : Int), ∃ (i_184 : Int), slices_symMergeCmpFunc_File.l2 a0 a2 a4 J_153 k_189 i_183 i_184 = some r ∧ ST [] Try.f82.ntmps a [(0, va0), (1, .int .i64 a1), (2, .int .i64 a2), (3, .int .i64 a3), (4, va4), (14, .int .i64 i_183), (15, .int .i64 i_184)] ∧ SH GG w w' [Row k_File 43 va0 a0]) k ?_ ?_
          · exact ⟨a1, a2, H, hst.keep _ ⟨rfl, rfl, rfl, rfl, rfl, rfl, rfl, trivial⟩, hsh.pick [0]⟩
          · rintro k_189 a W_185 ⟨i_183, i_184, H, hst, hsh⟩
            cases k_189 with
            | zero => rw [slices_symMergeCmpFunc_File.l2] at H; cases H
            | succ k_189 =>
             rw [slices_symMergeCmpFunc_File.l2] at H
             refine wq_seq ?_
             refine wq_seq ?_
             refine wq_region_lit (.inl rfl) ?_
             refine r_t hst trivial rfl (x_move hst rfl) ?_; intro a hst
             refine r_t hst trivial rfl (x_move hst rfl) ?_; intro a hst
             refine r_t hst trivial rfl (x_cmpI (b := decide (i_183 < i_184)) hst rfl rfl rfl) ?_; intro a hst
             refine wpL_nil ?_
             refine then_normal ?_
             by_cases c648 : (decide (i_183 < i_184)) = true
             · rw [if_pos c648] at H
               refine wq_condT hst rfl c648 ?_
               refine wq_skip ?_
               refine then_normal ?_
               refine wq_block ?_
               refine wq_seq ?_
               refine wq_region_lit (.inl rfl) ?_
               refine r_t hst trivial rfl (x_move hst rfl) ?_; intro a hst
               refine r_t hst trivial rfl (x_move hst rfl) ?_; intro a hst
               refine r_t hst trivial rfl (x_arI (r := w64 (i_183 + i_184)) hst rfl rfl rfl) ?_; intro a hst
               refine r_t hst trivial rfl (x_convI hst Try.underlying3 Try.underlying88 rfl) ?_; intro a hst
               refine r_t hst trivial rfl (x_shr hst rfl rfl (by decide) (by decide)) ?_; intro a hst
               refine r_t hst trivial rfl (x_convI hst Try.underlying88 Try.underlying3 rfl) ?_; intro a hst
               refine r_t hst trivial rfl (x_assign hst rfl) ?_; intro a hst
               refine wpL_nil ?_
               refine then_normal ?_
               refine wq_seq ?_
               refine wq_region_q (.inl rfl) (fun w' => SH GG w w' [Row k_File 43 va0 a0]) (shut_sh _ _ _) hsh.drew fo (by kernel_rfl) ?_
               refine q_t hst trivial rfl (fun _ hsh => x_move hst rfl) ?_; intro a hst
               refine q_t hst trivial rfl (fun _ hsh => x_move hst rfl) ?_; intro a hst
               refine q_t hst trivial rfl (fun _ hsh => x_move hst rfl) ?_; intro a hst
               obtain ⟨x649, hx649, H⟩ := Option.bind_eq_some_iff.1 H
               refine q_t hst trivial rfl (fun _ hsh => x_indexAddr hst Try.underlying39 el_43 rfl rfl (hsh.row 0 rfl) hx649) ?_; intro a hst
               refine q_t hst trivial rfl (fun _ hsh => x_loadEsF (j := 0) (cs := [.int .i64 x649.Number, .int .i64 x649.Size, .string x649.Least, .string x649.Limit, .int .u64 x649.Low, .int .u64 x649.High]) (ps := [.int .i64 x649.Number, .int .i64 x649.Size, .string x649.Least, .string x649.Limit, .int .u64 x649.Low, .int .u64 x649.High]) hst ag_43 rfl (hsh.row 0 rfl) (Same.refl _ _) hx649 rfl (fun _ h => h) rfl) ?_; intro a hst
               refine q_t hst trivial rfl (fun _ hsh => x_move hst rfl) ?_; intro a hst
               refine q_t hst trivial rfl (fun _ hsh => x_move hst rfl) ?_; intro a hst
               obtain ⟨x650, hx650, H⟩ := Option.bind_eq_some_iff.1 H
               refine q_t hst trivial rfl (fun _ hsh => x_indexAddr hst Try.underlying39 el_43 rfl rfl (hsh.row 0 rfl) hx650) ?_; intro a hst
               refine q_t hst trivial rfl (fun _ hsh => x_loadEsF (j := 0) (cs := [.int .i64 x650.Number, .int .i64 x650.Size, .string x650.Least, .string x650.Limit, .int .u64 x650.Low, .int .u64 x650.High]) (ps := [.int .i64 x650.Number, .int .i64 x650.Size, .string x650.Least, .string x650.Limit, .int .u64 x650.Low, .int .u64 x650.High]) hst ag_43 rfl (hsh.row 0 rfl) (Same.refl _ _) hx650 rfl (fun _ h => h) rfl) ?_; intro a hst
               obtain ⟨r651, hr651, H⟩ := Option.bind_eq_some_iff.1 H
               refine q_callV hst trivial rfl rfl rfl (fun w9 hsh => hra4 _ x649 x650 r651 (Same.sh2 hsa4 hda4 hsh) hr651) ?_; intro a hst
               refine q_t hst trivial rfl (fun _ hsh => x_cmpI (b := decide (r651 < 0)) hst rfl rfl rfl) ?_; intro a hst
               refine q_t hst trivial rfl (fun _ hsh => x_notB hst rfl) ?_; intro a hst
               refine q_nil ?_
               intro w653 hsh
               refine then_normal ?_
               by_cases c654 : (!(decide (r651 < 0))) = true
               · rw [if_pos c654] at H
                 refine wq_condT hst rfl c654 ?_
                 refine wq_region_lit (.inl rfl) ?_
                 refine r_t hst trivial rfl (x_move hst rfl) ?_; intro a hst
                 refine r_t hst trivial rfl (x_arI (r := w64 ((w64 ((wu64 (w64 (i_183 + i_184))) / 2 ^ (Int.toNat 1))) + 1)) hst rfl rfl rfl) ?_; intro a hst
                 refine r_t hst trivial rfl (x_assign hst rfl) ?_; intro a hst
                 refine wpL_nil ?_
                 refine block_normal ?_
                 refine then_normal ?_
                 exact ⟨k_189, Nat.lt_succ_self _, (w64 ((w64 ((wu64 (w64 (i_183 + i_184))) / 2 ^ (Int.toNat 1))) + 1)), i_184, H, hst.keep _ ⟨rfl, rfl, rfl, rfl, rfl, rfl, rfl, trivial⟩, hsh.pick [0]⟩
               · rw [if_neg c654] at H
                 replace c654 := Bool.eq_false_iff.2 c654
                 refine wq_condF hst rfl c654 ?_
                 refine wq_region_lit (.inl rfl) ?_
                 refine r_t hst trivial rfl (x_move hst rfl) ?_; intro a hst
                 refine r_t hst trivial rfl (x_assign hst rfl) ?_; intro a hst
                 refine wpL_nil ?_
                 refine block_normal ?_
                 refine then_normal ?_
                 exact ⟨k_189, Nat.lt_succ_self _, i_183, (w64 ((wu64 (w64 (i_183 + i_184))) / 2 ^ (Int.toNat 1))), H, hst.keep _ ⟨rfl, rfl, rfl, rfl, rfl, rfl, rfl, trivial⟩, hsh.pick [0]⟩
             · rw [if_neg c648] at H
               replace c648 := Bool.eq_false_iff.2 c648
               refine wq_condF hst rfl c648 ?_
               refine wq_exit ?_
               refine then_exit ?_
               refine then_exit ?_
               refine block_hit ?_
               refine then_normal ?_
               exact ⟨i_183, H, hst.keep _ ⟨rfl, rfl, rfl, rfl, rfl, rfl, trivial⟩, hsh.pick [0]⟩
      · rw [if_neg c462] at H
        replace c462 := Bool.eq_false_iff.2 c462
        refine wq_condF hst rfl c462 ?_
        refine wq_skip ?_
        refine then_normal ?_
        exact ⟨H, hst.keep _ ⟨rfl, rfl, rfl, rfl, rfl, trivial⟩, hsh.pick [0]⟩
  · refine wq_seq ?_
    refine wq_region_lit (.inl rfl) ?_
    refine r_t hst trivial rfl (x_move hst rfl) ?_; intro a hst
    refine r_t hst trivial rfl (x_move hst rfl) ?_; intro a hst
    refine r_t hst trivial rfl (x_arI (r := w64 (a2 - a1)) hst rfl rfl rfl) ?_; intro a hst
    refine r_t hst trivial rfl (x_cmpI (b := ((w64 (a2 - a1)) == 1)) hst rfl rfl rfl) ?_; intro a hst
    refine wpL_nil ?_
    refine then_normal ?_
    by_cases c655 : ((w64 (a2 - a1)) == 1) = true
    · rw [if_pos c655] at H
      refine wq_condT hst rfl c655 ?_
      refine wq_seq ?_
      refine wq_region_lit (.inl rfl) ?_
      refine r_t hst trivial rfl (x_move hst rfl) ?_; intro a hst
      refine r_t hst trivial rfl (x_assign hst rfl) ?_; intro a hst
      refine wpL_nil ?_
      refine then_normal ?_
      refine wq_seq ?_
      refine wq_region_lit (.inl rfl) ?_
      refine r_t hst trivial rfl (x_move hst rfl) ?_; intro a hst
      refine r_t hst trivial rfl (x_assign hst rfl) ?_; intro a hst
      refine wpL_nil ?_
      refine then_normal ?_
      obtain ⟨J_203, hJ_203, H⟩ := Jn.elim H
      refine wq_cut (fun a w' => ∃ (i_201 : Int), J_203 i_201 = some r ∧ ST [] Try.f82.ntmps a [(0, va0), (1, .int .i64 a1), (2, .int .i64 a2), (3, .int .i64 a3), (4, va4), (10, .int .i64 i_201)] ∧ SH GG w w' [Row k_File 43 va0 a0]) ?_ ?_
      · rintro a W_202 ⟨i_201, H, hst, hsh⟩
        subst hJ_203
        dsimp only at H
        obtain ⟨J_217, hJ_217, H⟩ := Jn.elim H
        refine wq_cut (fun a w' => ∃ (l_215 : (List File)), J_217 l_215 = some r ∧ ST [] Try.f82.ntmps a [(0, va0), (1, .int .i64 a1), (2, .int .i64 a2), (3, .int .i64 a3), (4, va4)] ∧ SH GG w w' [Row k_File 43 va0 l_215]) ?_ ?_
        · rintro a W_216 ⟨l_215, H, hst, hsh⟩
          subst hJ_217
          dsimp only at H
          refine wq_ret ?_
          refine then_ret ?_
          obtain rfl := Option.some.inj H
          exact ret0 hst rfl ⟨rfl, hsh.pick [0]⟩
        · refine wq_seq ?_
          refine wq_region_lit (.inl rfl) ?_
          refine r_t hst trivial rfl (x_move hst rfl) ?_; intro a hst
          refine r_t hst trivial rfl (x_assign hst rfl) ?_; intro a hst
          refine wpL_nil ?_
          refine then_normal ?_
          refine wq_block ?_
          refine wq_loop_fuel (fun k_228 a w' => ∃ (l_222 : (List File)), ∃ (i_223 : Int), slices_symMergeCmpFunc_File.l3 i_201 J_217 k_228 l_222 i_223 = some r ∧ ST [] Try.f82.ntmps a [(0, va0), (1, .int .i64 a1), (2, .int .i64 a2), (3, .int .i64 a3), (4, va4), (10, .int .i64 i_201), (13, .int .i64 i_223)] ∧ SH GG w w' [Row k_File 43 va0 l_222]) k ?_ ?_
          · exact ⟨a0, a1, H, hst.keep _ ⟨rfl, rfl, rfl, rfl, rfl, rfl, rfl, trivial⟩, hsh.pick [0]⟩
          · rintro k_228 a W_224 ⟨l_222, i_223, H, hst, hsh⟩
            cases k_228 with
            | zero => rw [slices_symMergeCmpFunc_File.l3] at H; cases H
            | succ k_228 =>
             rw [slices_symMergeCmpFunc_File.l3] at H
             refine wq_seq ?_
             refine wq_seq ?_
             refine wq_region_lit (.inl rfl) ?_
             refine r_t hst trivial rfl (x_move hst rfl) ?_; intro a hst
             refine r_t hst trivial rfl (x_move hst rfl) ?_; intro a hst
             refine r_t hst trivial rfl (x_arI (r := w64 (i_201 - 1)) hst rfl rfl rfl) ?_; intro a hst
             refine r_t hst trivial rfl (x_cmpI (b := decide (i_223 < (w64 (i_201 - 1)))) hst rfl rfl rfl) ?_; intro a hst
             refine wpL_nil ?_
             refine then_normal ?_
             by_cases c801 : (decide (i_223 < (w64 (i_201 - 1)))) = true
             · rw [if_pos c801] at H
               refine wq_condT hst rfl c801 ?_
               refine wq_skip ?_
               refine then_normal ?_
               refine wq_seq ?_
               refine wq_block ?_
               have hw812_0 := hsh.row 0 rfl
               refine wq_region_t (.inl rfl) (.fin [(3, 0), (3, 1), (3, 2), (3, 3), (3, 4), (3, 5), (3, 6), (3, 7), (3, 8), (0, 9), (3, 10), (3, 11), (3, 12), (0, 13), (3, 14), (2, 15), (0, 16), (2, 17)]) (fun w' => SH GG w w' []) (fun w' => SH GG w w' [Row k_File 43 va0 l_222]) (fun w' => SH GG w w' [Row k_File 43 va0 l_222]) (shut_sh _ _ _) (shut_sh _ _ _) (shut_sh _ _ _) (sub_sh [] rfl) (sub_sh [0] rfl) hsh.drew fo (by kernel_rfl) ?_
               refine t_fin ?_
               refine m_p hst trivial rfl (fun _ => x_move hst rfl) ?_; intro a hst
               refine m_p hst trivial rfl (fun _ => x_move hst rfl) ?_; intro a hst
               refine m_p hst trivial rfl (fun _ => x_move hst rfl) ?_; intro a hst
               refine m_p hst trivial rfl (fun _ => x_move hst rfl) ?_; intro a hst
               refine m_p hst trivial rfl (fun _ => x_arI (r := w64 (i_223 + 1)) hst rfl rfl rfl) ?_; intro a hst
               refine m_p hst trivial rfl (fun _ => x_move hst rfl) ?_; intro a hst
               refine m_p hst trivial rfl (fun _ => x_move hst rfl) ?_; intro a hst
               refine m_p hst trivial rfl (fun _ => x_arI (r := w64 (i_223 + 1)) hst rfl rfl rfl) ?_; intro a hst
               obtain ⟨x813, hx813, H⟩ := Option.bind_eq_some_iff.1 H
               refine m_p hst trivial rfl (fun _ => x_indexAddr hst Try.underlying39 el_43 rfl rfl hw812_0 hx813) ?_; intro a hst
               refine m_t hst trivial rfl (fun _ hsh => x_loadEsF (j := 0) (cs := [.int .i64 x813.Number, .int .i64 x813.Size, .string x813.Least, .string x813.Limit, .int .u64 x813.Low, .int .u64 x813.High]) (ps := [.int .i64 x813.Number, .int .i64 x813.Size, .string x813.Least, .string x813.Limit, .int .u64 x813.Low, .int .u64 x813.High]) hst ag_43 rfl (hsh.row 0 rfl) (Same.refl _ _) hx813 rfl (fun _ h => h) rfl) ?_; intro a hst
               refine m_p hst trivial rfl (fun _ => x_move hst rfl) ?_; intro a hst
               refine m_p hst trivial rfl (fun _ => x_move hst rfl) ?_; intro a hst
               obtain ⟨x814, hx814, H⟩ := Option.bind_eq_some_iff.1 H
               refine m_p hst trivial rfl (fun _ => x_indexAddr hst Try.underlying39 el_43 rfl rfl hw812_0 hx814) ?_; intro a hst
               refine m_t hst trivial rfl (fun _ hsh => x_loadEsF (j := 0) (cs := [.int .i64 x814.Number, .int .i64 x814.Size, .string x814.Least, .string x814.Limit, .int .u64 x814.Low, .int .u64 x814.High]) (ps := [.int .i64 x814.Number, .int .i64 x814.Size, .string x814.Least, .string x814.Limit, .int .u64 x814.Low, .int .u64 x814.High]) hst ag_43 rfl (hsh.row 0 rfl) (Same.refl _ _) hx814 rfl (fun _ h => h) rfl) ?_; intro a hst
               obtain ⟨x815, hx815, H⟩ := Option.bind_eq_some_iff.1 H
               refine m_p hst trivial rfl (fun _ => x_indexAddr hst Try.underlying39 el_43 rfl rfl hw812_0 hx815) ?_; intro a hst
               refine m_loud (.inr rfl) ?_
               intro w816 hsh
               obtain ⟨l817, hl817, H⟩ := Option.bind_eq_some_iff.1 H
               refine r_storeEs (i := 0) (off := 0) (new := x813) (vs := [.int .i64 x813.Number, .int .i64 x813.Size, .string x813.Least, .string x813.Limit, .int .u64 x813.Low, .int .u64 x813.High]) (cs' := [.int .i64 x813.Number, .int .i64 x813.Size, .string x813.Least, .string x813.Limit, .int .u64 x813.Low, .int .u64 x813.High]) hst hsh trivial ag_43 rfl rfl rfl hx815 rfl (Nat.le_of_ble_eq_true rfl) rfl (fun _ _ _ h => by rw [h]; rfl) (fun _ _ => rfl) ?_; intro a w818 hsh hst
               rw [← upd_some hl817] at hsh
               refine m_turn hsh (sub_sh [] rfl) ?_
               obtain ⟨x819, hx819, H⟩ := Option.bind_eq_some_iff.1 H
               refine m_t hst trivial rfl (fun _ hsh => x_indexAddr hst Try.underlying39 el_43 rfl rfl (hsh.row 0 rfl) hx819) ?_; intro a hst
               refine m_loud (.inr rfl) ?_
               intro w820 hsh
               obtain ⟨l821, hl821, H⟩ := Option.bind_eq_some_iff.1 H
               refine r_storeEs (i := 0) (off := 0) (new := x814) (vs := [.int .i64 x814.Number, .int .i64 x814.Size, .string x814.Least, .string x814.Limit, .int .u64 x814.Low, .int .u64 x814.High]) (cs' := [.int .i64 x814.Number, .int .i64 x814.Size, .string x814.Least, .string x814.Limit, .int .u64 x814.Low, .int .u64 x814.High]) hst hsh trivial ag_43 rfl rfl rfl hx819 rfl (Nat.le_of_ble_eq_true rfl) rfl (fun _ _ _ h => by rw [h]; rfl) (fun _ _ => rfl) ?_; intro a w822 hsh hst
               rw [← upd_some hl821] at hsh
               refine m_turn hsh (sub_sh [] rfl) ?_
               refine m_nil ?_
               intro w823 hsh
               refine qn_normal ?_
               refine block_normal ?_
               refine then_normal ?_
               refine wq_region_lit (.inl rfl) ?_
               refine r_t hst trivial rfl (x_move hst rfl) ?_; intro a hst
               refine r_t hst trivial rfl (x_arI (r := w64 (i_223 + 1)) hst rfl rfl rfl) ?_; intro a hst
               refine r_t hst trivial rfl (x_assign hst rfl) ?_; intro a hst
               refine wpL_nil ?_
               refine then_normal ?_
               exact ⟨k_228, Nat.lt_succ_self _, l821, (w64 (i_223 + 1)), H, hst.keep _ ⟨rfl, rfl, rfl, rfl, rfl, rfl, rfl, trivial⟩, hsh.pick [0]⟩
             · rw [if_neg c801] at H
               replace c801 := Bool.eq_false_iff.2 c801
               refine wq_condF hst rfl c801 ?_
               refine wq_exit ?_
               refine then_exit ?_
               refine then_exit ?_
               refine block_hit ?_
               refine then_normal ?_
               exact ⟨l_222, H, hst.keep _ ⟨rfl, rfl, rfl, rfl, rfl, trivial⟩, hsh.pick [0]⟩
      · refine wq_block ?_
        refine wq_loop_fuel (fun k_239 a w' => ∃ (i_233 : Int), ∃ (i_234 : Int), slices_symMergeCmpFunc_File.l4 a0 a1 a4 J_203 k_239 i_233 i_234 = some r ∧ ST [] Try.f82.ntmps a [(0, va0), (1, .int .i64 a1), (2, .int .i64 a2), (3, .int .i64 a3), (4, va4), (10, .int .i64 i_233), (11, .int .i64 i_234)] ∧ SH GG w w' [Row k_File 43 va0 a0]) k ?_ ?_
        · exact ⟨a2, a3, H, hst.keep _ ⟨rfl, rfl, rfl, rfl, rfl, rfl, rfl, trivial⟩, hsh.pick [0]⟩
        · rintro k_239 a W_235 ⟨i_233, i_234, H, hst, hsh⟩
          cases k_239 with
          | zero => rw [slices_symMergeCmpFunc_File.l4] at H; cases H
          | succ k_239 =>
           rw [slices_symMergeCmpFunc_File.l4] at H
           refine wq_seq ?_
           refine wq_seq ?_
           refine wq_region_lit (.inl rfl) ?_
           refine r_t hst trivial rfl (x_move hst rfl) ?_; intro a hst
           refine r_t hst trivial rfl (x_move hst rfl) ?_; intro a hst
           refine r_t hst trivial rfl (x_cmpI (b := decide (i_233 < i_234)) hst rfl rfl rfl) ?_; intro a hst
           refine wpL_nil ?_
           refine then_normal ?_
           by_cases c841 : (decide (i_233 < i_234)) = true
           · rw [if_pos c841] at H
             refine wq_condT hst rfl c841 ?_
             refine wq_skip ?_
             refine then_normal ?_
             refine wq_block ?_
             refine wq_seq ?_
             refine wq_region_lit (.inl rfl) ?_
             refine r_t hst trivial rfl (x_move hst rfl) ?_; intro a hst
             refine r_t hst trivial rfl (x_move hst rfl) ?_; intro a hst
             refine r_t hst trivial rfl (x_arI (r := w64 (i_233 + i_234)) hst rfl rfl rfl) ?_; intro a hst
             refine r_t hst trivial rfl (x_convI hst Try.underlying3 Try.underlying88 rfl) ?_; intro a hst
             refine r_t hst trivial rfl (x_shr hst rfl rfl (by decide) (by decide)) ?_; intro a hst
             refine r_t hst trivial rfl (x_convI hst Try.underlying88 Try.underlying3 rfl) ?_; intro a hst
             refine r_t hst trivial rfl (x_assign hst rfl) ?_; intro a hst
             refine wpL_nil ?_
             refine then_normal ?_
             refine wq_seq ?_
             refine wq_region_q (.inl rfl) (fun w' => SH GG w w' [Row k_File 43 va0 a0]) (shut_sh _ _ _) hsh.drew fo (by kernel_rfl) ?_
             refine q_t hst trivial rfl (fun _ hsh => x_move hst rfl) ?_; intro a hst
             refine q_t hst trivial rfl (fun _ hsh => x_move hst rfl) ?_; intro a hst
             refine q_t hst trivial rfl (fun _ hsh => x_move hst rfl) ?_; intro a hst
             obtain ⟨x842, hx842, H⟩ := Option.bind_eq_some_iff.1 H
             refine q_t hst trivial rfl (fun _ hsh => x_indexAddr hst Try.underlying39 el_43 rfl rfl (hsh.row 0 rfl) hx842) ?_; intro a hst
             refine q_t hst trivial rfl (fun _ hsh => x_loadEsF (j := 0) (cs := [.int .i64 x842.Number, .int .i64 x842.Size, .string x842.Least, .string x842.Limit, .int .u64 x842.Low, .int .u64 x842.High]) (ps := [.int .i64 x842.Number, .int .i64 x842.Size, .string x842.Least, .string x842.Limit, .int .u64 x842.Low, .int .u64 x842.High]) hst ag_43 rfl (hsh.row 0 rfl) (Same.refl _ _) hx842 rfl (fun _ h => h) rfl) ?_; intro a hst
             refine q_t hst trivial rfl (fun _ hsh => x_move hst rfl) ?_; intro a hst
             refine q_t hst trivial rfl (fun _ hsh => x_move hst rfl) ?_; intro a hst
             obtain ⟨x843, hx843, H⟩ := Option.bind_eq_some_iff.1 H
             refine q_t hst trivial rfl (fun _ hsh => x_indexAddr hst Try.underlying39 el_43 rfl rfl (hsh.row 0 rfl) hx843) ?_; intro a hst
             refine q_t hst trivial rfl (fun _ hsh => x_loadEsF (j := 0) (cs := [.int .i64 x843.Number, .int .i64 x843.Size, .string x843.Least, .string x843.Limit, .int .u64 x843.Low, .int .u64 x843.High]) (ps := [.int .i64 x843.Number, .int .i64 x843.Size, .string x843.Least, .string x843.Limit, .int .u64 x843.Low, .int .u64 x843.High]) hst ag_43 rfl (hsh.row 0 rfl) (Same.refl _ _) hx843 rfl (fun _ h => h) rfl) ?_; intro a hst
             obtain ⟨r844, hr844, H⟩ := Option.bind_eq_some_iff.1 H
             refine q_callV hst trivial rfl rfl rfl (fun w9 hsh => hra4 _ x842 x843 r844 (Same.sh2 hsa4 hda4 hsh) hr844) ?_; intro a hst
             refine q_t hst trivial rfl (fun _ hsh => x_cmpI (b := decide (r844 < 0)) hst rfl rfl rfl) ?_; intro a hst
             refine q_nil ?_
             intro w846 hsh
             refine then_normal ?_
             by_cases c847 : (decide (r844 < 0)) = true
             · rw [if_pos c847] at H
               refine wq_condT hst rfl c847 ?_
               refine wq_region_lit (.inl rfl) ?_
               refine r_t hst trivial rfl (x_move hst rfl) ?_; intro a hst
               refine r_t hst trivial rfl (x_arI (r := w64 ((w64 ((wu64 (w64 (i_233 + i_234))) / 2 ^ (Int.toNat 1))) + 1)) hst rfl rfl rfl) ?_; intro a hst
               refine r_t hst trivial rfl (x_assign hst rfl) ?_; intro a hst
               refine wpL_nil ?_
               refine block_normal ?_
               refine then_normal ?_
               exact ⟨k_239, Nat.lt_succ_self _, (w64 ((w64 ((wu64 (w64 (i_233 + i_234))) / 2 ^ (Int.toNat 1))) + 1)), i_234, H, hst.keep _ ⟨rfl, rfl, rfl, rfl, rfl, rfl, rfl, trivial⟩, hsh.pick [0]⟩
             · rw [if_neg c847] at H
               replace c847 := Bool.eq_false_iff.2 c847
               refine wq_condF hst rfl c847 ?_
               refine wq_region_lit (.inl rfl) ?_
               refine r_t hst trivial rfl (x_move hst rfl) ?_; intro a hst
               refine r_t hst trivial rfl (x_assign hst rfl) ?_; intro a hst
               refine wpL_nil ?_
               refine block_normal ?_
               refine then_normal ?_
               exact ⟨k_239, Nat.lt_succ_self _, i_233, (w64 ((wu64 (w64 (i_233 + i_234))) / 2 ^ (Int.toNat 1))), H, hst.keep _ ⟨rfl, rfl, rfl, rfl, rfl, rfl, rfl, trivial⟩, hsh.pick [0]⟩
           · rw [if_neg c841] at H
             replace c841 := Bool.eq_false_iff.2 c841
             refine wq_condF hst rfl c841 ?_
             refine wq_exit ?_
             refine then_exit ?_
             refine then_exit ?_
             refine block_hit ?_
             refine then_normal ?_
             exact ⟨i_233, H, hst.keep _ ⟨rfl, rfl, rfl, rfl, rfl, rfl, trivial⟩, hsh.pick [0]⟩
    · rw [if_neg c655] at H
      replace c655 := Bool.eq_false_iff.2 c655
      refine wq_condF hst rfl c655 ?_
      refine wq_skip ?_
      refine then_normal ?_
      exact ⟨H, hst.keep _ ⟨rfl, rfl, rfl, rfl, rfl, trivial⟩, hsh.pick [0]⟩

set_option maxHeartbeats 4000000 in
set_option maxRecDepth 100000 in
theorem slices_stableCmpFunc_File.calls (k : Nat) (w : World) (GG : Nat → Prop) (va0 : Value) (a0 : (List File)) (a1 : Int) (va2 : Value) (Za2 : Nat → Prop) (wra2 : World) (hsa2 : Same Za2 wra2 w) (hda2 : ∀ k, Za2 k → k < wra2.heap.size → ¬ GG k) (a2 : (File → File → Option Int)) (hra2 : ∀ (w : World) (x0 : File) (x1 : File) (r : Int), Same Za2 wra2 w → a2 x0 x1 = some r → CallsV Try.prog va2 [.agg #[.int .i64 x0.Number, .int .i64 x0.Size, .string x0.Least, .string x0.Limit, .int .u64 x0.Low, .int .u64 x0.High], .agg #[.int .i64 x1.Number, .int .i64 x1.Size, .string x1.Least, .string x1.Limit, .int .u64 x1.Low, .int .u64 x1.High]] w (fun e w'' => e = .returned (.int .i64 r) ∧ SH (fun _ => False) w w'' [])) (hsep : Sep GG w [Row k_File 43 va0 a0]) (r : (List File)) (h : slices_stableCmpFunc_File k a0 a1 a2 = some r) :
    Calls Try.prog 67 ([va0, .int .i64 a1, va2] : List Value).toArray w fun e w' => e = .returned (.tuple #[]) ∧ SH GG w w' [Row k_File 43 va0 r] := by
 have H := h
 clear h
 unfold slices_stableCmpFunc_File at H
 refine calls_enter Try.func67 rfl rfl ?_
 intro a hst
 have hsh := SH.start hsep
 refine wq_seq ?_
 refine wq_region_lit (.inl rfl) ?_
 refine r_t hst trivial rfl (x_assign hst rfl) ?_; intro a hst
 refine wpL_nil ?_
 refine then_normal ?_
 refine wq_seq ?_
 refine wq_region_lit (.inl rfl) ?_
 refine r_t hst trivial rfl (x_move hst rfl) ?_; intro a hst
 refine r_t hst trivial rfl (x_assign hst rfl) ?_; intro a hst
 refine r_t hst trivial rfl (x_assign hst rfl) ?_; intro a hst
 refine wpL_nil ?_
 refine then_normal ?_
 refine wq_seq ?_
 refine wq_block ?_
 refine wq_loop_fuel (fun k_28 a w' => ∃ (l_20 : (List File)), ∃ (i_21 : Int), ∃ (i_22 : Int), slices_stableCmpFunc_File.l0 a1 a2 k_28 l_20 i_21 i_22 = some r ∧ ST [] Try.f67.ntmps a [(0, va0), (1, .int .i64 a1), (2, va2), (6, .int .i64 20), (7, .int .i64 i_21), (8, .int .i64 i_22)] ∧ SH GG w w' [Row k_File 43 va0 l_20]) k ?_ ?_
 · exact ⟨a0, 0, 20, H, hst.keep _ ⟨rfl, rfl, rfl, rfl, rfl, rfl, trivial⟩, hsh.pick [0]⟩
 · rintro k_28 a W_23 ⟨l_20, i_21, i_22, H, hst, hsh⟩
   cases k_28 with
   | zero => rw [slices_stableCmpFunc_File.l0] at H; cases H
   | succ k_28 =>
    rw [slices_stableCmpFunc_File.l0] at H
    refine wq_seq ?_
    refine wq_seq ?_
    refine wq_region_lit (.inl rfl) ?_
    refine r_t hst trivial rfl (x_move hst rfl) ?_; intro a hst
    refine r_t hst trivial rfl (x_move hst rfl) ?_; intro a hst
    refine r_t hst trivial rfl (x_cmpI (b := decide (i_22 ≤ a1)) hst rfl rfl rfl) ?_; intro a hst
    refine wpL_nil ?_
    refine then_normal ?_
    by_cases c27 : (decide (i_22 ≤ a1)) = true
    · rw [if_pos c27] at H
      refine wq_condT hst rfl c27 ?_
      refine wq_skip ?_
      refine then_normal ?_
      refine wq_block ?_
      refine wq_seq ?_
      refine wq_region_lit (.inl rfl) ?_
      refine r_t hst trivial rfl (x_move hst rfl) ?_; intro a hst
      refine r_t hst trivial rfl (x_move hst rfl) ?_; intro a hst
      refine r_t hst trivial rfl (x_move hst rfl) ?_; intro a hst
      refine r_t hst trivial rfl (x_move hst rfl) ?_; intro a hst
      replace hsh := hsh.pick [0]
      obtain ⟨GG30, hsp, hG, hbx, hfx, hk⟩ := SH.callD (L1 := [Row k_File 43 va0 l_20]) (L2 := []) hsh
      obtain ⟨r28, hr28, H⟩ := Option.bind_eq_some_iff.1 H
      refine r_callD hst trivial rfl fn_81 rfl (slices_insertionSortCmpFunc_File.calls k_28 _ GG30 _ l_20 i_21 i_22 va2 Za2 wra2 (Same.sh2 hsa2 hda2 hsh) (disj_own hsa2 hda2 hG) a2 hra2 hsp r28 hr28) ?_
      rintro e w29 ⟨rfl, hc⟩
      replace hsh := hk _ _ hc
      clear hc
      refine ⟨_, rfl, fun a hst => ?_⟩
      refine wpL_nil ?_
      refine then_normal ?_
      refine wq_seq ?_
      refine wq_region_lit (.inl rfl) ?_
      refine r_t hst trivial rfl (x_move hst rfl) ?_; intro a hst
      refine r_t hst trivial rfl (x_assign hst rfl) ?_; intro a hst
      refine wpL_nil ?_
      refine then_normal ?_
      refine wq_region_lit (.inl rfl) ?_
      refine r_t hst trivial rfl (x_move hst rfl) ?_; intro a hst
      refine r_t hst trivial rfl (x_move hst rfl) ?_; intro a hst
      refine r_t hst trivial rfl (x_arI (r := w64 (i_22 + 20)) hst rfl rfl rfl) ?_; intro a hst
      refine r_t hst trivial rfl (x_assign hst rfl) ?_; intro a hst
      refine wpL_nil ?_
      refine block_normal ?_
      refine then_normal ?_
      exact ⟨k_28, Nat.lt_succ_self _, r28, i_22, (w64 (i_22 + 20)), H, hst.keep _ ⟨rfl, rfl, rfl, rfl, rfl, rfl, trivial⟩, hsh.pick [0]⟩
    · rw [if_neg c27] at H
      replace c27 := Bool.eq_false_iff.2 c27
      refine wq_condF hst rfl c27 ?_
      refine wq_exit ?_
      refine then_exit ?_
      refine then_exit ?_
      refine block_hit ?_
      refine then_normal ?_
      refine wq_seq ?_
      refine wq_region_lit (.inl rfl) ?_
      refine r_t hst trivial rfl (x_move hst rfl) ?_; intro a hst
      refine r_t hst trivial rfl (x_move hst rfl) ?_; intro a hst
      refine r_t hst trivial rfl (x_move hst rfl) ?_; intro a hst
      refine r_t hst trivial rfl (x_move hst rfl) ?_; intro a hst
      replace hsh := hsh.pick [0]
      obtain ⟨GG33, hsp, hG, hbx, hfx, hk⟩ := SH.callD (L1 := [Row k_File 43 va0 l_20]) (L2 := []) hsh
      obtain ⟨r31, hr31, H⟩ := Option.bind_eq_some_iff.1 H
      refine r_callD hst trivial rfl fn_81 rfl (slices_insertionSortCmpFunc_File.calls k_28 _ GG33 _ l_20 i_21 a1 va2 Za2 wra2 (Same.sh2 hsa2 hda2 hsh) (disj_own hsa2 hda2 hG) a2 hra2 hsp r31 hr31) ?_
      rintro e w32 ⟨rfl, hc⟩
      replace hsh := hk _ _ hc
      clear hc
      refine ⟨_, rfl, fun a hst => ?_⟩
      refine wpL_nil ?_
      refine then_normal ?_
      refine wq_block ?_
      refine wq_loop_fuel (fun k_111 a w' => ∃ (l_70 : (List File)), ∃ (i_71 : Int), slices_stableCmpFunc_File.l1 a1 a2 k_111 l_70 i_71 = some r ∧ ST [] Try.f67.ntmps a [(0, va0), (1, .int .i64 a1), (2, va2), (6, .int .i64 i_71)] ∧ SH GG w w' [Row k_File 43 va0 l_70]) k_28 ?_ ?_
      · exact ⟨r31, 20, H, hst.keep _ ⟨rfl, rfl, rfl, rfl, trivial⟩, hsh.pick [0]⟩
      · rintro k_111 a W_72 ⟨l_70, i_71, H, hst, hsh⟩
        cases k_111 with
        | zero => rw [slices_stableCmpFunc_File.l1] at H; cases H
        | succ k_111 =>
         rw [slices_stableCmpFunc_File.l1] at H
         refine wq_seq ?_
         refine wq_seq ?_
         refine wq_region_lit (.inl rfl) ?_
         refine r_t hst trivial rfl (x_move hst rfl) ?_; intro a hst
         refine r_t hst trivial rfl (x_move hst rfl) ?_; intro a hst
         refine r_t hst trivial rfl (x_cmpI (b := decide (i_71 < a1)) hst rfl rfl rfl) ?_; intro a hst
         refine wpL_nil ?_
         refine then_normal ?_
         by_cases c115 : (decide (i_71 < a1)) = true
         · rw [if_pos c115] at H
           refine wq_condT hst rfl c115 ?_
           refine wq_skip ?_
           refine then_normal ?_
           refine wq_block ?_
           refine wq_seq ?_
           refine wq_region_lit (.inl rfl) ?_
           refine r_t hst trivial rfl (x_move hst rfl) ?_; intro a hst
           refine r_t hst trivial rfl (x_arI (r := w64 (2 * i_71)) hst rfl rfl rfl) ?_; intro a hst
           refine r_t hst trivial rfl (x_assign hst rfl) ?_; intro a hst
           refine r_t hst trivial rfl (x_assign hst rfl) ?_; intro a hst
           refine wpL_nil ?_
           refine then_normal ?_
           obtain ⟨J_129, hJ_129, H⟩ := Jn.elim H
           refine wq_cut (fun a w' => ∃ (l_126 : (List File)), ∃ (i_127 : Int), J_129 l_126 i_127 = some r ∧ ST [] Try.f67.ntmps a [(0, va0), (1, .int .i64 a1), (2, va2), (6, .int .i64 i_71), (7, .int .i64 i_127)] ∧ SH GG w w' [Row k_File 43 va0 l_126]) ?_ ?_
           · rintro a W_128 ⟨l_126, i_127, H, hst, hsh⟩
             subst hJ_129
             dsimp only at H
             obtain ⟨J_132, hJ_132, H⟩ := Jn.elim H
             refine wq_cut (fun a w' => ∃ (l_130 : (List File)), J_132 l_130 = some r ∧ ST [] Try.f67.ntmps a [(0, va0), (1, .int .i64 a1), (2, va2), (6, .int .i64 i_71)] ∧ SH GG w w' [Row k_File 43 va0 l_130]) ?_ ?_
             · rintro a W_131 ⟨l_130, H, hst, hsh⟩
               subst hJ_132
               dsimp only at H
               refine wq_region_lit (.inl rfl) ?_
               refine r_t hst trivial rfl (x_move hst rfl) ?_; intro a hst
               refine r_t hst trivial rfl (x_arI (r := w64 (i_71 * 2)) hst rfl rfl rfl) ?_; intro a hst
               refine r_t hst trivial rfl (x_assign hst rfl) ?_; intro a hst
               refine wpL_nil ?_
               refine block_normal ?_
               refine then_normal ?_
               exact ⟨k_111, Nat.lt_succ_self _, l_130, (w64 (i_71 * 2)), H, hst.keep _ ⟨rfl, rfl, rfl, rfl, trivial⟩, hsh.pick [0]⟩
             · refine wq_seq ?_
               refine wq_region_lit (.inl rfl) ?_
               refine r_t hst trivial rfl (x_move hst rfl) ?_; intro a hst
               refine r_t hst trivial rfl (x_move hst rfl) ?_; intro a hst
               refine r_t hst trivial rfl (x_arI (r := w64 (i_127 + i_71)) hst rfl rfl rfl) ?_; intro a hst
               refine r_t hst trivial rfl (x_assign hst rfl) ?_; intro a hst
               refine wpL_nil ?_
               refine then_normal ?_
               refine wq_seq ?_
               refine wq_region_lit (.inl rfl) ?_
               refine r_t hst trivial rfl (x_move hst rfl) ?_; intro a hst
               refine r_t hst trivial rfl (x_move hst rfl) ?_; intro a hst
               refine r_t hst trivial rfl (x_cmpI (b := decide ((w64 (i_127 + i_71)) < a1)) hst rfl rfl rfl) ?_; intro a hst
               refine wpL_nil ?_
               refine then_normal ?_
               by_cases c135 : (decide ((w64 (i_127 + i_71)) < a1)) = true
               · rw [if_pos c135] at H
                 refine wq_condT hst rfl c135 ?_
                 refine wq_region_lit (.inl rfl) ?_
                 refine r_t hst trivial rfl (x_move hst rfl) ?_; intro a hst
                 refine r_t hst trivial rfl (x_move hst rfl) ?_; intro a hst
                 refine r_t hst trivial rfl (x_move hst rfl) ?_; intro a hst
                 refine r_t hst trivial rfl (x_move hst rfl) ?_; intro a hst
                 refine r_t hst trivial rfl (x_move hst rfl) ?_; intro a hst
                 replace hsh := hsh.pick [0]
                 obtain ⟨GG138, hsp, hG, hbx, hfx, hk⟩ := SH.callD (L1 := [Row k_File 43 va0 l_126]) (L2 := []) hsh
                 obtain ⟨r136, hr136, H⟩ := Option.bind_eq_some_iff.1 H
                 refine r_callD hst trivial rfl fn_82 rfl (slices_symMergeCmpFunc_File.calls k_111 _ GG138 _ l_126 i_127 (w64 (i_127 + i_71)) a1 va2 Za2 wra2 (Same.sh2 hsa2 hda2 hsh) (disj_own hsa2 hda2 hG) a2 hra2 hsp r136 hr136) ?_
                 rintro e w137 ⟨rfl, hc⟩
                 replace hsh := hk _ _ hc
                 clear hc
                 refine ⟨_, rfl, fun a hst => ?_⟩
                 refine wpL_nil ?_
                 refine then_normal ?_
                 exact ⟨r136, H, hst.keep _ ⟨rfl, rfl, rfl, rfl, trivial⟩, hsh.pick [0]⟩
               · rw [if_neg c135] at H
                 replace c135 := Bool.eq_false_iff.2 c135
                 refine wq_condF hst rfl c135 ?_
                 refine wq_skip ?_
                 refine then_normal ?_
                 exact ⟨l_126, H, hst.keep _ ⟨rfl, rfl, rfl, rfl, trivial⟩, hsh.pick [0]⟩
           · refine wq_block ?_
             refine wq_loop_fuel (fun k_146 a w' => ∃ (l_138 : (List File)), ∃ (i_139 : Int), ∃ (i_140 : Int), slices_stableCmpFunc_File.l2 a1 a2 i_71 J_129 k_146 l_138 i_139 i_140 = some r ∧ ST [] Try.f67.ntmps a [(0, va0), (1, .int .i64 a1), (2, va2), (6, .int .i64 i_71), (7, .int .i64 i_139), (8, .int .i64 i_140)] ∧ SH GG w w' [Row k_File 43 va0 l_138]) k_111 ?_ ?_
             · exact ⟨l_70, 0, (w64 (2 * i_71)), H, hst.keep _ ⟨rfl, rfl, rfl, rfl, rfl, rfl, trivial⟩, hsh.pick [0]⟩
             · rintro k_146 a W_141 ⟨l_138, i_139, i_140, H, hst, hsh⟩
               cases k_146 with
               | zero => rw [slices_stableCmpFunc_File.l2] at H; cases H
               | succ k_146 =>
                rw [slices_stableCmpFunc_File.l2] at H
                refine wq_seq ?_
                refine wq_seq ?_
                refine wq_region_lit (.inl rfl) ?_
                refine r_t hst trivial rfl (x_move hst rfl) ?_; intro a hst
                refine r_t hst trivial rfl (x_move hst rfl) ?_; intro a hst
                refine r_t hst trivial rfl (x_cmpI (b := decide (i_140 ≤ a1)) hst rfl rfl rfl) ?_; intro a hst
                refine wpL_nil ?_
                refine then_normal ?_
                by_cases c150 : (decide (i_140 ≤ a1)) = true
                · rw [if_pos c150] at H
                  refine wq_condT hst rfl c150 ?_
                  refine wq_skip ?_
                  refine then_normal ?_
                  refine wq_block ?_
                  refine wq_seq ?_
                  refine wq_region_lit (.inl rfl) ?_
                  refine r_t hst trivial rfl (x_move hst rfl) ?_; intro a hst
                  refine r_t hst trivial rfl (x_move hst rfl) ?_; intro a hst
                  refine r_t hst trivial rfl (x_move hst rfl) ?_; intro a hst
                  refine r_t hst trivial rfl (x_move hst rfl) ?_; intro a hst
                  refine r_t hst trivial rfl (x_arI (r := w64 (i_139 + i_71)) hst rfl rfl rfl) ?_; intro a hst
                  refine r_t hst trivial rfl (x_move hst rfl) ?_; intro a hst
                  refine r_t hst trivial rfl (x_move hst rfl) ?_; intro a hst
                  replace hsh := hsh.pick [0]
                  obtain ⟨GG153, hsp, hG, hbx, hfx, hk⟩ := SH.callD (L1 := [Row k_File 43 va0 l_138]) (L2 := []) hsh
                  obtain ⟨r151, hr151, H⟩ := Option.bind_eq_some_iff.1 H
                  refine r_callD hst trivial rfl fn_82 rfl (slices_symMergeCmpFunc_File.calls k_146 _ GG153 _ l_138 i_139 (w64 (i_139 + i_71)) i_140 va2 Za2 wra2 (Same.sh2 hsa2 hda2 hsh) (disj_own hsa2 hda2 hG) a2 hra2 hsp r151 hr151) ?_
                  rintro e w152 ⟨rfl, hc⟩
                  replace hsh := hk _ _ hc
                  clear hc
                  refine ⟨_, rfl, fun a hst => ?_⟩
                  refine wpL_nil ?_
                  refine then_normal ?_
                  refine wq_seq ?_
                  refine wq_region_lit (.inl rfl) ?_
                  refine r_t hst trivial rfl (x_move hst rfl) ?_; intro a hst
                  refine r_t hst trivial rfl (x_assign hst rfl) ?_; intro a hst
                  refine wpL_nil ?_
                  refine then_normal ?_
                  refine wq_region_lit (.inl rfl) ?_
                  refine r_t hst trivial rfl (x_move hst rfl) ?_; intro a hst
                  refine r_t hst trivial rfl (x_move hst rfl) ?_; intro a hst
                  refine r_t hst trivial rfl (x_arI (r := w64 (2 * i_71)) hst rfl rfl rfl) ?_; intro a hst
                  refine r_t hst trivial rfl (x_arI (r := w64 (i_140 + (w64 (2 * i_71)))) hst rfl rfl rfl) ?_; intro a hst
                  refine r_t hst trivial rfl (x_assign hst rfl) ?_; intro a hst
                  refine wpL_nil ?_
                  refine block_normal ?_
                  refine then_normal ?_
                  exact ⟨k_146, Nat.lt_succ_self _, r151, i_140, (w64 (i_140 + (w64 (2 * i_71)))), H, hst.keep _ ⟨rfl, rfl, rfl, rfl, rfl, rfl, trivial⟩, hsh.pick [0]⟩
                · rw [if_neg c150] at H
                  replace c150 := Bool.eq_false_iff.2 c150
                  refine wq_condF hst rfl c150 ?_
                  refine wq_exit ?_
                  refine then_exit ?_
                  refine then_exit ?_
                  refine block_hit ?_
                  refine then_normal ?_
                  exact ⟨l_138, i_139, H, hst.keep _ ⟨rfl, rfl, rfl, rfl, rfl, trivial⟩, hsh.pick [0]⟩
         · rw [if_neg c115] at H
           replace c115 := Bool.eq_false_iff.2 c115
           refine wq_condF hst rfl c115 ?_
           refine wq_exit ?_
           refine then_exit ?_
           refine then_exit ?_
           refine block_hit ?_
           obtain rfl := Option.some.inj H
           exact end0 hst rfl ⟨rfl, hsh.pick [0]⟩

set_option maxHeartbeats 4000000 in
set_option maxRecDepth 100000 in
theorem slices_SortStableFunc_File.calls (k : Nat) (w : World) (GG : Nat → Prop) (va0 : Value) (a0 : (List File)) (va1 : Value) (Za1 : Nat → Prop) (wra1 : World) (hsa1 : Same Za1 wra1 w) (hda1 : ∀ k, Za1 k → k < wra1.heap.size → ¬ GG k) (a1 : (File → File → Option Int)) (hra1 : ∀ (w : World) (x0 : File) (x1 : File) (r : Int), Same Za1 wra1 w → a1 x0 x1 = some r → CallsV Try.prog va1 [.agg #[.int .i64 x0.Number, .int .i64 x0.Size, .string x0.Least, .string x0.Limit, .int .u64 x0.Low, .int .u64 x0.High], .agg #[.int .i64 x1.Number, .int .i64 x1.Size, .string x1.Least, .string x1.Limit, .int .u64 x1.Low, .int .u64 x1.High]] w (fun e w'' => e = .returned (.int .i64 r) ∧ SH (fun _ => False) w w'' [])) (hsep : Sep GG w [Row k_File 43 va0 a0]) (r : (List File)) (h : slices_SortStableFunc_File k a0 a1 = some r) :
    Calls Try.prog 60 ([va0, va1] : List Value).toArray w fun e w' => e = .returned (.tuple #[]) ∧ SH GG w w' [Row k_File 43 va0 r] := by
 have H := h
 clear h
 unfold slices_SortStableFunc_File at H
 refine calls_enter Try.func60 rfl rfl ?_
 intro a hst
 have hsh := SH.start hsep
 refine wq_region_lit (.inl rfl) ?_
 refine r_t hst trivial rfl (x_move hst rfl) ?_; intro a hst
 refine r_t hst trivial rfl (x_move hst rfl) ?_; intro a hst
 refine r_t hst trivial rfl (x_lenSl hst Try.underlying39 rfl (hsh.row 0 rfl).slen) ?_; intro a hst
 refine r_t hst trivial rfl (x_move hst rfl) ?_; intro a hst
 replace hsh := hsh.pick [0]
 obtain ⟨GG3, hsp, hG, hbx, hfx, hk⟩ := SH.callD (L1 := [Row k_File 43 va0 a0]) (L2 := []) hsh
 obtain ⟨r1, hr1, H⟩ := Option.bind_eq_some_iff.1 H
 refine r_callD hst trivial rfl fn_67 rfl (slices_stableCmpFunc_File.calls k _ GG3 _ a0 (a0.length : Int) va1 Za1 wra1 (Same.sh2 hsa1 hda1 hsh) (disj_own hsa1 hda1 hG) a1 hra1 hsp r1 hr1) ?_
 rintro e w2 ⟨rfl, hc⟩
 replace hsh := hk _ _ hc
 clear hc
 refine ⟨_, rfl, fun a hst => ?_⟩
 refine wpL_nil ?_
 obtain rfl := Option.some.inj H
 exact end0 hst rfl ⟨rfl, hsh.pick [0]⟩

set_option maxHeartbeats 4000000 in
set_option maxRecDepth 100000 in
theorem version_sorted.calls (k : Nat) (w : World) (GG : Nat → Prop) (a0 : Int) (va1 : Value) (a1 : (List File)) (hsep : Sep GG w [Row k_File 43 va1 a1]) (r : (List File)) (h : version_sorted k a0 a1 = some r) :
    Calls Try.prog 44 ([.int .i64 a0, va1] : List Value).toArray w fun e w' => ∃ v0_ : Value, e = .returned (v0_) ∧ SH GG w w' [Row k_File 43 v0_ r] := by
 have H := h
 clear h
 unfold version_sorted at H
 refine calls_enter Try.func44 rfl rfl ?_
 intro a hst
 have hsh := SH.start hsep
 refine wq_seq ?_
 refine wq_region_lit (.inl rfl) ?_
 refine r_box hst hsh trivial rfl rfl rfl ?_
 intro g1 a w2 hgg1 hsh hst
 refine r_t hst trivial rfl (x_assign hst rfl) ?_; intro a hst
 refine wpL_nil ?_
 refine then_normal ?_
 refine wq_seq ?_
 refine wq_region_lit (.inl rfl) ?_
 refine r_t hst trivial rfl (x_move hst rfl) ?_; intro a hst
 refine r_t hst trivial rfl (x_makeFunc hst rfl) ?_; intro a hst
 replace hsh := hsh.pick [1, 0]
 obtain ⟨GG5, hsp, hG, hbx, hfx, hk⟩ := SH.callD (L1 := [Row k_File 43 va1 a1]) (L2 := [Box g1 [.int .i64 a0] 3]) hsh
 obtain ⟨r3, hr3, H⟩ := Option.bind_eq_some_iff.1 H
 refine r_callD hst trivial rfl fn_60 rfl (slices_SortStableFunc_File.calls k _ GG5 _ a1 (.func (.func 61) #[] #[.pointer (some ⟨g1, 0, none⟩)]) (fun k => k = g1) w2 (Same.refl _ _) (fun _ hz _ => by cases hz; exact hbx 0 rfl) (fun x0 x1 => version_sorted_1 x0 x1 a0) (fun w1 x0 x1 r hs h => ⟨_, _, rfl, fn_61, version_sorted_1.calls w1 x0 x1 a0 g1 _ _ hs rfl (hsh.box 1 rfl) r h⟩) hsp r3 hr3) ?_
 rintro e w4 ⟨rfl, hc⟩
 replace hsh := hk _ _ hc
 clear hc
 refine ⟨_, rfl, fun a hst => ?_⟩
 refine wpL_nil ?_
 refine then_normal ?_
 refine wq_seq ?_
 refine wq_region_lit (.inl rfl) ?_
 refine r_t hst trivial rfl (x_move hst rfl) ?_; intro a hst
 refine r_t hst trivial rfl (x_assign hst rfl) ?_; intro a hst
 refine wpL_nil ?_
 refine then_normal ?_
 refine wq_ret ?_
 obtain rfl := Option.some.inj H
 exact ret1 hst rfl rfl ⟨va1, rfl, hsh.pick [0]⟩

set_option maxHeartbeats 4000000 in
set_option maxRecDepth 100000 in
theorem version_Apply.calls (k : Nat) (w : World) (va0 : Value) (Za0 : Nat → Prop) (wra0 : World) (hsa0 : Same Za0 wra0 w) (a0 : (List (List File))) (hra0 : RD (Kd.slice 43 k_File) Za0 wra0 va0 a0) (a1 : Edit) (va1_0 : Value) (Za1_0 : Nat → Prop) (wra1_0 : World) (hsa1_0 : Same Za1_0 wra1_0 w) (hra1_0 : RD k_Place Za1_0 wra1_0 va1_0 a1.Gone) (va1_1 : Value) (Za1_1 : Nat → Prop) (wra1_1 : World) (hsa1_1 : Same Za1_1 wra1_1 w) (hra1_1 : RD k_Added Za1_1 wra1_1 va1_1 a1.Come) (r : ((List (List File)) × Int)) (h : version_Apply k a0 a1 = some r) :
    Calls Try.prog 14 ([va0, .agg #[.int .i64 a1.Log, .int .i64 a1.Next, .int .u64 a1.Seq, va1_0, va1_1]] : List Value).toArray w fun e w' => ∃ v0_ : Value, e = .returned (.tuple #[v0_, .int .i64 r.2]) ∧ SH (fun _ => False) w w' [Row (Kd.slice 43 k_File) 39 v0_ r.1] := by
 have H := h
 clear h
 unfold version_Apply at H
 refine calls_enter Try.func14 rfl rfl ?_
 intro a hst
 have hsh := SH.zero (fun _ => False) w
 refine wq_seq ?_
 refine wq_region_lit (.inl rfl) ?_
 refine r_box hst hsh trivial rfl rfl rfl ?_
 intro g1 a w2 hgg1 hsh hst
 refine r_t hst trivial rfl (x_assign hst rfl) ?_; intro a hst
 refine r_t hst trivial rfl (x_assign hst rfl) ?_; intro a hst
 refine wpL_nil ?_
 refine then_normal ?_
 refine wq_seq ?_
 refine wq_seq ?_
 refine wq_region_lit (.inl rfl) ?_
 refine r_t hst trivial rfl (x_move hst rfl) ?_; intro a hst
 obtain ⟨r6, hr6, H⟩ := Option.bind_eq_some_iff.1 H
 refine r_callD hst trivial rfl fn_12 rfl (version_Valid.calls k _ _ _ _ (Same.sh0 hsa0 hsh) _ hra0 r6 hr6) ?_
 rintro e w7 ⟨rfl, hc⟩
 replace hsh := hsh.call0 hc
 clear hc
 refine ⟨_, rfl, fun a hst => ?_⟩
 refine r_t hst trivial rfl (x_notB hst rfl) ?_; intro a hst
 refine wpL_nil ?_
 refine then_normal ?_
 by_cases c8 : (!r6) = true
 · rw [if_pos c8] at H
   refine wq_condT hst rfl c8 ?_
   refine wq_seq ?_
   refine wq_region_lit (.inl rfl) ?_
   refine r_t hst trivial rfl (x_assign hst rfl) ?_; intro a hst
   refine r_t hst trivial rfl (x_assign hst rfl) ?_; intro a hst
   refine wpL_nil ?_
   refine then_normal ?_
   refine wq_ret ?_
   refine then_ret ?_
   obtain rfl := Option.some.inj H
   have hsh := hsh.addNil (Kd.slice 43 k_File) 39
   exact ret2 hst rfl rfl rfl ⟨(.slice none 0 0), rfl, hsh.pick [0]⟩
 · rw [if_neg c8] at H
   replace c8 := Bool.eq_false_iff.2 c8
   refine wq_condF hst rfl c8 ?_
   refine wq_skip ?_
   refine then_normal ?_
   refine wq_seq ?_
   refine wq_region_lit (.inl rfl) ?_
   refine r_t hst trivial rfl (x_move hst rfl) ?_; intro a hst
   obtain ⟨r10, hr10, H⟩ := Option.bind_eq_some_iff.1 H
   refine r_callD hst trivial rfl fn_40 rfl (version_copied.calls k _ _ _ _ (Same.sh0 hsa0 hsh) _ hra0 r10 hr10) ?_
   rintro e w11 ⟨v12, rfl, hc⟩
   replace hsh := hsh.call0 hc
   clear hc
   refine ⟨_, rfl, fun a hst => ?_⟩
   refine r_t hst trivial rfl (x_assign hst rfl) ?_; intro a hst
   refine wpL_nil ?_
   refine then_normal ?_
   refine wq_seq ?_
   refine wq_seq ?_
   refine wq_region_lit (.inl rfl) ?_
   refine r_t hst trivial rfl (x_fieldAddr (j' := 3) hst fa_28_3 rfl rfl) ?_; intro a hst
   refine r_t hst trivial rfl (x_loadB (i := 1) hst hsh sc_25 rfl rfl rfl) ?_; intro a hst
   refine r_t hst trivial rfl (x_lenSl hst Try.underlying25 rfl hra1_0.slen) ?_; intro a hst
   refine r_t hst trivial rfl (x_move hst rfl) ?_; intro a hst
   refine wpL_nil ?_
   refine then_normal ?_
   refine wq_block ?_
   refine wq_loop_fuel (fun k_22 a w' => ∃ (l_16 : (List (List File))), ∃ (i_17 : Int), version_Apply.l0 a1 k_22 l_16 i_17 = some r ∧ ST [] Try.f14.ntmps a [(3, .pointer (some ⟨g1, 0, none⟩)), (4, (.slice none 0 0)), (5, .int .i64 0), (6, v12), (19, va1_0), (20, .int .i64 (a1.Gone.length : Int)), (21, .int .i64 i_17)] ∧ SH (fun _ => False) w w' [Box g1 [.int .i64 a1.Log, .int .i64 a1.Next, .int .u64 a1.Seq, va1_0, va1_1] 28, Row (Kd.slice 43 k_File) 39 v12 l_16]) k ?_ ?_
   · exact ⟨r10, 0, H, hst.keep _ ⟨rfl, rfl, rfl, rfl, rfl, rfl, rfl, trivial⟩, hsh.pick [1, 0]⟩
   · rintro k_22 a W_18 ⟨l_16, i_17, H, hst, hsh⟩
     cases k_22 with
     | zero => rw [version_Apply.l0] at H; cases H
     | succ k_22 =>
      rw [version_Apply.l0] at H
      refine wq_seq ?_
      refine wq_region_lit (.inl rfl) ?_
      refine r_t hst trivial rfl (x_cmpI (b := decide (i_17 < (a1.Gone.length : Int))) hst rfl rfl rfl) ?_; intro a hst
      refine wpL_nil ?_
      refine then_normal ?_
      refine wq_seq ?_
      by_cases c375 : (decide (i_17 < (a1.Gone.length : Int))) = true
      · rw [if_pos c375] at H
        refine wq_condT hst rfl c375 ?_
        refine wq_skip ?_
        refine then_normal ?_
        refine wq_seq ?_
        refine wq_block ?_
        refine wq_seq ?_
        refine wq_region_lit (.inl rfl) ?_
        obtain ⟨x411, hx411, H⟩ := Option.bind_eq_some_iff.1 H
        refine r_t hst trivial rfl (x_indexAddr hst Try.underlying25 el_41 rfl rfl hra1_0 hx411) ?_; intro a hst
        refine r_t hst trivial rfl (x_loadEsF (j := 0) (cs := [.int .i64 x411.Level, .int .i64 x411.Number]) (ps := [.int .i64 x411.Level, .int .i64 x411.Number]) hst ag_41 rfl hra1_0 (Same.sh0 hsa1_0 hsh) hx411 rfl (fun _ h => h) rfl) ?_; intro a hst
        refine r_alloc hst hsh trivial rfl zr_41 ?_
        intro g412 a w413 hgg412 hsh hst
        refine r_storeBs (i := 0) (cs' := [.int .i64 x411.Level, .int .i64 x411.Number]) (vs := [.int .i64 x411.Level, .int .i64 x411.Number]) hst hsh trivial ag_41 rfl rfl rfl rfl rfl rfl ?_; intro a w414 hsh hst
        refine wpL_nil ?_
        refine then_normal ?_
        refine wq_seq ?_
        refine wq_seq ?_
        refine wq_region_lit (.inl rfl) ?_
        refine r_t hst trivial rfl (x_fieldAddr (j' := 0) hst fa_41_0 rfl rfl) ?_; intro a hst
        refine r_t hst trivial rfl (x_loadB (i := 0) hst hsh sc_3 rfl rfl rfl) ?_; intro a hst
        refine r_t hst trivial rfl (x_cmpI (b := decide (x411.Level < 0)) hst rfl rfl rfl) ?_; intro a hst
        refine r_t hst trivial rfl (x_move hst rfl) ?_; intro a hst
        refine wl_join0 (Δ := []) (N := Try.f14.ntmps) 10 [(3, .pointer (some ⟨g1, 0, none⟩)), (4, (.slice none 0 0)), (5, .int .i64 0), (6, v12), (8, .pointer (some ⟨g412, 0, none⟩)), (19, va1_0), (20, .int .i64 (a1.Gone.length : Int)), (21, .int .i64 i_17), (34, .bool ((decide (x411.Level < 0)) || (decide ((l_16.length : Int) ≤ x411.Level))))] ?_ ?_
        · intro a hst
          refine wpL_nil ?_
          refine then_normal ?_
          by_cases c418 : ((decide (x411.Level < 0)) || (decide ((l_16.length : Int) ≤ x411.Level))) = true
          · rw [if_pos c418] at H
            refine wq_condT hst rfl c418 ?_
            refine wq_seq ?_
            refine wq_region_lit (.inl rfl) ?_
            refine r_t hst trivial rfl (x_assign hst rfl) ?_; intro a hst
            refine r_t hst trivial rfl (x_assign hst rfl) ?_; intro a hst
            refine wpL_nil ?_
            refine then_normal ?_
            refine wq_ret ?_
            refine then_ret ?_
            refine block_ret ?_
            refine then_ret ?_
            refine then_ret ?_
            refine block_ret ?_
            refine then_ret ?_
            obtain rfl := Option.some.inj H
            have hsh := hsh.addNil (Kd.slice 43 k_File) 39
            exact ret2 hst rfl rfl rfl ⟨(.slice none 0 0), rfl, hsh.pick [0]⟩
          · rw [if_neg c418] at H
            replace c418 := Bool.eq_false_iff.2 c418
            refine wq_condF hst rfl c418 ?_
            refine wq_skip ?_
            refine then_normal ?_
            refine wq_seq ?_
            refine wq_region_lit (.inl rfl) ?_
            refine r_t hst trivial rfl (x_move hst rfl) ?_; intro a hst
            refine r_t hst trivial rfl (x_fieldAddr (j' := 0) hst fa_41_0 rfl rfl) ?_; intro a hst
            refine r_t hst trivial rfl (x_loadB (i := 0) hst hsh sc_3 rfl rfl rfl) ?_; intro a hst
            obtain ⟨Z420, hoZ420, hsh⟩ := hsh.freeze 2 rfl
            have hRZ420 := hoZ420.rd
            obtain ⟨x421, hx421, H⟩ := Option.bind_eq_some_iff.1 H
            refine r_t hst trivial rfl (x_indexAddr hst Try.underlying23 el_39 rfl rfl hRZ420 hx421) ?_; intro a hst
            obtain ⟨_, hk422, hc423⟩ := RD.cells2 hRZ420 hx421
            obtain ⟨v424, rfl, hr425⟩ := hk422
            refine r_t hst trivial rfl (x_loadC hst sc_39 rfl (hc423 _ (hsh.frz 0 rfl) 0 _ rfl)) ?_; intro a hst
            refine r_t hst trivial rfl (x_makeFunc hst rfl) ?_; intro a hst
            obtain ⟨r426, hr426, H⟩ := Option.bind_eq_some_iff.1 H
            refine r_callD hst trivial rfl fn_41 rfl (slices_IndexFunc_File.calls k_22 _ _ _ _ (hsh.frz 0 rfl) _ hr425 (.func (.func 42) #[] #[.pointer (some ⟨g412, 0, none⟩)]) (fun k => k = g412) w414 (Same.refl _ _) (fun x0 => version_Apply_1 x0 x411) (fun w1 x0 r hs h => ⟨_, _, rfl, fn_42, version_Apply_1.calls w1 x0 x411 g412 _ _ hs rfl (hsh.box 1 rfl) r h⟩) r426 hr426) ?_
            rintro e w427 ⟨rfl, hc⟩
            replace hsh := hsh.call0 hc
            clear hc
            refine ⟨_, rfl, fun a hst => ?_⟩
            refine r_t hst trivial rfl (x_assign hst rfl) ?_; intro a hst
            refine wpL_nil ?_
            refine then_normal ?_
            refine wq_seq ?_
            refine wq_seq ?_
            refine wq_region_lit (.inl rfl) ?_
            refine r_t hst trivial rfl (x_move hst rfl) ?_; intro a hst
            refine r_t hst trivial rfl (x_cmpI (b := decide (r426 < 0)) hst rfl rfl rfl) ?_; intro a hst
            refine wpL_nil ?_
            refine then_normal ?_
            by_cases c429 : (decide (r426 < 0)) = true
            · rw [if_pos c429] at H
              refine wq_condT hst rfl c429 ?_
              refine wq_seq ?_
              refine wq_region_lit (.inl rfl) ?_
              refine r_t hst trivial rfl (x_assign hst rfl) ?_; intro a hst
              refine r_t hst trivial rfl (x_assign hst rfl) ?_; intro a hst
              refine wpL_nil ?_
              refine then_normal ?_
              refine wq_ret ?_
              refine then_ret ?_
              refine block_ret ?_
              refine then_ret ?_
              refine then_ret ?_
              refine block_ret ?_
              refine then_ret ?_
              obtain rfl := Option.some.inj H
              have hsh := hsh.addNil (Kd.slice 43 k_File) 39
              exact ret2 hst rfl rfl rfl ⟨(.slice none 0 0), rfl, hsh.pick [0]⟩
            · rw [if_neg c429] at H
              replace c429 := Bool.eq_false_iff.2 c429
              refine wq_condF hst rfl c429 ?_
              refine wq_skip ?_
              refine then_normal ?_
              refine wq_region_t (.inl rfl) (.fin [(3, 0), (3, 1), (4, 2), (3, 3), (3, 4), (4, 5), (3, 6), (0, 7), (3, 8), (3, 9), (3, 10), (2, 11), (3, 12), (2, 13)]) (fun w' => SH (fun _ => False) w w' [Box g412 [.int .i64 x411.Level, .int .i64 x411.Number] 41, Box g1 [.int .i64 a1.Log, .int .i64 a1.Next, .int .u64 a1.Seq, va1_0, va1_1] 28]) (fun w' => SH (fun _ => False) w w' [Frz Z420 w414, Box g412 [.int .i64 x411.Level, .int .i64 x411.Number] 41, Box g1 [.int .i64 a1.Log, .int .i64 a1.Next, .int .u64 a1.Seq, va1_0, va1_1] 28]) (fun w' => SH (fun _ => False) w w' [Frz Z420 w414, Box g412 [.int .i64 x411.Level, .int .i64 x411.Number] 41, Box g1 [.int .i64 a1.Log, .int .i64 a1.Next, .int .u64 a1.Seq, va1_0, va1_1] 28]) (shut_sh _ _ _) (shut_sh _ _ _) (shut_sh _ _ _) (sub_sh [1, 1] rfl) (sub_sh [0, 0, 0] rfl) hsh.drew fo (by kernel_rfl) ?_
              refine t_fin ?_
              refine m_p hst trivial rfl (fun _ => x_move hst rfl) ?_; intro a hst
              refine m_p hst trivial rfl (fun _ => x_fieldAddr (j' := 0) hst fa_41_0 rfl rfl) ?_; intro a hst
              refine m_e hst trivial rfl (fun _ hsh => x_loadB (i := 0) hst hsh sc_3 rfl rfl rfl) ?_; intro a hst
              refine m_p hst trivial rfl (fun _ => x_move hst rfl) ?_; intro a hst
              refine m_p hst trivial rfl (fun _ => x_fieldAddr (j' := 0) hst fa_41_0 rfl rfl) ?_; intro a hst
              refine m_e hst trivial rfl (fun _ hsh => x_loadB (i := 0) hst hsh sc_3 rfl rfl rfl) ?_; intro a hst
              obtain ⟨x431, hx431, H⟩ := Option.bind_eq_some_iff.1 H
              refine m_p hst trivial rfl (fun _ => x_indexAddr hst Try.underlying23 el_39 rfl rfl hRZ420 hx431) ?_; intro a hst
              obtain ⟨_, hk432, hc433⟩ := RD.cells2 hRZ420 hx431
              obtain ⟨v434, rfl, hr435⟩ := hk432
              refine m_t hst trivial rfl (fun _ hsh => x_loadC hst sc_39 rfl (hc433 _ (hsh.frz 0 rfl) 0 _ rfl)) ?_; intro a hst
              refine m_p hst trivial rfl (fun _ => x_move hst rfl) ?_; intro a hst
              refine m_p hst trivial rfl (fun _ => x_move hst rfl) ?_; intro a hst
              refine m_p hst trivial rfl (fun _ => x_arI (r := w64 (r426 + 1)) hst rfl rfl rfl) ?_; intro a hst
              refine m_loud (.inr rfl) ?_
              intro w436 hsh
              have hcl := hc433 _ (hsh.frz 0 rfl) 0 _ rfl
              replace hsh := hsh.thaw 0 rfl hoZ420
              replace hsh := hsh.takeOut 0 rfl hx431 hcl
              replace hsh := hsh.pick [1, 0, 0, 0]
              obtain ⟨GG440, hsp, hG, hbx, hfx, hk⟩ := SH.callD (L1 := [Row k_File 43 v434 x431]) (L2 := [RowH (Kd.slice 43 k_File) 39 v12 l_16 (Int.toNat x411.Level) v434, Box g412 [.int .i64 x411.Level, .int .i64 x411.Number] 41, Box g1 [.int .i64 a1.Log, .int .i64 a1.Next, .int .u64 a1.Seq, va1_0, va1_1] 28]) hsh
              obtain ⟨r437, hr437, H⟩ := Option.bind_eq_some_iff.1 H
              refine r_callD hst trivial rfl fn_43 rfl (slices_Delete_File.calls _ GG440 _ x431 r426 (w64 (r426 + 1)) hsp r437 hr437) ?_
              rintro e w438 ⟨v441, rfl, hc⟩
              replace hsh := hk _ _ hc
              clear hc
              refine ⟨_, rfl, fun a hst => ?_⟩
              refine m_turn hsh (sub_sh [2, 2] rfl) ?_
              obtain ⟨x443, hx443, H⟩ := Option.bind_eq_some_iff.1 H
              refine m_p hst trivial rfl (fun _ => x_indexAddr hst Try.underlying23 el_39 rfl rfl hRZ420 hx443) ?_; intro a hst
              refine m_loud (.inr rfl) ?_
              intro w444 hsh
              obtain ⟨l445, hl445, H⟩ := Option.bind_eq_some_iff.1 H
              replace hsh := hsh.pick [1, 0, 0, 0]
              obtain ⟨hlo, hlt, _⟩ := idx_some hx443
              refine r_put (M := [Box g412 [.int .i64 x411.Level, .int .i64 x411.Number] 41, Box g1 [.int .i64 a1.Log, .int .i64 a1.Next, .int .u64 a1.Seq, va1_0, va1_1] 28]) hst hsh trivial sc_39 rfl rfl rfl (by omega) rfl (one_slice (hsh.row 1 rfl).slen) ?_; intro a w446 hsh hst
              rw [← upd_some hl445] at hsh
              refine m_turn hsh (sub_sh [1, 1] rfl) ?_
              refine m_nil ?_
              intro w447 hsh
              refine qn_normal ?_
              refine block_normal ?_
              refine then_normal ?_
              refine wq_region_lit (.inl rfl) ?_
              refine r_t hst trivial rfl (x_arI (r := w64 (i_17 + 1)) hst rfl rfl rfl) ?_; intro a hst
              refine r_t hst trivial rfl (x_move hst rfl) ?_; intro a hst
              refine wpL_nil ?_
              refine then_normal ?_
              exact ⟨k_22, Nat.lt_succ_self _, l445, (w64 (i_17 + 1)), H, hst.keep _ ⟨rfl, rfl, rfl, rfl, rfl, rfl, rfl, trivial⟩, hsh.pick [2, 0]⟩
        · intro hj
          by_cases c417 : (decide (x411.Level < 0)) = true
          · refine r_not hst 28 rfl rfl c417 rfl ?_; intro a hst
            refine r_not hst 28 rfl rfl c417 rfl ?_; intro a hst
            refine r_not hst 28 rfl rfl c417 rfl ?_; intro a hst
            refine r_not hst 28 rfl rfl c417 rfl ?_; intro a hst
            refine r_not hst 28 rfl rfl c417 rfl ?_; intro a hst
            refine r_t hst trivial rfl (x_orT (decide ((l_16.length : Int) ≤ x411.Level)) hst rfl c417 rfl) ?_; intro a hst
            exact hj _ (hst.keep _ ⟨rfl, rfl, rfl, rfl, rfl, rfl, rfl, rfl, rfl, trivial⟩)
          · replace c417 := Bool.eq_false_iff.2 c417
            refine r_t hst (wt_of 28 rfl rfl c417) rfl (x_fieldAddr (j' := 0) hst fa_41_0 rfl rfl) ?_; intro a hst
            refine r_t hst (wt_of 28 rfl rfl c417) rfl (x_loadB (i := 0) hst hsh sc_3 rfl rfl rfl) ?_; intro a hst
            refine r_t hst (wt_of 28 rfl rfl c417) rfl (x_move hst rfl) ?_; intro a hst
            refine r_t hst (wt_of 28 rfl rfl c417) rfl (x_lenSl hst Try.underlying23 rfl (hsh.row 2 rfl).slen) ?_; intro a hst
            refine r_t hst (wt_of 28 rfl rfl c417) rfl (x_cmpI (b := decide ((l_16.length : Int) ≤ x411.Level)) hst rfl rfl rfl) ?_; intro a hst
            refine r_t hst trivial rfl (x_orF hst rfl c417 rfl) ?_; intro a hst
            exact hj _ (hst.keep _ ⟨rfl, rfl, rfl, rfl, rfl, rfl, rfl, rfl, rfl, trivial⟩)
      · rw [if_neg c375] at H
        replace c375 := Bool.eq_false_iff.2 c375
        refine wq_condF hst rfl c375 ?_
        refine wq_exit ?_
        refine then_exit ?_
        refine then_exit ?_
        refine block_hit ?_
        refine then_normal ?_
        obtain ⟨J_36, hJ_36, H⟩ := Jn.elim H
        refine wq_cut (fun a w' => ∃ (l_34 : (List (List File))), J_36 l_34 = some r ∧ ST [] Try.f14.ntmps a [(4, (.slice none 0 0)), (5, .int .i64 0), (6, v12)] ∧ SH (fun _ => False) w w' [Row (Kd.slice 43 k_File) 39 v12 l_34]) ?_ ?_
        · rintro a W_35 ⟨l_34, H, hst, hsh⟩
          subst hJ_36
          dsimp only at H
          obtain ⟨J_50, hJ_50, H⟩ := Jn.elim H
          refine wq_cut (fun a w' => ∃ (l_48 : (List (List File))), J_50 l_48 = some r ∧ ST [] Try.f14.ntmps a [(4, (.slice none 0 0)), (5, .int .i64 0), (6, v12)] ∧ SH (fun _ => False) w w' [Row (Kd.slice 43 k_File) 39 v12 l_48]) ?_ ?_
          · rintro a W_49 ⟨l_48, H, hst, hsh⟩
            subst hJ_50
            dsimp only at H
            refine wq_seq ?_
            refine wq_seq ?_
            refine wq_region_lit (.inl rfl) ?_
            refine r_t hst trivial rfl (x_move hst rfl) ?_; intro a hst
            obtain ⟨r715, hr715, H⟩ := Option.bind_eq_some_iff.1 H
            refine r_callD hst trivial rfl fn_12 rfl (version_Valid.calls k_22 _ _ _ _ (Same.refl _ _) _ (hsh.row 0 rfl) r715 hr715) ?_
            rintro e w716 ⟨rfl, hc⟩
            replace hsh := hsh.call0 hc
            clear hc
            refine ⟨_, rfl, fun a hst => ?_⟩
            refine r_t hst trivial rfl (x_notB hst rfl) ?_; intro a hst
            refine wpL_nil ?_
            refine then_normal ?_
            by_cases c717 : (!r715) = true
            · rw [if_pos c717] at H
              refine wq_condT hst rfl c717 ?_
              refine wq_seq ?_
              refine wq_region_lit (.inl rfl) ?_
              refine r_t hst trivial rfl (x_assign hst rfl) ?_; intro a hst
              refine r_t hst trivial rfl (x_assign hst rfl) ?_; intro a hst
              refine wpL_nil ?_
              refine then_normal ?_
              refine wq_ret ?_
              refine then_ret ?_
              obtain rfl := Option.some.inj H
              have hsh := hsh.addNil (Kd.slice 43 k_File) 39
              exact ret2 hst rfl rfl rfl ⟨(.slice none 0 0), rfl, hsh.pick [0]⟩
            · rw [if_neg c717] at H
              replace c717 := Bool.eq_false_iff.2 c717
              refine wq_condF hst rfl c717 ?_
              refine wq_skip ?_
              refine then_normal ?_
              refine wq_seq ?_
              refine wq_region_lit (.inl rfl) ?_
              refine r_t hst trivial rfl (x_move hst rfl) ?_; intro a hst
              refine r_t hst trivial rfl (x_assign hst rfl) ?_; intro a hst
              refine r_t hst trivial rfl (x_assign hst rfl) ?_; intro a hst
              refine wpL_nil ?_
              refine then_normal ?_
              refine wq_ret ?_
              obtain rfl := Option.some.inj H
              exact ret2 hst rfl rfl rfl ⟨v12, rfl, hsh.pick [0]⟩
          · refine wq_seq ?_
            refine wq_region_lit (.inl rfl) ?_
            refine r_t hst trivial rfl (x_move hst rfl) ?_; intro a hst
            refine r_t hst trivial rfl (x_lenSl hst Try.underlying23 rfl (hsh.row 0 rfl).slen) ?_; intro a hst
            refine r_t hst trivial rfl (x_move hst rfl) ?_; intro a hst
            refine wpL_nil ?_
            refine then_normal ?_
            refine wq_block ?_
            refine wq_loop_fuel (fun k_61 a w' => ∃ (l_55 : (List (List File))), ∃ (i_56 : Int), version_Apply.l1 l_34 J_50 k_61 l_55 i_56 = some r ∧ ST [] Try.f14.ntmps a [(4, (.slice none 0 0)), (5, .int .i64 0), (6, v12), (90, .int .i64 (l_34.length : Int)), (91, .int .i64 i_56)] ∧ SH (fun _ => False) w w' [Row (Kd.slice 43 k_File) 39 v12 l_55]) k_22 ?_ ?_
            · exact ⟨l_34, 0, H, hst.keep _ ⟨rfl, rfl, rfl, rfl, rfl, trivial⟩, hsh.pick [0]⟩
            · rintro k_61 a W_57 ⟨l_55, i_56, H, hst, hsh⟩
              cases k_61 with
              | zero => rw [version_Apply.l1] at H; cases H
              | succ k_61 =>
               rw [version_Apply.l1] at H
               refine wq_seq ?_
               refine wq_region_lit (.inl rfl) ?_
               refine r_t hst trivial rfl (x_cmpI (b := decide (i_56 < (l_34.length : Int))) hst rfl rfl rfl) ?_; intro a hst
               refine wpL_nil ?_
               refine then_normal ?_
               refine wq_seq ?_
               by_cases c784 : (decide (i_56 < (l_34.length : Int))) = true
               · rw [if_pos c784] at H
                 refine wq_condT hst rfl c784 ?_
                 refine wq_skip ?_
                 refine then_normal ?_
                 refine wq_seq ?_
                 refine wq_block ?_
                 refine wq_seq ?_
                 refine wq_region_lit (.inl rfl) ?_
                 refine r_t hst trivial rfl (x_move hst rfl) ?_; intro a hst
                 refine r_t hst trivial rfl (x_assign hst rfl) ?_; intro a hst
                 refine wpL_nil ?_
                 refine then_normal ?_
                 refine wq_region_lit (.inl rfl) ?_
                 refine r_t hst trivial rfl (x_move hst rfl) ?_; intro a hst
                 refine r_t hst trivial rfl (x_move hst rfl) ?_; intro a hst
                 refine r_t hst trivial rfl (x_move hst rfl) ?_; intro a hst
                 refine r_t hst trivial rfl (x_move hst rfl) ?_; intro a hst
                 refine r_t hst trivial rfl (x_move hst rfl) ?_; intro a hst
                 obtain ⟨Z800, hoZ800, hsh⟩ := hsh.freeze 0 rfl
                 have hRZ800 := hoZ800.rd
                 obtain ⟨x801, hx801, H⟩ := Option.bind_eq_some_iff.1 H
                 refine r_t hst trivial rfl (x_indexAddr hst Try.underlying23 el_39 rfl rfl hRZ800 hx801) ?_; intro a hst
                 obtain ⟨_, hk802, hc803⟩ := RD.cells2 hRZ800 hx801
                 obtain ⟨v804, rfl, hr805⟩ := hk802
                 refine r_t hst trivial rfl (x_loadC hst sc_39 rfl (hc803 _ (hsh.frz 0 rfl) 0 _ rfl)) ?_; intro a hst
                 have hcl := hc803 _ (hsh.frz 0 rfl) 0 _ rfl
                 replace hsh := hsh.thaw 0 rfl hoZ800
                 replace hsh := hsh.takeOut 0 rfl hx801 hcl
                 replace hsh := hsh.pick [1, 0]
                 obtain ⟨GG809, hsp, hG, hbx, hfx, hk⟩ := SH.callD (L1 := [Row k_File 43 v804 x801]) (L2 := [RowH (Kd.slice 43 k_File) 39 v12 l_55 (Int.toNat i_56) v804]) hsh
                 obtain ⟨r806, hr806, H⟩ := Option.bind_eq_some_iff.1 H
                 refine r_callD hst trivial rfl fn_44 rfl (version_sorted.calls k_61 _ GG809 i_56 _ x801 hsp r806 hr806) ?_
                 rintro e w807 ⟨v810, rfl, hc⟩
                 replace hsh := hk _ _ hc
                 clear hc
                 refine ⟨_, rfl, fun a hst => ?_⟩
                 obtain ⟨x812, hx812, H⟩ := Option.bind_eq_some_iff.1 H
                 refine r_t hst trivial rfl (x_indexAddrH (i := 1) hst hsh Try.underlying23 el_39 rfl rfl rfl hx812) ?_; intro a hst
                 obtain ⟨l813, hl813, H⟩ := Option.bind_eq_some_iff.1 H
                 replace hsh := hsh.pick [1, 0]
                 obtain ⟨hlo, hlt, _⟩ := idx_some hx812
                 refine r_put (M := []) hst hsh trivial sc_39 rfl rfl rfl (by omega) rfl (one_slice (hsh.row 1 rfl).slen) ?_; intro a w814 hsh hst
                 rw [← upd_some hl813] at hsh
                 refine wpL_nil ?_
                 refine block_normal ?_
                 refine then_normal ?_
                 refine wq_region_lit (.inl rfl) ?_
                 refine r_t hst trivial rfl (x_arI (r := w64 (i_56 + 1)) hst rfl rfl rfl) ?_; intro a hst
                 refine r_t hst trivial rfl (x_move hst rfl) ?_; intro a hst
                 refine wpL_nil ?_
                 refine then_normal ?_
                 exact ⟨k_61, Nat.lt_succ_self _, l813, (w64 (i_56 + 1)), H, hst.keep _ ⟨rfl, rfl, rfl, rfl, rfl, trivial⟩, hsh.pick [0]⟩
               · rw [if_neg c784] at H
                 replace c784 := Bool.eq_false_iff.2 c784
                 refine wq_condF hst rfl c784 ?_
                 refine wq_exit ?_
                 refine then_exit ?_
                 refine then_exit ?_
                 refine block_hit ?_
                 refine then_normal ?_
                 exact ⟨l_55, H, hst.keep _ ⟨rfl, rfl, rfl, trivial⟩, hsh.pick [0]⟩
        · refine wq_seq ?_
          refine wq_region_lit (.inl rfl) ?_
          refine r_t hst trivial rfl (x_fieldAddr (j' := 4) hst fa_28_4 rfl rfl) ?_; intro a hst
          refine r_t hst trivial rfl (x_loadB (i := 0) hst hsh sc_26 rfl rfl rfl) ?_; intro a hst
          refine r_t hst trivial rfl (x_lenSl hst Try.underlying26 rfl hra1_1.slen) ?_; intro a hst
          refine r_t hst trivial rfl (x_move hst rfl) ?_; intro a hst
          refine wpL_nil ?_
          refine then_normal ?_
          refine wq_block ?_
          refine wq_loop_fuel (fun k_72 a w' => ∃ (l_66 : (List (List File))), ∃ (i_67 : Int), version_Apply.l2 a1 J_36 k_72 l_66 i_67 = some r ∧ ST [] Try.f14.ntmps a [(4, (.slice none 0 0)), (5, .int .i64 0), (6, v12), (59, va1_1), (60, .int .i64 (a1.Come.length : Int)), (61, .int .i64 i_67)] ∧ SH (fun _ => False) w w' [Row (Kd.slice 43 k_File) 39 v12 l_66]) k_22 ?_ ?_
          · exact ⟨l_16, 0, H, hst.keep _ ⟨rfl, rfl, rfl, rfl, rfl, rfl, trivial⟩, hsh.pick [1]⟩
          · rintro k_72 a W_68 ⟨l_66, i_67, H, hst, hsh⟩
            cases k_72 with
            | zero => rw [version_Apply.l2] at H; cases H
            | succ k_72 =>
             rw [version_Apply.l2] at H
             refine wq_seq ?_
             refine wq_region_lit (.inl rfl) ?_
             refine r_t hst trivial rfl (x_cmpI (b := decide (i_67 < (a1.Come.length : Int))) hst rfl rfl rfl) ?_; intro a hst
             refine wpL_nil ?_
             refine then_normal ?_
             refine wq_seq ?_
             by_cases c928 : (decide (i_67 < (a1.Come.length : Int))) = true
             · rw [if_pos c928] at H
               refine wq_condT hst rfl c928 ?_
               refine wq_skip ?_
               refine then_normal ?_
               refine wq_seq ?_
               refine wq_block ?_
               refine wq_seq ?_
               refine wq_region_lit (.inl rfl) ?_
               obtain ⟨x956, hx956, H⟩ := Option.bind_eq_some_iff.1 H
               refine r_t hst trivial rfl (x_indexAddr hst Try.underlying26 el_45 rfl rfl hra1_1 hx956) ?_; intro a hst
               refine r_t hst trivial rfl (x_loadEsF (j := 0) (cs := [.int .i64 x956.Level, .int .i64 x956.File.Number, .int .i64 x956.File.Size, .string x956.File.Least, .string x956.File.Limit, .int .u64 x956.File.Low, .int .u64 x956.File.High]) (ps := [.int .i64 x956.Level, .int .i64 x956.File.Number, .int .i64 x956.File.Size, .string x956.File.Least, .string x956.File.Limit, .int .u64 x956.File.Low, .int .u64 x956.File.High]) hst ag_45 rfl hra1_1 (Same.sh0 hsa1_1 hsh) hx956 rfl (fun _ h => h) rfl) ?_; intro a hst
               refine r_alloc hst hsh trivial rfl zr_45 ?_
               intro g957 a w958 hgg957 hsh hst
               refine r_storeBs (i := 0) (cs' := [.int .i64 x956.Level, .int .i64 x956.File.Number, .int .i64 x956.File.Size, .string x956.File.Least, .string x956.File.Limit, .int .u64 x956.File.Low, .int .u64 x956.File.High]) (vs := [.int .i64 x956.Level, .int .i64 x956.File.Number, .int .i64 x956.File.Size, .string x956.File.Least, .string x956.File.Limit, .int .u64 x956.File.Low, .int .u64 x956.File.High]) hst hsh trivial ag_45 rfl rfl rfl rfl rfl rfl ?_; intro a w959 hsh hst
               refine wpL_nil ?_
               refine then_normal ?_
               refine wq_seq ?_
               refine wq_seq ?_
               refine wq_region_lit (.inl rfl) ?_
               refine r_t hst trivial rfl (x_fieldAddr (j' := 0) hst fa_45_0 rfl rfl) ?_; intro a hst
               refine r_t hst trivial rfl (x_loadB (i := 0) hst hsh sc_3 rfl rfl rfl) ?_; intro a hst
               refine r_t hst trivial rfl (x_cmpI (b := decide (x956.Level < 0)) hst rfl rfl rfl) ?_; intro a hst
               refine r_t hst trivial rfl (x_move hst rfl) ?_; intro a hst
               refine wl_join0 (Δ := []) (N := Try.f14.ntmps) 10 [(4, (.slice none 0 0)), (5, .int .i64 0), (6, v12), (11, .pointer (some ⟨g957, 0, none⟩)), (59, va1_1), (60, .int .i64 (a1.Come.length : Int)), (61, .int .i64 i_67), (74, .bool ((decide (x956.Level < 0)) || (decide ((l_66.length : Int) ≤ x956.Level))))] ?_ ?_
               · intro a hst
                 refine wpL_nil ?_
                 refine then_normal ?_
                 by_cases c963 : ((decide (x956.Level < 0)) || (decide ((l_66.length : Int) ≤ x956.Level))) = true
                 · rw [if_pos c963] at H
                   refine wq_condT hst rfl c963 ?_
                   refine wq_seq ?_
                   refine wq_region_lit (.inl rfl) ?_
                   refine r_t hst trivial rfl (x_assign hst rfl) ?_; intro a hst
                   refine r_t hst trivial rfl (x_assign hst rfl) ?_; intro a hst
                   refine wpL_nil ?_
                   refine then_normal ?_
                   refine wq_ret ?_
                   refine then_ret ?_
                   refine block_ret ?_
                   refine then_ret ?_
                   refine then_ret ?_
                   refine block_ret ?_
                   refine then_ret ?_
                   obtain rfl := Option.some.inj H
                   have hsh := hsh.addNil (Kd.slice 43 k_File) 39
                   exact ret2 hst rfl rfl rfl ⟨(.slice none 0 0), rfl, hsh.pick [0]⟩
                 · rw [if_neg c963] at H
                   replace c963 := Bool.eq_false_iff.2 c963
                   refine wq_condF hst rfl c963 ?_
                   refine wq_skip ?_
                   refine then_normal ?_
                   obtain ⟨Z965, hoZ965, hsh⟩ := hsh.freeze 1 rfl
                   have hRZ965 := hoZ965.rd
                   refine wq_region_t (.inl rfl) (.fin [(3, 0), (3, 1), (4, 2), (3, 3), (3, 4), (4, 5), (3, 6), (0, 7), (3, 8), (4, 9), (1, 10), (2, 11), (3, 12), (2, 13)]) (fun w' => SH (fun _ => False) w w' [Box g957 [.int .i64 x956.Level, .int .i64 x956.File.Number, .int .i64 x956.File.Size, .string x956.File.Least, .string x956.File.Limit, .int .u64 x956.File.Low, .int .u64 x956.File.High] 45]) (fun w' => SH (fun _ => False) w w' [Frz Z965 w959, Box g957 [.int .i64 x956.Level, .int .i64 x956.File.Number, .int .i64 x956.File.Size, .string x956.File.Least, .string x956.File.Limit, .int .u64 x956.File.Low, .int .u64 x956.File.High] 45]) (fun w' => SH (fun _ => False) w w' [Frz Z965 w959, Box g957 [.int .i64 x956.Level, .int .i64 x956.File.Number, .int .i64 x956.File.Size, .string x956.File.Least, .string x956.File.Limit, .int .u64 x956.File.Low, .int .u64 x956.File.High] 45]) (shut_sh _ _ _) (shut_sh _ _ _) (shut_sh _ _ _) (sub_sh [1] rfl) (sub_sh [0, 0] rfl) hsh.drew fo (by kernel_rfl) ?_
                   refine t_fin ?_
                   refine m_p hst trivial rfl (fun _ => x_move hst rfl) ?_; intro a hst
                   refine m_p hst trivial rfl (fun _ => x_fieldAddr (j' := 0) hst fa_45_0 rfl rfl) ?_; intro a hst
                   refine m_e hst trivial rfl (fun _ hsh => x_loadB (i := 0) hst hsh sc_3 rfl rfl rfl) ?_; intro a hst
                   refine m_p hst trivial rfl (fun _ => x_move hst rfl) ?_; intro a hst
                   refine m_p hst trivial rfl (fun _ => x_fieldAddr (j' := 0) hst fa_45_0 rfl rfl) ?_; intro a hst
                   refine m_e hst trivial rfl (fun _ hsh => x_loadB (i := 0) hst hsh sc_3 rfl rfl rfl) ?_; intro a hst
                   obtain ⟨x966, hx966, H⟩ := Option.bind_eq_some_iff.1 H
                   refine m_p hst trivial rfl (fun _ => x_indexAddr hst Try.underlying23 el_39 rfl rfl hRZ965 hx966) ?_; intro a hst
                   obtain ⟨_, hk967, hc968⟩ := RD.cells2 hRZ965 hx966
                   obtain ⟨v969, rfl, hr970⟩ := hk967
                   refine m_t hst trivial rfl (fun _ hsh => x_loadC hst sc_39 rfl (hc968 _ (hsh.frz 0 rfl) 0 _ rfl)) ?_; intro a hst
                   refine m_p hst trivial rfl (fun _ => x_fieldAddr (j' := 1) hst fa_45_1 rfl rfl) ?_; intro a hst
                   refine m_e hst trivial rfl (fun _ hsh => x_loadBs (i := 0) (ps := [.int .i64 x956.File.Number, .int .i64 x956.File.Size, .string x956.File.Least, .string x956.File.Limit, .int .u64 x956.File.Low, .int .u64 x956.File.High]) hst hsh ag_43 rfl rfl rfl) ?_; intro a hst
                   refine m_loud (.inl rfl) ?_
                   intro w971 hsh
                   refine r_buildSlice (vs := [.agg #[.int .i64 x956.File.Number, .int .i64 x956.File.Size, .string x956.File.Least, .string x956.File.Limit, .int .u64 x956.File.Low, .int .u64 x956.File.High]]) (cs := [.int .i64 x956.File.Number, .int .i64 x956.File.Size, .string x956.File.Least, .string x956.File.Limit, .int .u64 x956.File.Low, .int .u64 x956.File.High]) hst hsh trivial rfl Try.underlying39 el_43 rfl rfl (by simp [Value.cells]) rfl rfl ?_
                   intro g972 a w973 hgg972 hsh hst
                   refine m_on (MB := [Box g972 [.int .i64 x956.File.Number, .int .i64 x956.File.Size, .string x956.File.Least, .string x956.File.Limit, .int .u64 x956.File.Low, .int .u64 x956.File.High] 43, Frz Z965 w959, Box g957 [.int .i64 x956.Level, .int .i64 x956.File.Number, .int .i64 x956.File.Size, .string x956.File.Least, .string x956.File.Limit, .int .u64 x956.File.Low, .int .u64 x956.File.High] 45]) [0, 0, 0] [1, 1] rfl rfl hsh rfl (sub_sh [1] rfl) ?_
                   refine m_loud (.inr rfl) ?_
                   intro w974 hsh
                   have hcl := hc968 _ (hsh.frz 1 rfl) 0 _ rfl
                   replace hsh := hsh.thaw 1 rfl hoZ965
                   replace hsh := hsh.takeOut 0 rfl hx966 hcl
                   replace hsh := hsh.pick [1, 1, 0, 0]
                   obtain ⟨l976, hl976, H⟩ := Option.bind_eq_some_iff.1 H
                   refine r_append1 (xx := x956.File) (C := []) (M := [RowH (Kd.slice 43 k_File) 39 v12 l_66 (Int.toNat x956.Level) v969, Box g957 [.int .i64 x956.Level, .int .i64 x956.File.Number, .int .i64 x956.File.Size, .string x956.File.Least, .string x956.File.Limit, .int .u64 x956.File.Low, .int .u64 x956.File.High] 45]) hst hsh trivial rfl Try.underlying39 el_43 (by decide) (by decide) (by decide) rfl rfl (fun _ _ _ => rfl) hl976 ?_
                   intro v977 a w978 hsh hst
                   refine m_turn hsh (sub_sh [2] rfl) ?_
                   obtain ⟨x979, hx979, H⟩ := Option.bind_eq_some_iff.1 H
                   refine m_p hst trivial rfl (fun _ => x_indexAddr hst Try.underlying23 el_39 rfl rfl hRZ965 hx979) ?_; intro a hst
                   refine m_loud (.inr rfl) ?_
                   intro w980 hsh
                   obtain ⟨l981, hl981, H⟩ := Option.bind_eq_some_iff.1 H
                   replace hsh := hsh.pick [1, 0, 0]
                   obtain ⟨hlo, hlt, _⟩ := idx_some hx979
                   refine r_put (M := [Box g957 [.int .i64 x956.Level, .int .i64 x956.File.Number, .int .i64 x956.File.Size, .string x956.File.Least, .string x956.File.Limit, .int .u64 x956.File.Low, .int .u64 x956.File.High] 45]) hst hsh trivial sc_39 rfl rfl rfl (by omega) rfl (one_slice (hsh.row 1 rfl).slen) ?_; intro a w982 hsh hst
                   rw [← upd_some hl981] at hsh
                   refine m_turn hsh (sub_sh [1] rfl) ?_
                   refine m_nil ?_
                   intro w983 hsh
                   refine qn_normal ?_
                   refine block_normal ?_
                   refine then_normal ?_
                   refine wq_region_lit (.inl rfl) ?_
                   refine r_t hst trivial rfl (x_arI (r := w64 (i_67 + 1)) hst rfl rfl rfl) ?_; intro a hst
                   refine r_t hst trivial rfl (x_move hst rfl) ?_; intro a hst
                   refine wpL_nil ?_
                   refine then_normal ?_
                   exact ⟨k_72, Nat.lt_succ_self _, l981, (w64 (i_67 + 1)), H, hst.keep _ ⟨rfl, rfl, rfl, rfl, rfl, rfl, trivial⟩, hsh.pick [0]⟩
               · intro hj
                 by_cases c962 : (decide (x956.Level < 0)) = true
                 · refine r_not hst 68 rfl rfl c962 rfl ?_; intro a hst
                   refine r_not hst 68 rfl rfl c962 rfl ?_; intro a hst
                   refine r_not hst 68 rfl rfl c962 rfl ?_; intro a hst
                   refine r_not hst 68 rfl rfl c962 rfl ?_; intro a hst
                   refine r_not hst 68 rfl rfl c962 rfl ?_; intro a hst
                   refine r_t hst trivial rfl (x_orT (decide ((l_66.length : Int) ≤ x956.Level)) hst rfl c962 rfl) ?_; intro a hst
                   exact hj _ (hst.keep _ ⟨rfl, rfl, rfl, rfl, rfl, rfl, rfl, rfl, trivial⟩)
                 · replace c962 := Bool.eq_false_iff.2 c962
                   refine r_t hst (wt_of 68 rfl rfl c962) rfl (x_fieldAddr (j' := 0) hst fa_45_0 rfl rfl) ?_; intro a hst
                   refine r_t hst (wt_of 68 rfl rfl c962) rfl (x_loadB (i := 0) hst hsh sc_3 rfl rfl rfl) ?_; intro a hst
                   refine r_t hst (wt_of 68 rfl rfl c962) rfl (x_move hst rfl) ?_; intro a hst
                   refine r_t hst (wt_of 68 rfl rfl c962) rfl (x_lenSl hst Try.underlying23 rfl (hsh.row 1 rfl).slen) ?_; intro a hst
                   refine r_t hst (wt_of 68 rfl rfl c962) rfl (x_cmpI (b := decide ((l_66.length : Int) ≤ x956.Level)) hst rfl rfl rfl) ?_; intro a hst
                   refine r_t hst trivial rfl (x_orF hst rfl c962 rfl) ?_; intro a hst
                   exact hj _ (hst.keep _ ⟨rfl, rfl, rfl, rfl, rfl, rfl, rfl, rfl, trivial⟩)
             · rw [if_neg c928] at H
               replace c928 := Bool.eq_false_iff.2 c928
               refine wq_condF hst rfl c928 ?_
               refine wq_exit ?_
               refine then_exit ?_
               refine then_exit ?_
               refine block_hit ?_
               refine then_normal ?_
               exact ⟨l_66, H, hst.keep _ ⟨rfl, rfl, rfl, trivial⟩, hsh.pick [0]⟩

set_option maxHeartbeats 4000000 in
set_option maxRecDepth 100000 in
theorem r16_put.calls (k : Nat) (w : World) (va0 : Value) (Za0 : Nat → Prop) (wra0 : World) (hsa0 : Same Za0 wra0 w) (a0 : (List File)) (hra0 : RD k_File Za0 wra0 va0 a0) (a1 : Int) (a2 : File) (r : (List File)) (h : r16_put k a0 a1 a2 = some r) :
    Calls Try.prog 45 ([va0, .int .i64 a1, .agg #[.int .i64 a2.Number, .int .i64 a2.Size, .string a2.Least, .string a2.Limit, .int .u64 a2.Low, .int .u64 a2.High]] : List Value).toArray w fun e w' => ∃ v0_ : Value, e = .returned (v0_) ∧ SH (fun _ => False) w w' [Row k_File 43 v0_ r] := by
 have H := h
 clear h
 unfold r16_put at H
 refine calls_enter Try.func45 rfl rfl ?_
 intro a hst
 have hsh := SH.zero (fun _ => False) w
 refine wq_seq ?_
 refine wq_region_lit (.inl rfl) ?_
 refine r_box hst hsh trivial rfl rfl rfl ?_
 intro g1 a w2 hgg1 hsh hst
 refine r_t hst trivial rfl (x_assign hst rfl) ?_; intro a hst
 refine wpL_nil ?_
 refine then_normal ?_
 obtain ⟨J_5, hJ_5, H⟩ := Jn.elim H
 refine wq_cut (fun a w' => ∃ (v_2 : Value), ∃ (l_3 : (List File)), J_5 l_3 = some r ∧ ST [] Try.f45.ntmps a [(1, .int .i64 a1), (5, .pointer (some ⟨g1, 0, none⟩)), (6, (.slice none 0 0)), (7, v_2)] ∧ SH (fun _ => False) w w' [Box g1 [.int .i64 a2.Number, .int .i64 a2.Size, .string a2.Least, .string a2.Limit, .int .u64 a2.Low, .int .u64 a2.High] 43, Row k_File 43 v_2 l_3]) ?_ ?_
 · rintro a W_4 ⟨v_2, l_3, H, hst, hsh⟩
   subst hJ_5
   dsimp only at H
   refine wq_seq ?_
   refine wq_region_lit (.inl rfl) ?_
   refine r_t hst trivial rfl (x_move hst rfl) ?_; intro a hst
   refine r_t hst trivial rfl (x_lenSl hst Try.underlying39 rfl (hsh.row 1 rfl).slen) ?_; intro a hst
   refine r_t hst trivial rfl (x_arI (r := w64 ((l_3.length : Int) - 1)) hst rfl rfl rfl) ?_; intro a hst
   refine r_t hst trivial rfl (x_assign hst rfl) ?_; intro a hst
   refine wpL_nil ?_
   refine then_normal ?_
   refine wq_seq ?_
   refine wq_block ?_
   refine wq_loop_fuel (fun k_508 a w' => ∃ (l_406 : (List File)), ∃ (i_407 : Int), r16_put.l0 a1 a2 k_508 l_406 i_407 = some r ∧ ST [] Try.f45.ntmps a [(1, .int .i64 a1), (5, .pointer (some ⟨g1, 0, none⟩)), (6, (.slice none 0 0)), (7, v_2), (8, .int .i64 i_407)] ∧ SH (fun _ => False) w w' [Box g1 [.int .i64 a2.Number, .int .i64 a2.Size, .string a2.Least, .string a2.Limit, .int .u64 a2.Low, .int .u64 a2.High] 43, Row k_File 43 v_2 l_406]) k ?_ ?_
   · exact ⟨l_3, (w64 ((l_3.length : Int) - 1)), H, hst.keep _ ⟨rfl, rfl, rfl, rfl, rfl, trivial⟩, hsh.pick [0, 0]⟩
   · rintro k_508 a W_408 ⟨l_406, i_407, H, hst, hsh⟩
     cases k_508 with
     | zero => rw [r16_put.l0] at H; cases H
     | succ k_508 =>
      rw [r16_put.l0] at H
      refine wq_seq ?_
      refine wq_seq ?_
      refine wq_region_q (.inl rfl) (fun w' => SH (fun _ => False) w w' [Box g1 [.int .i64 a2.Number, .int .i64 a2.Size, .string a2.Least, .string a2.Limit, .int .u64 a2.Low, .int .u64 a2.High] 43, Row k_File 43 v_2 l_406]) (shut_sh _ _ _) hsh.drew fo (by kernel_rfl) ?_
      refine q_t hst trivial rfl (fun _ hsh => x_move hst rfl) ?_; intro a hst
      refine q_t hst trivial rfl (fun _ hsh => x_cmpI (b := decide (0 < i_407)) hst rfl rfl rfl) ?_; intro a hst
      refine q_t hst trivial rfl (fun _ hsh => x_move hst rfl) ?_; intro a hst
      obtain ⟨J_573, hJ_573, H⟩ := Jn.elim H
      refine q_join 32 (fun a => ∃ (b_572 : Bool), J_573 b_572 = some r ∧ ST [] Try.f45.ntmps a [(1, .int .i64 a1), (5, .pointer (some ⟨g1, 0, none⟩)), (6, (.slice none 0 0)), (7, v_2), (8, .int .i64 i_407), (49, .bool b_572)]) ?_ ?_
      · rintro a ⟨b_572, H, hst⟩
        subst hJ_573
        dsimp only at H
        refine q_nil ?_
        intro w348 hsh
        refine then_normal ?_
        by_cases c349 : b_572 = true
        · rw [if_pos c349] at H
          refine wq_condT hst rfl c349 ?_
          refine wq_skip ?_
          refine then_normal ?_
          refine wq_block ?_
          refine wq_seq ?_
          refine wq_region_lit (.inl rfl) ?_
          refine r_t hst trivial rfl (x_move hst rfl) ?_; intro a hst
          refine r_t hst trivial rfl (x_move hst rfl) ?_; intro a hst
          refine r_t hst trivial rfl (x_move hst rfl) ?_; intro a hst
          refine r_t hst trivial rfl (x_move hst rfl) ?_; intro a hst
          refine r_t hst trivial rfl (x_arI (r := w64 (i_407 - 1)) hst rfl rfl rfl) ?_; intro a hst
          obtain ⟨x350, hx350, H⟩ := Option.bind_eq_some_iff.1 H
          refine r_t hst trivial rfl (x_indexAddr hst Try.underlying39 el_43 rfl rfl (hsh.row 1 rfl) hx350) ?_; intro a hst
          refine r_t hst trivial rfl (x_loadEsF (j := 0) (cs := [.int .i64 x350.Number, .int .i64 x350.Size, .string x350.Least, .string x350.Limit, .int .u64 x350.Low, .int .u64 x350.High]) (ps := [.int .i64 x350.Number, .int .i64 x350.Size, .string x350.Least, .string x350.Limit, .int .u64 x350.Low, .int .u64 x350.High]) hst ag_43 rfl (hsh.row 1 rfl) (Same.refl _ _) hx350 rfl (fun _ h => h) rfl) ?_; intro a hst
          obtain ⟨x351, hx351, H⟩ := Option.bind_eq_some_iff.1 H
          refine r_t hst trivial rfl (x_indexAddr hst Try.underlying39 el_43 rfl rfl (hsh.row 1 rfl) hx351) ?_; intro a hst
          obtain ⟨l352, hl352, H⟩ := Option.bind_eq_some_iff.1 H
          refine r_storeEs (i := 1) (off := 0) (new := x350) (vs := [.int .i64 x350.Number, .int .i64 x350.Size, .string x350.Least, .string x350.Limit, .int .u64 x350.Low, .int .u64 x350.High]) (cs' := [.int .i64 x350.Number, .int .i64 x350.Size, .string x350.Least, .string x350.Limit, .int .u64 x350.Low, .int .u64 x350.High]) hst hsh trivial ag_43 rfl rfl rfl hx351 rfl (Nat.le_of_ble_eq_true rfl) rfl (fun _ _ _ h => by rw [h]; rfl) (fun _ _ => rfl) ?_; intro a w353 hsh hst
          rw [← upd_some hl352] at hsh
          refine wpL_nil ?_
          refine then_normal ?_
          refine wq_seq ?_
          refine wq_region_lit (.inl rfl) ?_
          refine r_t hst trivial rfl (x_move hst rfl) ?_; intro a hst
          refine r_t hst trivial rfl (x_move hst rfl) ?_; intro a hst
          refine r_t hst trivial rfl (x_arI (r := w64 (i_407 - 1)) hst rfl rfl rfl) ?_; intro a hst
          refine r_t hst trivial rfl (x_loadBs (i := 1) (ps := [.int .i64 a2.Number, .int .i64 a2.Size, .string a2.Least, .string a2.Limit, .int .u64 a2.Low, .int .u64 a2.High]) hst hsh ag_43 rfl rfl rfl) ?_; intro a hst
          obtain ⟨x354, hx354, H⟩ := Option.bind_eq_some_iff.1 H
          refine r_t hst trivial rfl (x_indexAddr hst Try.underlying39 el_43 rfl rfl (hsh.row 0 rfl) hx354) ?_; intro a hst
          obtain ⟨l355, hl355, H⟩ := Option.bind_eq_some_iff.1 H
          refine r_storeEs (i := 0) (off := 0) (new := a2) (vs := [.int .i64 a2.Number, .int .i64 a2.Size, .string a2.Least, .string a2.Limit, .int .u64 a2.Low, .int .u64 a2.High]) (cs' := [.int .i64 a2.Number, .int .i64 a2.Size, .string a2.Least, .string a2.Limit, .int .u64 a2.Low, .int .u64 a2.High]) hst hsh trivial ag_43 rfl rfl rfl hx354 rfl (Nat.le_of_ble_eq_true rfl) rfl (fun _ _ _ h => by rw [h]; rfl) (fun _ _ => rfl) ?_; intro a w356 hsh hst
          rw [← upd_some hl355] at hsh
          refine wpL_nil ?_
          refine then_normal ?_
          refine wq_region_lit (.inl rfl) ?_
          refine r_t hst trivial rfl (x_move hst rfl) ?_; intro a hst
          refine r_t hst trivial rfl (x_arI (r := w64 (i_407 - 1)) hst rfl rfl rfl) ?_; intro a hst
          refine r_t hst trivial rfl (x_assign hst rfl) ?_; intro a hst
          refine wpL_nil ?_
          refine block_normal ?_
          refine then_normal ?_
          exact ⟨k_508, Nat.lt_succ_self _, l355, (w64 (i_407 - 1)), H, hst.keep _ ⟨rfl, rfl, rfl, rfl, rfl, trivial⟩, hsh.pick [1, 0]⟩
        · rw [if_neg c349] at H
          replace c349 := Bool.eq_false_iff.2 c349
          refine wq_condF hst rfl c349 ?_
          refine wq_exit ?_
          refine then_exit ?_
          refine then_exit ?_
          refine block_hit ?_
          refine then_normal ?_
          refine wq_seq ?_
          refine wq_region_lit (.inl rfl) ?_
          refine r_t hst trivial rfl (x_move hst rfl) ?_; intro a hst
          refine r_t hst trivial rfl (x_assign hst rfl) ?_; intro a hst
          refine wpL_nil ?_
          refine then_normal ?_
          refine wq_ret ?_
          obtain rfl := Option.some.inj H
          exact ret1 hst rfl rfl ⟨v_2, rfl, hsh.pick [1]⟩
      · intro hj
        by_cases c337 : (decide (0 < i_407)) = true
        · rw [if_pos c337] at H
          refine q_t hst (wt_of 20 rfl rfl c337) rfl (fun _ hsh => x_move hst rfl) ?_; intro a hst
          refine q_t hst (wt_of 20 rfl rfl c337) rfl (fun _ hsh => x_cmpI (b := (a1 == 0)) hst rfl rfl rfl) ?_; intro a hst
          refine q_t hst (wt_of 20 rfl rfl c337) rfl (fun _ hsh => x_move hst rfl) ?_; intro a hst
          obtain ⟨J_591, hJ_591, H⟩ := Jn.elim H
          refine q_join 16 (fun a => ∃ (b_590 : Bool), J_591 b_590 = some r ∧ ST [] Try.f45.ntmps a [(1, .int .i64 a1), (5, .pointer (some ⟨g1, 0, none⟩)), (6, (.slice none 0 0)), (7, v_2), (8, .int .i64 i_407), (20, .bool (decide (0 < i_407))), (33, .bool b_590)]) ?_ ?_
          · rintro a ⟨b_590, H, hst⟩
            subst hJ_591
            dsimp only at H
            refine q_t hst (wt_of 20 rfl rfl c337) rfl (fun _ hsh => x_move hst rfl) ?_; intro a hst
            obtain ⟨J_597, hJ_597, H⟩ := Jn.elim H
            refine q_join 31 (fun a => ∃ (b_596 : Bool), J_597 b_596 = some r ∧ ST [] Try.f45.ntmps a [(1, .int .i64 a1), (5, .pointer (some ⟨g1, 0, none⟩)), (6, (.slice none 0 0)), (7, v_2), (8, .int .i64 i_407), (20, .bool (decide (0 < i_407))), (48, .bool b_596)]) ?_ ?_
            · rintro a ⟨b_596, H, hst⟩
              subst hJ_597
              dsimp only at H
              refine q_t hst trivial rfl (fun _ hsh => x_pickT hst rfl c337 rfl) ?_; intro a hst
              exact hj _ ⟨b_596, H, hst.keep _ ⟨rfl, rfl, rfl, rfl, rfl, rfl, trivial⟩⟩
            · intro hj
              by_cases c359 : b_590 = true
              · rw [if_pos c359] at H
                refine q_not hst 34 rfl rfl c359 rfl ?_; intro a hst
                refine q_not hst 34 rfl rfl c359 rfl ?_; intro a hst
                refine q_not hst 34 rfl rfl c359 rfl ?_; intro a hst
                refine q_notU hst 37 rfl rfl rfl ?_; intro a hst
                refine q_notU hst 37 rfl rfl rfl ?_; intro a hst
                refine q_notU hst 37 rfl rfl rfl ?_; intro a hst
                refine q_notU hst 37 rfl rfl rfl ?_; intro a hst
                refine q_notU hst 37 rfl rfl rfl ?_; intro a hst
                refine q_notU hst 37 rfl rfl rfl ?_; intro a hst
                refine q_notU hst 37 rfl rfl rfl ?_; intro a hst
                refine q_notU hst 37 rfl rfl rfl ?_; intro a hst
                refine q_notU hst 37 rfl rfl rfl ?_; intro a hst
                refine q_not hst 34 rfl rfl c359 rfl ?_; intro a hst
                refine q_t hst (wt_of 20 rfl rfl c337) rfl (fun _ hsh => x_pickT hst rfl c359 rfl) ?_; intro a hst
                exact hj _ ⟨true, H, hst.keep _ ⟨rfl, rfl, rfl, rfl, rfl, rfl, rfl, trivial⟩⟩
              · rw [if_neg c359] at H
                replace c359 := Bool.eq_false_iff.2 c359
                refine q_t hst (wt_of 34 rfl rfl c359) rfl (fun _ hsh => x_move hst rfl) ?_; intro a hst
                refine q_t hst (wt_of 34 rfl rfl c359) rfl (fun _ hsh => x_cmpI (b := decide (0 < a1)) hst rfl rfl rfl) ?_; intro a hst
                refine q_t hst (wt_of 34 rfl rfl c359) rfl (fun _ hsh => x_move hst rfl) ?_; intro a hst
                obtain ⟨J_603, hJ_603, H⟩ := Jn.elim H
                refine q_join 30 (fun a => ∃ (b_602 : Bool), J_603 b_602 = some r ∧ ST [] Try.f45.ntmps a [(1, .int .i64 a1), (5, .pointer (some ⟨g1, 0, none⟩)), (6, (.slice none 0 0)), (7, v_2), (8, .int .i64 i_407), (20, .bool (decide (0 < i_407))), (34, .bool b_590), (47, .bool b_602)]) ?_ ?_
                · rintro a ⟨b_602, H, hst⟩
                  subst hJ_603
                  dsimp only at H
                  refine q_t hst (wt_of 20 rfl rfl c337) rfl (fun _ hsh => x_pickF hst rfl c359 rfl) ?_; intro a hst
                  exact hj _ ⟨b_602, H, hst.keep _ ⟨rfl, rfl, rfl, rfl, rfl, rfl, rfl, trivial⟩⟩
                · intro hj
                  by_cases c363 : (decide (0 < a1)) = true
                  · rw [if_pos c363] at H
                    refine q_t hst (wt_of 37 rfl rfl c363) rfl (fun _ hsh => x_move hst rfl) ?_; intro a hst
                    refine q_t hst (wt_of 37 rfl rfl c363) rfl (fun _ hsh => x_move hst rfl) ?_; intro a hst
                    refine q_t hst (wt_of 37 rfl rfl c363) rfl (fun _ hsh => x_arI (r := w64 (i_407 - 1)) hst rfl rfl rfl) ?_; intro a hst
                    obtain ⟨x365, hx365, H⟩ := Option.bind_eq_some_iff.1 H
                    refine q_t hst (wt_of 37 rfl rfl c363) rfl (fun _ hsh => x_indexAddr hst Try.underlying39 el_43 rfl rfl (hsh.row 1 rfl) hx365) ?_; intro a hst
                    refine q_t hst (wt_of 37 rfl rfl c363) rfl (fun _ hsh => x_fieldAddrE (n' := Int.toNat (w64 (i_407 - 1)) * k_File.sz + 2) hst fa_43_2 rfl rfl) ?_; intro a hst
                    refine q_t hst (wt_of 37 rfl rfl c363) rfl (fun _ hsh => x_loadEF (j := 2) (cs := [.int .i64 x365.Number, .int .i64 x365.Size, .string x365.Least, .string x365.Limit, .int .u64 x365.Low, .int .u64 x365.High]) hst sc_9 rfl (hsh.row 1 rfl) (Same.refl _ _) hx365 rfl (fun _ h => h) rfl) ?_; intro a hst
                    refine q_t hst (wt_of 37 rfl rfl c363) rfl (fun _ hsh => x_fieldAddr (j' := 2) hst fa_43_2 rfl rfl) ?_; intro a hst
                    refine q_t hst (wt_of 37 rfl rfl c363) rfl (fun _ hsh => x_loadB (i := 0) hst hsh sc_9 rfl rfl rfl) ?_; intro a hst
                    refine q_t hst (wt_of 37 rfl rfl c363) rfl (fun _ hsh => x_cmpS (b := (!(sLt x365.Least a2.Least || sEq x365.Least a2.Least))) hst rfl rfl rfl) ?_; intro a hst
                    refine q_t hst (wt_of 34 rfl rfl c359) rfl (fun _ hsh => x_pickT hst rfl c363 rfl) ?_; intro a hst
                    exact hj _ ⟨(!(sLt x365.Least a2.Least || sEq x365.Least a2.Least)), H, hst.keep _ ⟨rfl, rfl, rfl, rfl, rfl, rfl, rfl, rfl, trivial⟩⟩
                  · rw [if_neg c363] at H
                    replace c363 := Bool.eq_false_iff.2 c363
                    refine q_not hst 37 rfl rfl c363 rfl ?_; intro a hst
                    refine q_not hst 37 rfl rfl c363 rfl ?_; intro a hst
                    refine q_not hst 37 rfl rfl c363 rfl ?_; intro a hst
                    refine q_not hst 37 rfl rfl c363 rfl ?_; intro a hst
                    refine q_not hst 37 rfl rfl c363 rfl ?_; intro a hst
                    refine q_not hst 37 rfl rfl c363 rfl ?_; intro a hst
                    refine q_not hst 37 rfl rfl c363 rfl ?_; intro a hst
                    refine q_not hst 37 rfl rfl c363 rfl ?_; intro a hst
                    refine q_not hst 37 rfl rfl c363 rfl ?_; intro a hst
                    refine q_t hst (wt_of 34 rfl rfl c359) rfl (fun _ hsh => x_pickF hst rfl c363 rfl) ?_; intro a hst
                    exact hj _ ⟨false, H, hst.keep _ ⟨rfl, rfl, rfl, rfl, rfl, rfl, rfl, rfl, trivial⟩⟩
          · intro hj
            by_cases c357 : (a1 == 0) = true
            · rw [if_pos c357] at H
              refine q_t hst (wt_of 23 rfl rfl c357) rfl (fun _ hsh => x_move hst rfl) ?_; intro a hst
              refine q_t hst (wt_of 23 rfl rfl c357) rfl (fun _ hsh => x_move hst rfl) ?_; intro a hst
              refine q_t hst (wt_of 23 rfl rfl c357) rfl (fun _ hsh => x_arI (r := w64 (i_407 - 1)) hst rfl rfl rfl) ?_; intro a hst
              obtain ⟨x366, hx366, H⟩ := Option.bind_eq_some_iff.1 H
              refine q_t hst (wt_of 23 rfl rfl c357) rfl (fun _ hsh => x_indexAddr hst Try.underlying39 el_43 rfl rfl (hsh.row 1 rfl) hx366) ?_; intro a hst
              refine q_t hst (wt_of 23 rfl rfl c357) rfl (fun _ hsh => x_fieldAddrE (n' := Int.toNat (w64 (i_407 - 1)) * k_File.sz) hst fa_43_0 rfl rfl) ?_; intro a hst
              refine q_t hst (wt_of 23 rfl rfl c357) rfl (fun _ hsh => x_loadEF (j := 0) (cs := [.int .i64 x366.Number, .int .i64 x366.Size, .string x366.Least, .string x366.Limit, .int .u64 x366.Low, .int .u64 x366.High]) hst sc_3 rfl (hsh.row 1 rfl) (Same.refl _ _) hx366 rfl (fun _ h => h) rfl) ?_; intro a hst
              refine q_t hst (wt_of 23 rfl rfl c357) rfl (fun _ hsh => x_fieldAddr (j' := 0) hst fa_43_0 rfl rfl) ?_; intro a hst
              refine q_t hst (wt_of 23 rfl rfl c357) rfl (fun _ hsh => x_loadB (i := 0) hst hsh sc_3 rfl rfl rfl) ?_; intro a hst
              refine q_t hst (wt_of 23 rfl rfl c357) rfl (fun _ hsh => x_cmpI (b := decide (a2.Number < x366.Number)) hst rfl rfl rfl) ?_; intro a hst
              refine q_t hst (wt_of 20 rfl rfl c337) rfl (fun _ hsh => x_pickT hst rfl c357 rfl) ?_; intro a hst
              exact hj _ ⟨(decide (a2.Number < x366.Number)), H, hst.keep _ ⟨rfl, rfl, rfl, rfl, rfl, rfl, rfl, trivial⟩⟩
            · rw [if_neg c357] at H
              replace c357 := Bool.eq_false_iff.2 c357
              refine q_not hst 23 rfl rfl c357 rfl ?_; intro a hst
              refine q_not hst 23 rfl rfl c357 rfl ?_; intro a hst
              refine q_not hst 23 rfl rfl c357 rfl ?_; intro a hst
              refine q_not hst 23 rfl rfl c357 rfl ?_; intro a hst
              refine q_not hst 23 rfl rfl c357 rfl ?_; intro a hst
              refine q_not hst 23 rfl rfl c357 rfl ?_; intro a hst
              refine q_not hst 23 rfl rfl c357 rfl ?_; intro a hst
              refine q_not hst 23 rfl rfl c357 rfl ?_; intro a hst
              refine q_not hst 23 rfl rfl c357 rfl ?_; intro a hst
              refine q_t hst (wt_of 20 rfl rfl c337) rfl (fun _ hsh => x_pickF hst rfl c357 rfl) ?_; intro a hst
              exact hj _ ⟨false, H, hst.keep _ ⟨rfl, rfl, rfl, rfl, rfl, rfl, rfl, trivial⟩⟩
        · rw [if_neg c337] at H
          replace c337 := Bool.eq_false_iff.2 c337
          refine q_not hst 20 rfl rfl c337 rfl ?_; intro a hst
          refine q_not hst 20 rfl rfl c337 rfl ?_; intro a hst
          refine q_not hst 20 rfl rfl c337 rfl ?_; intro a hst
          refine q_notU hst 23 rfl rfl rfl ?_; intro a hst
          refine q_notU hst 23 rfl rfl rfl ?_; intro a hst
          refine q_notU hst 23 rfl rfl rfl ?_; intro a hst
          refine q_notU hst 23 rfl rfl rfl ?_; intro a hst
          refine q_notU hst 23 rfl rfl rfl ?_; intro a hst
          refine q_notU hst 23 rfl rfl rfl ?_; intro a hst
          refine q_notU hst 23 rfl rfl rfl ?_; intro a hst
          refine q_notU hst 23 rfl rfl rfl ?_; intro a hst
          refine q_notU hst 23 rfl rfl rfl ?_; intro a hst
          refine q_not hst 20 rfl rfl c337 rfl ?_; intro a hst
          refine q_not hst 20 rfl rfl c337 rfl ?_; intro a hst
          refine q_notU hst 34 rfl rfl rfl ?_; intro a hst
          refine q_notU hst 34 rfl rfl rfl ?_; intro a hst
          refine q_notU hst 34 rfl rfl rfl ?_; intro a hst
          refine q_notU hst 37 rfl rfl rfl ?_; intro a hst
          refine q_notU hst 37 rfl rfl rfl ?_; intro a hst
          refine q_notU hst 37 rfl rfl rfl ?_; intro a hst
          refine q_notU hst 37 rfl rfl rfl ?_; intro a hst
          refine q_notU hst 37 rfl rfl rfl ?_; intro a hst
          refine q_notU hst 37 rfl rfl rfl ?_; intro a hst
          refine q_notU hst 37 rfl rfl rfl ?_; intro a hst
          refine q_notU hst 37 rfl rfl rfl ?_; intro a hst
          refine q_notU hst 37 rfl rfl rfl ?_; intro a hst
          refine q_notU hst 34 rfl rfl rfl ?_; intro a hst
          refine q_not hst 20 rfl rfl c337 rfl ?_; intro a hst
          refine q_t hst trivial rfl (fun _ hsh => x_pickF hst rfl c337 rfl) ?_; intro a hst
          exact hj _ ⟨false, H, hst.keep _ ⟨rfl, rfl, rfl, rfl, rfl, rfl, trivial⟩⟩
 · refine wq_region_t (.inl rfl) (.alt [(3, 1), (0, 3)] 0 4 (.alt [] 2 4 (.fin [(1, 4), (1, 5), (3, 6)]) (.fin [(1, 2), (1, 5), (3, 6)])) (.fin [(1, 0), (1, 2), (1, 5), (3, 6)])) (fun w' => SH (fun _ => False) w w' [Box g1 [.int .i64 a2.Number, .int .i64 a2.Size, .string a2.Least, .string a2.Limit, .int .u64 a2.Low, .int .u64 a2.High] 43]) (fun w' => SH (fun _ => False) w w' [Box g1 [.int .i64 a2.Number, .int .i64 a2.Size, .string a2.Least, .string a2.Limit, .int .u64 a2.Low, .int .u64 a2.High] 43]) (fun w' => SH (fun _ => False) w w' [Box g1 [.int .i64 a2.Number, .int .i64 a2.Size, .string a2.Least, .string a2.Limit, .int .u64 a2.Low, .int .u64 a2.High] 43]) (shut_sh _ _ _) (shut_sh _ _ _) (shut_sh _ _ _) (sub_sh [0] rfl) (sub_sh [0] rfl) hsh.drew fo (by kernel_rfl) ?_
   refine t_alt ?_
   refine m_p hst trivial rfl (fun _ => x_move hst rfl) ?_; intro a hst
   refine m_t hst trivial rfl (fun _ hsh => x_loadBs (i := 0) (ps := [.int .i64 a2.Number, .int .i64 a2.Size, .string a2.Least, .string a2.Limit, .int .u64 a2.Low, .int .u64 a2.High]) hst hsh ag_43 rfl rfl rfl) ?_; intro a hst
   refine m_alt ?_ ?_
   · refine ld_loud ?_
     intro w367 hsh
     refine r_buildSlice (vs := []) (cs := []) hst hsh trivial rfl Try.underlying39 el_43 rfl rfl (by simp [Value.cells]) rfl rfl ?_
     intro g368 a w369 hgg368 hsh hst
     replace hsh := hsh.pick [0, 0]
     replace hsh : SH (fun _ => False) w w369 [Row k_File 43 (.slice (some ⟨g368, 0, none⟩) 0 0) ([]), Box g1 [.int .i64 a2.Number, .int .i64 a2.Size, .string a2.Least, .string a2.Limit, .int .u64 a2.Low, .int .u64 a2.High] 43] := SH.boxRow ([] : List File) hsh rfl rfl rfl
     refine m_on (MB := [Box g1 [.int .i64 a2.Number, .int .i64 a2.Size, .string a2.Least, .string a2.Limit, .int .u64 a2.Low, .int .u64 a2.High] 43]) [1] [0] rfl rfl hsh rfl (sub_sh [0] rfl) ?_
     refine t_alt ?_
     refine m_alt ?_ ?_
     · refine ld_loud ?_
       intro w371 hsh
       replace hsh := hsh.pick [0, 0]
       obtain ⟨l372, hl372, H⟩ := Option.bind_eq_some_iff.1 H
       refine r_appendN (M := [Box g1 [.int .i64 a2.Number, .int .i64 a2.Size, .string a2.Least, .string a2.Limit, .int .u64 a2.Low, .int .u64 a2.High] 43]) hst hsh trivial rfl Try.underlying39 el_43 (by decide) (by decide) (by decide) rfl rfl (flat_flat _ _ _ _) hra0 (Same.sh0 hsa0 hsh) hl372 ?_
       intro v373 a w374 hsh hst
       refine m_on (MB := [Box g1 [.int .i64 a2.Number, .int .i64 a2.Size, .string a2.Least, .string a2.Limit, .int .u64 a2.Low, .int .u64 a2.High] 43]) [1] [0] rfl rfl hsh rfl (sub_sh [0] rfl) ?_
       refine t_fin ?_
       refine m_loud (.inl rfl) ?_
       intro w375 hsh
       refine r_buildSlice (vs := [.agg #[.int .i64 a2.Number, .int .i64 a2.Size, .string a2.Least, .string a2.Limit, .int .u64 a2.Low, .int .u64 a2.High]]) (cs := [.int .i64 a2.Number, .int .i64 a2.Size, .string a2.Least, .string a2.Limit, .int .u64 a2.Low, .int .u64 a2.High]) hst hsh trivial rfl Try.underlying39 el_43 rfl rfl (by simp [Value.cells]) rfl rfl ?_
       intro g376 a w377 hgg376 hsh hst
       refine m_on (MB := [Box g1 [.int .i64 a2.Number, .int .i64 a2.Size, .string a2.Least, .string a2.Limit, .int .u64 a2.Low, .int .u64 a2.High] 43]) [2] [0] rfl rfl hsh rfl (sub_sh [0] rfl) ?_
       refine m_loud (.inl rfl) ?_
       intro w378 hsh
       replace hsh := hsh.pick [1, 0, 0]
       obtain ⟨l379, hl379, H⟩ := Option.bind_eq_some_iff.1 H
       refine r_append1 (xx := a2) (C := []) (M := [Box g1 [.int .i64 a2.Number, .int .i64 a2.Size, .string a2.Least, .string a2.Limit, .int .u64 a2.Low, .int .u64 a2.High] 43]) hst hsh trivial rfl Try.underlying39 el_43 (by decide) (by decide) (by decide) rfl rfl (fun _ _ _ => rfl) hl379 ?_
       intro v380 a w381 hsh hst
       refine m_on (MB := [Row k_File 43 v380 l379, Box g1 [.int .i64 a2.Number, .int .i64 a2.Size, .string a2.Least, .string a2.Limit, .int .u64 a2.Low, .int .u64 a2.High] 43]) [0, 0] [1] rfl rfl hsh rfl (sub_sh [0] rfl) ?_
       refine m_p hst trivial rfl (fun _ => x_assign hst rfl) ?_; intro a hst
       refine m_nil ?_
       intro w382 hsh
       refine qn_normal ?_
       refine then_normal ?_
       exact ⟨v380, l379, H, hst.keep _ ⟨rfl, rfl, rfl, rfl, trivial⟩, hsh.pick [1, 0]⟩
     · refine ld_loud ?_
       intro w383 hsh
       refine r_buildSlice (vs := [.agg #[.int .i64 a2.Number, .int .i64 a2.Size, .string a2.Least, .string a2.Limit, .int .u64 a2.Low, .int .u64 a2.High]]) (cs := [.int .i64 a2.Number, .int .i64 a2.Size, .string a2.Least, .string a2.Limit, .int .u64 a2.Low, .int .u64 a2.High]) hst hsh trivial rfl Try.underlying39 el_43 rfl rfl (by simp [Value.cells]) rfl rfl ?_
       intro g384 a w385 hgg384 hsh hst
       replace hsh := hsh.pick [0, 0, 0]
       replace hsh : SH (fun _ => False) w w385 [Row k_File 43 (.slice (some ⟨g384, 0, none⟩) 1 1) ([a2]), Row k_File 43 (.slice (some ⟨g368, 0, none⟩) 0 0) ([]), Box g1 [.int .i64 a2.Number, .int .i64 a2.Size, .string a2.Least, .string a2.Limit, .int .u64 a2.Low, .int .u64 a2.High] 43] := SH.boxRow ([a2] : List File) hsh rfl rfl rfl
       refine m_on (MB := [Row k_File 43 (.slice (some ⟨g384, 0, none⟩) 1 1) ([a2]), Box g1 [.int .i64 a2.Number, .int .i64 a2.Size, .string a2.Least, .string a2.Limit, .int .u64 a2.Low, .int .u64 a2.High] 43]) [0, 1] [1] rfl rfl hsh rfl (sub_sh [0] rfl) ?_
       refine t_fin ?_
       refine m_loud (.inl rfl) ?_
       intro w387 hsh
       replace hsh := hsh.pick [1, 0, 0]
       obtain ⟨l388, hl388, H⟩ := Option.bind_eq_some_iff.1 H
       refine r_appendN (M := [Row k_File 43 (.slice (some ⟨g384, 0, none⟩) 1 1) ([a2]), Box g1 [.int .i64 a2.Number, .int .i64 a2.Size, .string a2.Least, .string a2.Limit, .int .u64 a2.Low, .int .u64 a2.High] 43]) hst hsh trivial rfl Try.underlying39 el_43 (by decide) (by decide) (by decide) rfl rfl (flat_flat _ _ _ _) hra0 (Same.sh0 hsa0 hsh) hl388 ?_
       intro v389 a w390 hsh hst
       refine m_on (MB := [Row k_File 43 (.slice (some ⟨g384, 0, none⟩) 1 1) ([a2]), Box g1 [.int .i64 a2.Number, .int .i64 a2.Size, .string a2.Least, .string a2.Limit, .int .u64 a2.Low, .int .u64 a2.High] 43]) [1, 1] [0, 0] rfl rfl hsh rfl (sub_sh [1] rfl) ?_
       refine m_loud (.inl rfl) ?_
       intro w391 hsh
       replace hsh := hsh.pick [0, 0, 0]
       obtain ⟨l392, hl392, H⟩ := Option.bind_eq_some_iff.1 H
       refine r_appendN (M := [Row k_File 43 (.slice (some ⟨g384, 0, none⟩) 1 1) ([a2]), Box g1 [.int .i64 a2.Number, .int .i64 a2.Size, .string a2.Least, .string a2.Limit, .int .u64 a2.Low, .int .u64 a2.High] 43]) hst hsh trivial rfl Try.underlying39 el_43 (by decide) (by decide) (by decide) rfl rfl (flat_flat _ _ _ _) (hsh.row 1 rfl) (Same.refl _ _) hl392 ?_
       intro v393 a w394 hsh hst
       refine m_on (MB := [Row k_File 43 v393 l392, Row k_File 43 (.slice (some ⟨g384, 0, none⟩) 1 1) ([a2]), Box g1 [.int .i64 a2.Number, .int .i64 a2.Size, .string a2.Least, .string a2.Limit, .int .u64 a2.Low, .int .u64 a2.High] 43]) [0, 0, 0] [1, 1] rfl rfl hsh rfl (sub_sh [1] rfl) ?_
       refine m_p hst trivial rfl (fun _ => x_assign hst rfl) ?_; intro a hst
       refine m_nil ?_
       intro w395 hsh
       refine qn_normal ?_
       refine then_normal ?_
       exact ⟨v393, l392, H, hst.keep _ ⟨rfl, rfl, rfl, rfl, trivial⟩, hsh.pick [2, 0]⟩
   · refine ld_loud ?_
     intro w396 hsh
     refine r_buildSlice (vs := [.agg #[.int .i64 a2.Number, .int .i64 a2.Size, .string a2.Least, .string a2.Limit, .int .u64 a2.Low, .int .u64 a2.High]]) (cs := [.int .i64 a2.Number, .int .i64 a2.Size, .string a2.Least, .string a2.Limit, .int .u64 a2.Low, .int .u64 a2.High]) hst hsh trivial rfl Try.underlying39 el_43 rfl rfl (by simp [Value.cells]) rfl rfl ?_
     intro g397 a w398 hgg397 hsh hst
     replace hsh := hsh.pick [0, 0]
     replace hsh : SH (fun _ => False) w w398 [Row k_File 43 (.slice (some ⟨g397, 0, none⟩) 1 1) ([a2]), Box g1 [.int .i64 a2.Number, .int .i64 a2.Size, .string a2.Least, .string a2.Limit, .int .u64 a2.Low, .int .u64 a2.High] 43] := SH.boxRow ([a2] : List File) hsh rfl rfl rfl
     refine m_on (MB := [Row k_File 43 (.slice (some ⟨g397, 0, none⟩) 1 1) ([a2]), Box g1 [.int .i64 a2.Number, .int .i64 a2.Size, .string a2.Least, .string a2.Limit, .int .u64 a2.Low, .int .u64 a2.High] 43]) [0, 0] [1] rfl rfl hsh rfl (sub_sh [0] rfl) ?_
     refine t_fin ?_
     refine m_loud (.inl rfl) ?_
     intro w400 hsh
     refine r_buildSlice (vs := []) (cs := []) hst hsh trivial rfl Try.underlying39 el_43 rfl rfl (by simp [Value.cells]) rfl rfl ?_
     intro g401 a w402 hgg401 hsh hst
     replace hsh := hsh.pick [0, 0, 0]
     replace hsh : SH (fun _ => False) w w402 [Row k_File 43 (.slice (some ⟨g401, 0, none⟩) 0 0) ([]), Row k_File 43 (.slice (some ⟨g397, 0, none⟩) 1 1) ([a2]), Box g1 [.int .i64 a2.Number, .int .i64 a2.Size, .string a2.Least, .string a2.Limit, .int .u64 a2.Low, .int .u64 a2.High] 43] := SH.boxRow ([] : List File) hsh rfl rfl rfl
     refine m_on (MB := [Row k_File 43 (.slice (some ⟨g397, 0, none⟩) 1 1) ([a2]), Box g1 [.int .i64 a2.Number, .int .i64 a2.Size, .string a2.Least, .string a2.Limit, .int .u64 a2.Low, .int .u64 a2.High] 43]) [1, 1] [0, 0] rfl rfl hsh rfl (sub_sh [1] rfl) ?_
     refine m_loud (.inl rfl) ?_
     intro w404 hsh
     replace hsh := hsh.pick [0, 0, 0]
     obtain ⟨l405, hl405, H⟩ := Option.bind_eq_some_iff.1 H
     refine r_appendN (M := [Row k_File 43 (.slice (some ⟨g397, 0, none⟩) 1 1) ([a2]), Box g1 [.int .i64 a2.Number, .int .i64 a2.Size, .string a2.Least, .string a2.Limit, .int .u64 a2.Low, .int .u64 a2.High] 43]) hst hsh trivial rfl Try.underlying39 el_43 (by decide) (by decide) (by decide) rfl rfl (flat_flat _ _ _ _) hra0 (Same.sh0 hsa0 hsh) hl405 ?_
     intro v406 a w407 hsh hst
     refine m_on (MB := [Row k_File 43 (.slice (some ⟨g397, 0, none⟩) 1 1) ([a2]), Box g1 [.int .i64 a2.Number, .int .i64 a2.Size, .string a2.Least, .string a2.Limit, .int .u64 a2.Low, .int .u64 a2.High] 43]) [1, 1] [0, 0] rfl rfl hsh rfl (sub_sh [1] rfl) ?_
     refine m_loud (.inl rfl) ?_
     intro w408 hsh
     replace hsh := hsh.pick [0, 0, 0]
     obtain ⟨l409, hl409, H⟩ := Option.bind_eq_some_iff.1 H
     refine r_appendN (M := [Row k_File 43 (.slice (some ⟨g397, 0, none⟩) 1 1) ([a2]), Box g1 [.int .i64 a2.Number, .int .i64 a2.Size, .string a2.Least, .string a2.Limit, .int .u64 a2.Low, .int .u64 a2.High] 43]) hst hsh trivial rfl Try.underlying39 el_43 (by decide) (by decide) (by decide) rfl rfl (flat_flat _ _ _ _) (hsh.row 1 rfl) (Same.refl _ _) hl409 ?_
     intro v410 a w411 hsh hst
     refine m_on (MB := [Row k_File 43 v410 l409, Row k_File 43 (.slice (some ⟨g397, 0, none⟩) 1 1) ([a2]), Box g1 [.int .i64 a2.Number, .int .i64 a2.Size, .string a2.Least, .string a2.Limit, .int .u64 a2.Low, .int .u64 a2.High] 43]) [0, 0, 0] [1, 1] rfl rfl hsh rfl (sub_sh [1] rfl) ?_
     refine m_p hst trivial rfl (fun _ => x_assign hst rfl) ?_; intro a hst
     refine m_nil ?_
     intro w412 hsh
     refine qn_normal ?_
     refine then_normal ?_
     exact ⟨v410, l409, H, hst.keep _ ⟨rfl, rfl, rfl, rfl, trivial⟩, hsh.pick [2, 0]⟩

set_option maxHeartbeats 4000000 in
set_option maxRecDepth 100000 in
theorem r16_Apply.calls (k : Nat) (w : World) (va0 : Value) (Za0 : Nat → Prop) (wra0 : World) (hsa0 : Same Za0 wra0 w) (a0 : (List (List File))) (hra0 : RD (Kd.slice 43 k_File) Za0 wra0 va0 a0) (a1 : Edit) (va1_0 : Value) (Za1_0 : Nat → Prop) (wra1_0 : World) (hsa1_0 : Same Za1_0 wra1_0 w) (hra1_0 : RD k_Place Za1_0 wra1_0 va1_0 a1.Gone) (va1_1 : Value) (Za1_1 : Nat → Prop) (wra1_1 : World) (hsa1_1 : Same Za1_1 wra1_1 w) (hra1_1 : RD k_Added Za1_1 wra1_1 va1_1 a1.Come) (r : ((List (List File)) × Int)) (h : r16_Apply k a0 a1 = some r) :
    Calls Try.prog 15 ([va0, .agg #[.int .i64 a1.Log, .int .i64 a1.Next, .int .u64 a1.Seq, va1_0, va1_1]] : List Value).toArray w fun e w' => ∃ v0_ : Value, e = .returned (.tuple #[v0_, .int .i64 r.2]) ∧ SH (fun _ => False) w w' [Row (Kd.slice 43 k_File) 39 v0_ r.1] := by
 have H := h
 clear h
 unfold r16_Apply at H
 refine calls_enter Try.func15 rfl rfl ?_
 intro a hst
 have hsh := SH.zero (fun _ => False) w
 refine wq_seq ?_
 refine wq_region_lit (.inl rfl) ?_
 refine r_box hst hsh trivial rfl rfl rfl ?_
 intro g1 a w2 hgg1 hsh hst
 refine r_t hst trivial rfl (x_assign hst rfl) ?_; intro a hst
 refine r_t hst trivial rfl (x_assign hst rfl) ?_; intro a hst
 refine wpL_nil ?_
 refine then_normal ?_
 refine wq_seq ?_
 refine wq_seq ?_
 refine wq_region_lit (.inl rfl) ?_
 refine r_t hst trivial rfl (x_move hst rfl) ?_; intro a hst
 obtain ⟨r6, hr6, H⟩ := Option.bind_eq_some_iff.1 H
 refine r_callD hst trivial rfl fn_13 rfl (r16_Valid.calls k _ _ _ _ (Same.sh0 hsa0 hsh) _ hra0 r6 hr6) ?_
 rintro e w7 ⟨rfl, hc⟩
 replace hsh := hsh.call0 hc
 clear hc
 refine ⟨_, rfl, fun a hst => ?_⟩
 refine r_t hst trivial rfl (x_notB hst rfl) ?_; intro a hst
 refine wpL_nil ?_
 refine then_normal ?_
 by_cases c8 : (!r6) = true
 · rw [if_pos c8] at H
   refine wq_condT hst rfl c8 ?_
   refine wq_seq ?_
   refine wq_region_lit (.inl rfl) ?_
   refine r_t hst trivial rfl (x_assign hst rfl) ?_; intro a hst
   refine r_t hst trivial rfl (x_assign hst rfl) ?_; intro a hst
   refine wpL_nil ?_
   refine then_normal ?_
   refine wq_ret ?_
   refine then_ret ?_
   obtain rfl := Option.some.inj H
   have hsh := hsh.addNil (Kd.slice 43 k_File) 39
   exact ret2 hst rfl rfl rfl ⟨(.slice none 0 0), rfl, hsh.pick [0]⟩
 · rw [if_neg c8] at H
   replace c8 := Bool.eq_false_iff.2 c8
   refine wq_condF hst rfl c8 ?_
   refine wq_skip ?_
   refine then_normal ?_
   refine wq_seq ?_
   refine wq_region_lit (.inl rfl) ?_
   refine r_t hst trivial rfl (x_move hst rfl) ?_; intro a hst
   refine r_t hst trivial rfl (x_lenSl hst Try.underlying23 rfl hra0.slen) ?_; intro a hst
   obtain ⟨l10, hl10, H⟩ := Option.bind_eq_some_iff.1 H
   refine r_makeSlice (dk := (Kd.slice 43 k_File)) (z := []) (zc := [(.slice none 0 0)]) hst hsh trivial rfl Try.underlying23 el_39 zr_39 (by decide) (by decide) rfl rfl mf_nil hl10 ?_
   intro v12 a w13 hsh hst
   refine r_t hst trivial rfl (x_assign hst rfl) ?_; intro a hst
   refine wpL_nil ?_
   refine then_normal ?_
   refine wq_seq ?_
   refine wq_seq ?_
   refine wq_region_lit (.inl rfl) ?_
   refine r_t hst trivial rfl (x_assign hst rfl) ?_; intro a hst
   refine wpL_nil ?_
   refine then_normal ?_
   refine wq_block ?_
   refine wq_loop_fuel (fun k_22 a w' => ∃ (l_16 : (List (List File))), ∃ (i_17 : Int), r16_Apply.l0 a0 a1 k_22 l_16 i_17 = some r ∧ ST [] Try.f15.ntmps a [(0, va0), (3, .pointer (some ⟨g1, 0, none⟩)), (4, (.slice none 0 0)), (5, .int .i64 0), (6, v12), (7, .int .i64 i_17)] ∧ SH (fun _ => False) w w' [Box g1 [.int .i64 a1.Log, .int .i64 a1.Next, .int .u64 a1.Seq, va1_0, va1_1] 28, Row (Kd.slice 43 k_File) 39 v12 l_16]) k ?_ ?_
   · exact ⟨l10, 0, H, hst.keep _ ⟨rfl, rfl, rfl, rfl, rfl, rfl, trivial⟩, hsh.pick [1, 0]⟩
   · rintro k_22 a W_18 ⟨l_16, i_17, H, hst, hsh⟩
     cases k_22 with
     | zero => rw [r16_Apply.l0] at H; cases H
     | succ k_22 =>
      rw [r16_Apply.l0] at H
      refine wq_seq ?_
      refine wq_seq ?_
      refine wq_region_lit (.inl rfl) ?_
      refine r_t hst trivial rfl (x_move hst rfl) ?_; intro a hst
      refine r_t hst trivial rfl (x_move hst rfl) ?_; intro a hst
      refine r_t hst trivial rfl (x_lenSl hst Try.underlying23 rfl hra0.slen) ?_; intro a hst
      refine r_t hst trivial rfl (x_cmpI (b := decide (i_17 < (a0.length : Int))) hst rfl rfl rfl) ?_; intro a hst
      refine wpL_nil ?_
      refine then_normal ?_
      by_cases c225 : (decide (i_17 < (a0.length : Int))) = true
      · rw [if_pos c225] at H
        refine wq_condT hst rfl c225 ?_
        refine wq_skip ?_
        refine then_normal ?_
        refine wq_seq ?_
        refine wq_block ?_
        refine wq_region_lit (.inl rfl) ?_
        refine r_t hst trivial rfl (x_move hst rfl) ?_; intro a hst
        refine r_t hst trivial rfl (x_move hst rfl) ?_; intro a hst
        refine r_buildSlice (vs := []) (cs := []) hst hsh trivial rfl Try.underlying39 el_43 rfl rfl (by simp [Value.cells]) rfl rfl ?_
        intro g246 a w247 hgg246 hsh hst
        replace hsh := hsh.pick [0, 0, 0]
        replace hsh : SH (fun _ => False) w w247 [Row k_File 43 (.slice (some ⟨g246, 0, none⟩) 0 0) ([]), Box g1 [.int .i64 a1.Log, .int .i64 a1.Next, .int .u64 a1.Seq, va1_0, va1_1] 28, Row (Kd.slice 43 k_File) 39 v12 l_16] := SH.boxRow ([] : List File) hsh rfl rfl rfl
        refine r_t hst trivial rfl (x_move hst rfl) ?_; intro a hst
        refine r_t hst trivial rfl (x_move hst rfl) ?_; intro a hst
        obtain ⟨x249, hx249, H⟩ := Option.bind_eq_some_iff.1 H
        refine r_t hst trivial rfl (x_indexAddr hst Try.underlying23 el_39 rfl rfl hra0 hx249) ?_; intro a hst
        obtain ⟨_, hk250, hc251⟩ := RD.cells2 hra0 hx249
        obtain ⟨v252, rfl, hr253⟩ := hk250
        refine r_t hst trivial rfl (x_loadC hst sc_39 rfl (hc251 _ (Same.sh0 hsa0 hsh) 0 _ rfl)) ?_; intro a hst
        replace hsh := hsh.pick [0, 0, 0]
        obtain ⟨l254, hl254, H⟩ := Option.bind_eq_some_iff.1 H
        refine r_appendN (M := [Box g1 [.int .i64 a1.Log, .int .i64 a1.Next, .int .u64 a1.Seq, va1_0, va1_1] 28, Row (Kd.slice 43 k_File) 39 v12 l_16]) hst hsh trivial rfl Try.underlying39 el_43 (by decide) (by decide) (by decide) rfl rfl (flat_flat _ _ _ _) hr253 (Same.sh0 hsa0 hsh) hl254 ?_
        intro v255 a w256 hsh hst
        obtain ⟨Z257, hoZ257, hsh⟩ := hsh.freeze 2 rfl
        have hRZ257 := hoZ257.rd
        obtain ⟨x258, hx258, H⟩ := Option.bind_eq_some_iff.1 H
        refine r_t hst trivial rfl (x_indexAddr hst Try.underlying23 el_39 rfl rfl hRZ257 hx258) ?_; intro a hst
        obtain ⟨_, hk259, hc260⟩ := RD.cells2 hRZ257 hx258
        obtain ⟨v261, rfl, hr262⟩ := hk259
        obtain ⟨l264, hl264, H⟩ := Option.bind_eq_some_iff.1 H
        have hcl := hc260 _ (hsh.frz 0 rfl) 0 _ rfl
        replace hsh := hsh.thaw 0 rfl hoZ257
        replace hsh := hsh.takeOut 0 rfl hx258 hcl
        replace hsh := hsh.pick [0, 1, 1]
        obtain ⟨hlo, hlt, _⟩ := idx_some hx258
        refine r_put (M := [Box g1 [.int .i64 a1.Log, .int .i64 a1.Next, .int .u64 a1.Seq, va1_0, va1_1] 28]) hst hsh trivial sc_39 rfl rfl rfl (by omega) rfl (one_slice (hsh.row 1 rfl).slen) ?_; intro a w265 hsh hst
        rw [← upd_some hl264] at hsh
        refine wpL_nil ?_
        refine block_normal ?_
        refine then_normal ?_
        refine wq_region_lit (.inl rfl) ?_
        refine r_t hst trivial rfl (x_move hst rfl) ?_; intro a hst
        refine r_t hst trivial rfl (x_arI (r := w64 (i_17 + 1)) hst rfl rfl rfl) ?_; intro a hst
        refine r_t hst trivial rfl (x_assign hst rfl) ?_; intro a hst
        refine wpL_nil ?_
        refine then_normal ?_
        exact ⟨k_22, Nat.lt_succ_self _, l264, (w64 (i_17 + 1)), H, hst.keep _ ⟨rfl, rfl, rfl, rfl, rfl, rfl, trivial⟩, hsh.pick [1, 0]⟩
      · rw [if_neg c225] at H
        replace c225 := Bool.eq_false_iff.2 c225
        refine wq_condF hst rfl c225 ?_
        refine wq_exit ?_
        refine then_exit ?_
        refine then_exit ?_
        refine block_hit ?_
        refine then_normal ?_
        obtain ⟨J_435, hJ_435, H⟩ := Jn.elim H
        refine wq_cut (fun a w' => ∃ (l_433 : (List (List File))), J_435 l_433 = some r ∧ ST [] Try.f15.ntmps a [(3, .pointer (some ⟨g1, 0, none⟩)), (4, (.slice none 0 0)), (5, .int .i64 0), (6, v12)] ∧ SH (fun _ => False) w w' [Box g1 [.int .i64 a1.Log, .int .i64 a1.Next, .int .u64 a1.Seq, va1_0, va1_1] 28, Row (Kd.slice 43 k_File) 39 v12 l_433]) ?_ ?_
        · rintro a W_434 ⟨l_433, H, hst, hsh⟩
          subst hJ_435
          dsimp only at H
          obtain ⟨J_449, hJ_449, H⟩ := Jn.elim H
          refine wq_cut (fun a w' => ∃ (l_447 : (List (List File))), J_449 l_447 = some r ∧ ST [] Try.f15.ntmps a [(4, (.slice none 0 0)), (5, .int .i64 0), (6, v12)] ∧ SH (fun _ => False) w w' [Row (Kd.slice 43 k_File) 39 v12 l_447]) ?_ ?_
          · rintro a W_448 ⟨l_447, H, hst, hsh⟩
            subst hJ_449
            dsimp only at H
            refine wq_seq ?_
            refine wq_seq ?_
            refine wq_region_lit (.inl rfl) ?_
            refine r_t hst trivial rfl (x_move hst rfl) ?_; intro a hst
            obtain ⟨r2555, hr2555, H⟩ := Option.bind_eq_some_iff.1 H
            refine r_callD hst trivial rfl fn_13 rfl (r16_Valid.calls k_22 _ _ _ _ (Same.refl _ _) _ (hsh.row 0 rfl) r2555 hr2555) ?_
            rintro e w2556 ⟨rfl, hc⟩
            replace hsh := hsh.call0 hc
            clear hc
            refine ⟨_, rfl, fun a hst => ?_⟩
            refine r_t hst trivial rfl (x_notB hst rfl) ?_; intro a hst
            refine wpL_nil ?_
            refine then_normal ?_
            by_cases c2557 : (!r2555) = true
            · rw [if_pos c2557] at H
              refine wq_condT hst rfl c2557 ?_
              refine wq_seq ?_
              refine wq_region_lit (.inl rfl) ?_
              refine r_t hst trivial rfl (x_assign hst rfl) ?_; intro a hst
              refine r_t hst trivial rfl (x_assign hst rfl) ?_; intro a hst
              refine wpL_nil ?_
              refine then_normal ?_
              refine wq_ret ?_
              refine then_ret ?_
              obtain rfl := Option.some.inj H
              have hsh := hsh.addNil (Kd.slice 43 k_File) 39
              exact ret2 hst rfl rfl rfl ⟨(.slice none 0 0), rfl, hsh.pick [0]⟩
            · rw [if_neg c2557] at H
              replace c2557 := Bool.eq_false_iff.2 c2557
              refine wq_condF hst rfl c2557 ?_
              refine wq_skip ?_
              refine then_normal ?_
              refine wq_seq ?_
              refine wq_region_lit (.inl rfl) ?_
              refine r_t hst trivial rfl (x_move hst rfl) ?_; intro a hst
              refine r_t hst trivial rfl (x_assign hst rfl) ?_; intro a hst
              refine r_t hst trivial rfl (x_assign hst rfl) ?_; intro a hst
              refine wpL_nil ?_
              refine then_normal ?_
              refine wq_ret ?_
              obtain rfl := Option.some.inj H
              exact ret2 hst rfl rfl rfl ⟨v12, rfl, hsh.pick [0]⟩
          · refine wq_seq ?_
            refine wq_region_lit (.inl rfl) ?_
            refine r_t hst trivial rfl (x_assign hst rfl) ?_; intro a hst
            refine wpL_nil ?_
            refine then_normal ?_
            refine wq_block ?_
            refine wq_loop_fuel (fun k_460 a w' => ∃ (l_454 : (List (List File))), ∃ (i_455 : Int), r16_Apply.l1 a1 J_449 k_460 l_454 i_455 = some r ∧ ST [] Try.f15.ntmps a [(3, .pointer (some ⟨g1, 0, none⟩)), (4, (.slice none 0 0)), (5, .int .i64 0), (6, v12), (12, .int .i64 i_455)] ∧ SH (fun _ => False) w w' [Box g1 [.int .i64 a1.Log, .int .i64 a1.Next, .int .u64 a1.Seq, va1_0, va1_1] 28, Row (Kd.slice 43 k_File) 39 v12 l_454]) k_22 ?_ ?_
            · exact ⟨l_433, 0, H, hst.keep _ ⟨rfl, rfl, rfl, rfl, rfl, trivial⟩, hsh.pick [0, 0]⟩
            · rintro k_460 a W_456 ⟨l_454, i_455, H, hst, hsh⟩
              cases k_460 with
              | zero => rw [r16_Apply.l1] at H; cases H
              | succ k_460 =>
               rw [r16_Apply.l1] at H
               refine wq_seq ?_
               refine wq_seq ?_
               refine wq_region_lit (.inl rfl) ?_
               refine r_t hst trivial rfl (x_move hst rfl) ?_; intro a hst
               refine r_t hst trivial rfl (x_fieldAddr (j' := 4) hst fa_28_4 rfl rfl) ?_; intro a hst
               refine r_t hst trivial rfl (x_loadB (i := 0) hst hsh sc_26 rfl rfl rfl) ?_; intro a hst
               refine r_t hst trivial rfl (x_lenSl hst Try.underlying26 rfl hra1_1.slen) ?_; intro a hst
               refine r_t hst trivial rfl (x_cmpI (b := decide (i_455 < (a1.Come.length : Int))) hst rfl rfl rfl) ?_; intro a hst
               refine wpL_nil ?_
               refine then_normal ?_
               by_cases c2680 : (decide (i_455 < (a1.Come.length : Int))) = true
               · rw [if_pos c2680] at H
                 refine wq_condT hst rfl c2680 ?_
                 refine wq_skip ?_
                 refine then_normal ?_
                 refine wq_seq ?_
                 refine wq_block ?_
                 refine wq_seq ?_
                 refine wq_region_lit (.inl rfl) ?_
                 refine r_t hst trivial rfl (x_fieldAddr (j' := 4) hst fa_28_4 rfl rfl) ?_; intro a hst
                 refine r_t hst trivial rfl (x_loadB (i := 0) hst hsh sc_26 rfl rfl rfl) ?_; intro a hst
                 refine r_t hst trivial rfl (x_move hst rfl) ?_; intro a hst
                 obtain ⟨x2710, hx2710, H⟩ := Option.bind_eq_some_iff.1 H
                 refine r_t hst trivial rfl (x_indexAddr hst Try.underlying26 el_45 rfl rfl hra1_1 hx2710) ?_; intro a hst
                 refine r_t hst trivial rfl (x_loadEsF (j := 0) (cs := [.int .i64 x2710.Level, .int .i64 x2710.File.Number, .int .i64 x2710.File.Size, .string x2710.File.Least, .string x2710.File.Limit, .int .u64 x2710.File.Low, .int .u64 x2710.File.High]) (ps := [.int .i64 x2710.Level, .int .i64 x2710.File.Number, .int .i64 x2710.File.Size, .string x2710.File.Least, .string x2710.File.Limit, .int .u64 x2710.File.Low, .int .u64 x2710.File.High]) hst ag_45 rfl hra1_1 (Same.sh0 hsa1_1 hsh) hx2710 rfl (fun _ h => h) rfl) ?_; intro a hst
                 refine r_alloc hst hsh trivial rfl zr_45 ?_
                 intro g2711 a w2712 hgg2711 hsh hst
                 refine r_storeBs (i := 0) (cs' := [.int .i64 x2710.Level, .int .i64 x2710.File.Number, .int .i64 x2710.File.Size, .string x2710.File.Least, .string x2710.File.Limit, .int .u64 x2710.File.Low, .int .u64 x2710.File.High]) (vs := [.int .i64 x2710.Level, .int .i64 x2710.File.Number, .int .i64 x2710.File.Size, .string x2710.File.Least, .string x2710.File.Limit, .int .u64 x2710.File.Low, .int .u64 x2710.File.High]) hst hsh trivial ag_45 rfl rfl rfl rfl rfl rfl ?_; intro a w2713 hsh hst
                 refine wpL_nil ?_
                 refine then_normal ?_
                 refine wq_seq ?_
                 refine wq_seq ?_
                 refine wq_region_lit (.inl rfl) ?_
                 refine r_t hst trivial rfl (x_fieldAddr (j' := 0) hst fa_45_0 rfl rfl) ?_; intro a hst
                 refine r_t hst trivial rfl (x_loadB (i := 0) hst hsh sc_3 rfl rfl rfl) ?_; intro a hst
                 refine r_t hst trivial rfl (x_cmpI (b := decide (x2710.Level < 0)) hst rfl rfl rfl) ?_; intro a hst
                 refine r_t hst trivial rfl (x_move hst rfl) ?_; intro a hst
                 refine wl_join0 (Δ := []) (N := Try.f15.ntmps) 10 [(3, .pointer (some ⟨g1, 0, none⟩)), (4, (.slice none 0 0)), (5, .int .i64 0), (6, v12), (12, .int .i64 i_455), (13, .pointer (some ⟨g2711, 0, none⟩)), (125, .bool ((decide (x2710.Level < 0)) || (decide ((l_454.length : Int) ≤ x2710.Level))))] ?_ ?_
                 · intro a hst
                   refine wpL_nil ?_
                   refine then_normal ?_
                   by_cases c2717 : ((decide (x2710.Level < 0)) || (decide ((l_454.length : Int) ≤ x2710.Level))) = true
                   · rw [if_pos c2717] at H
                     refine wq_condT hst rfl c2717 ?_
                     refine wq_seq ?_
                     refine wq_region_lit (.inl rfl) ?_
                     refine r_t hst trivial rfl (x_assign hst rfl) ?_; intro a hst
                     refine r_t hst trivial rfl (x_assign hst rfl) ?_; intro a hst
                     refine wpL_nil ?_
                     refine then_normal ?_
                     refine wq_ret ?_
                     refine then_ret ?_
                     refine block_ret ?_
                     refine then_ret ?_
                     refine then_ret ?_
                     refine block_ret ?_
                     refine then_ret ?_
                     obtain rfl := Option.some.inj H
                     have hsh := hsh.addNil (Kd.slice 43 k_File) 39
                     exact ret2 hst rfl rfl rfl ⟨(.slice none 0 0), rfl, hsh.pick [0]⟩
                   · rw [if_neg c2717] at H
                     replace c2717 := Bool.eq_false_iff.2 c2717
                     refine wq_condF hst rfl c2717 ?_
                     refine wq_skip ?_
                     refine then_normal ?_
                     obtain ⟨Z2719, hoZ2719, hsh⟩ := hsh.freeze 2 rfl
                     have hRZ2719 := hoZ2719.rd
                     refine wq_region_t (.inl rfl) (.fin [(3, 0), (3, 1), (0, 2), (3, 3), (3, 4), (0, 5), (3, 6), (0, 7), (3, 8), (0, 9), (3, 10), (0, 11), (1, 12), (3, 13), (2, 14)]) (fun w' => SH (fun _ => False) w w' [Box g2711 [.int .i64 x2710.Level, .int .i64 x2710.File.Number, .int .i64 x2710.File.Size, .string x2710.File.Least, .string x2710.File.Limit, .int .u64 x2710.File.Low, .int .u64 x2710.File.High] 45, Box g1 [.int .i64 a1.Log, .int .i64 a1.Next, .int .u64 a1.Seq, va1_0, va1_1] 28]) (fun w' => SH (fun _ => False) w w' [Frz Z2719 w2713, Box g2711 [.int .i64 x2710.Level, .int .i64 x2710.File.Number, .int .i64 x2710.File.Size, .string x2710.File.Least, .string x2710.File.Limit, .int .u64 x2710.File.Low, .int .u64 x2710.File.High] 45, Box g1 [.int .i64 a1.Log, .int .i64 a1.Next, .int .u64 a1.Seq, va1_0, va1_1] 28]) (fun w' => SH (fun _ => False) w w' [Frz Z2719 w2713, Box g2711 [.int .i64 x2710.Level, .int .i64 x2710.File.Number, .int .i64 x2710.File.Size, .string x2710.File.Least, .string x2710.File.Limit, .int .u64 x2710.File.Low, .int .u64 x2710.File.High] 45, Box g1 [.int .i64 a1.Log, .int .i64 a1.Next, .int .u64 a1.Seq, va1_0, va1_1] 28]) (shut_sh _ _ _) (shut_sh _ _ _) (shut_sh _ _ _) (sub_sh [1, 1] rfl) (sub_sh [0, 0, 0] rfl) hsh.drew fo (by kernel_rfl) ?_
                     refine t_fin ?_
                     refine m_p hst trivial rfl (fun _ => x_move hst rfl) ?_; intro a hst
                     refine m_p hst trivial rfl (fun _ => x_fieldAddr (j' := 0) hst fa_45_0 rfl rfl) ?_; intro a hst
                     refine m_t hst trivial rfl (fun _ hsh => x_loadB (i := 1) hst hsh sc_3 rfl rfl rfl) ?_; intro a hst
                     refine m_p hst trivial rfl (fun _ => x_move hst rfl) ?_; intro a hst
                     refine m_p hst trivial rfl (fun _ => x_fieldAddr (j' := 0) hst fa_45_0 rfl rfl) ?_; intro a hst
                     refine m_t hst trivial rfl (fun _ hsh => x_loadB (i := 1) hst hsh sc_3 rfl rfl rfl) ?_; intro a hst
                     obtain ⟨x2720, hx2720, H⟩ := Option.bind_eq_some_iff.1 H
                     refine m_p hst trivial rfl (fun _ => x_indexAddr hst Try.underlying23 el_39 rfl rfl hRZ2719 hx2720) ?_; intro a hst
                     obtain ⟨_, hk2721, hc2722⟩ := RD.cells2 hRZ2719 hx2720
                     obtain ⟨v2723, rfl, hr2724⟩ := hk2721
                     refine m_t hst trivial rfl (fun _ hsh => x_loadC hst sc_39 rfl (hc2722 _ (hsh.frz 0 rfl) 0 _ rfl)) ?_; intro a hst
                     refine m_p hst trivial rfl (fun _ => x_fieldAddr (j' := 0) hst fa_45_0 rfl rfl) ?_; intro a hst
                     refine m_t hst trivial rfl (fun _ hsh => x_loadB (i := 1) hst hsh sc_3 rfl rfl rfl) ?_; intro a hst
                     refine m_p hst trivial rfl (fun _ => x_fieldAddr (j' := 1) hst fa_45_1 rfl rfl) ?_; intro a hst
                     refine m_t hst trivial rfl (fun _ hsh => x_loadBs (i := 1) (ps := [.int .i64 x2710.File.Number, .int .i64 x2710.File.Size, .string x2710.File.Least, .string x2710.File.Limit, .int .u64 x2710.File.Low, .int .u64 x2710.File.High]) hst hsh ag_43 rfl rfl rfl) ?_; intro a hst
                     refine m_loud (.inl rfl) ?_
                     intro w2725 hsh
                     obtain ⟨r2726, hr2726, H⟩ := Option.bind_eq_some_iff.1 H
                     refine r_callD hst trivial rfl fn_45 rfl (r16_put.calls k_460 _ _ _ _ (hsh.frz 0 rfl) _ hr2724 x2710.Level x2710.File r2726 hr2726) ?_
                     rintro e w2727 ⟨v2728, rfl, hc⟩
                     replace hsh := hsh.call0 hc
                     clear hc
                     refine ⟨_, rfl, fun a hst => ?_⟩
                     refine m_on (MB := [Row k_File 43 v2728 r2726, Frz Z2719 w2713, Box g2711 [.int .i64 x2710.Level, .int .i64 x2710.File.Number, .int .i64 x2710.File.Size, .string x2710.File.Least, .string x2710.File.Limit, .int .u64 x2710.File.Low, .int .u64 x2710.File.High] 45, Box g1 [.int .i64 a1.Log, .int .i64 a1.Next, .int .u64 a1.Seq, va1_0, va1_1] 28]) [0, 0, 0, 0] [1, 1, 1] rfl rfl hsh rfl (sub_sh [1, 1] rfl) ?_
                     obtain ⟨x2730, hx2730, H⟩ := Option.bind_eq_some_iff.1 H
                     refine m_p hst trivial rfl (fun _ => x_indexAddr hst Try.underlying23 el_39 rfl rfl hRZ2719 hx2730) ?_; intro a hst
                     obtain ⟨_, hk2731, hc2732⟩ := RD.cells2 hRZ2719 hx2730
                     obtain ⟨v2733, rfl, hr2734⟩ := hk2731
                     refine m_loud (.inr rfl) ?_
                     intro w2735 hsh
                     obtain ⟨l2737, hl2737, H⟩ := Option.bind_eq_some_iff.1 H
                     have hcl := hc2732 _ (hsh.frz 1 rfl) 0 _ rfl
                     replace hsh := hsh.thaw 1 rfl hoZ2719
                     replace hsh := hsh.takeOut 0 rfl hx2730 hcl
                     replace hsh := hsh.pick [0, 1, 1, 1]
                     obtain ⟨hlo, hlt, _⟩ := idx_some hx2730
                     refine r_put (M := [Box g2711 [.int .i64 x2710.Level, .int .i64 x2710.File.Number, .int .i64 x2710.File.Size, .string x2710.File.Least, .string x2710.File.Limit, .int .u64 x2710.File.Low, .int .u64 x2710.File.High] 45, Box g1 [.int .i64 a1.Log, .int .i64 a1.Next, .int .u64 a1.Seq, va1_0, va1_1] 28]) hst hsh trivial sc_39 rfl rfl rfl (by omega) rfl (one_slice (hsh.row 1 rfl).slen) ?_; intro a w2738 hsh hst
                     rw [← upd_some hl2737] at hsh
                     refine m_turn hsh (sub_sh [1, 1] rfl) ?_
                     refine m_nil ?_
                     intro w2739 hsh
                     refine qn_normal ?_
                     refine block_normal ?_
                     refine then_normal ?_
                     refine wq_region_lit (.inl rfl) ?_
                     refine r_t hst trivial rfl (x_move hst rfl) ?_; intro a hst
                     refine r_t hst trivial rfl (x_arI (r := w64 (i_455 + 1)) hst rfl rfl rfl) ?_; intro a hst
                     refine r_t hst trivial rfl (x_assign hst rfl) ?_; intro a hst
                     refine wpL_nil ?_
                     refine then_normal ?_
                     exact ⟨k_460, Nat.lt_succ_self _, l2737, (w64 (i_455 + 1)), H, hst.keep _ ⟨rfl, rfl, rfl, rfl, rfl, trivial⟩, hsh.pick [2, 0]⟩
                 · intro hj
                   by_cases c2716 : (decide (x2710.Level < 0)) = true
                   · refine r_not hst 119 rfl rfl c2716 rfl ?_; intro a hst
                     refine r_not hst 119 rfl rfl c2716 rfl ?_; intro a hst
                     refine r_not hst 119 rfl rfl c2716 rfl ?_; intro a hst
                     refine r_not hst 119 rfl rfl c2716 rfl ?_; intro a hst
                     refine r_not hst 119 rfl rfl c2716 rfl ?_; intro a hst
                     refine r_t hst trivial rfl (x_orT (decide ((l_454.length : Int) ≤ x2710.Level)) hst rfl c2716 rfl) ?_; intro a hst
                     exact hj _ (hst.keep _ ⟨rfl, rfl, rfl, rfl, rfl, rfl, rfl, trivial⟩)
                   · replace c2716 := Bool.eq_false_iff.2 c2716
                     refine r_t hst (wt_of 119 rfl rfl c2716) rfl (x_fieldAddr (j' := 0) hst fa_45_0 rfl rfl) ?_; intro a hst
                     refine r_t hst (wt_of 119 rfl rfl c2716) rfl (x_loadB (i := 0) hst hsh sc_3 rfl rfl rfl) ?_; intro a hst
                     refine r_t hst (wt_of 119 rfl rfl c2716) rfl (x_move hst rfl) ?_; intro a hst
                     refine r_t hst (wt_of 119 rfl rfl c2716) rfl (x_lenSl hst Try.underlying23 rfl (hsh.row 2 rfl).slen) ?_; intro a hst
                     refine r_t hst (wt_of 119 rfl rfl c2716) rfl (x_cmpI (b := decide ((l_454.length : Int) ≤ x2710.Level)) hst rfl rfl rfl) ?_; intro a hst
                     refine r_t hst trivial rfl (x_orF hst rfl c2716 rfl) ?_; intro a hst
                     exact hj _ (hst.keep _ ⟨rfl, rfl, rfl, rfl, rfl, rfl, rfl, trivial⟩)
               · rw [if_neg c2680] at H
                 replace c2680 := Bool.eq_false_iff.2 c2680
                 refine wq_condF hst rfl c2680 ?_
                 refine wq_exit ?_
                 refine then_exit ?_
                 refine then_exit ?_
                 refine block_hit ?_
                 refine then_normal ?_
                 exact ⟨l_454, H, hst.keep _ ⟨rfl, rfl, rfl, trivial⟩, hsh.pick [1]⟩
        · refine wq_seq ?_
          refine wq_region_lit (.inl rfl) ?_
          refine r_t hst trivial rfl (x_assign hst rfl) ?_; intro a hst
          refine wpL_nil ?_
          refine then_normal ?_
          refine wq_block ?_
          refine wq_loop_fuel (fun k_737 a w' => ∃ (l_598 : (List (List File))), ∃ (i_599 : Int), r16_Apply.l2 a1 J_435 k_737 l_598 i_599 = some r ∧ ST [] Try.f15.ntmps a [(3, .pointer (some ⟨g1, 0, none⟩)), (4, (.slice none 0 0)), (5, .int .i64 0), (6, v12), (8, .int .i64 i_599)] ∧ SH (fun _ => False) w w' [Box g1 [.int .i64 a1.Log, .int .i64 a1.Next, .int .u64 a1.Seq, va1_0, va1_1] 28, Row (Kd.slice 43 k_File) 39 v12 l_598]) k_22 ?_ ?_
          · exact ⟨l_16, 0, H, hst.keep _ ⟨rfl, rfl, rfl, rfl, rfl, trivial⟩, hsh.pick [0, 0]⟩
          · rintro k_737 a W_600 ⟨l_598, i_599, H, hst, hsh⟩
            cases k_737 with
            | zero => rw [r16_Apply.l2] at H; cases H
            | succ k_737 =>
             rw [r16_Apply.l2] at H
             refine wq_seq ?_
             refine wq_seq ?_
             refine wq_region_lit (.inl rfl) ?_
             refine r_t hst trivial rfl (x_move hst rfl) ?_; intro a hst
             refine r_t hst trivial rfl (x_fieldAddr (j' := 3) hst fa_28_3 rfl rfl) ?_; intro a hst
             refine r_t hst trivial rfl (x_loadB (i := 0) hst hsh sc_25 rfl rfl rfl) ?_; intro a hst
             refine r_t hst trivial rfl (x_lenSl hst Try.underlying25 rfl hra1_0.slen) ?_; intro a hst
             refine r_t hst trivial rfl (x_cmpI (b := decide (i_599 < (a1.Gone.length : Int))) hst rfl rfl rfl) ?_; intro a hst
             refine wpL_nil ?_
             refine then_normal ?_
             by_cases c4145 : (decide (i_599 < (a1.Gone.length : Int))) = true
             · rw [if_pos c4145] at H
               refine wq_condT hst rfl c4145 ?_
               refine wq_skip ?_
               refine then_normal ?_
               obtain ⟨J_805, hJ_805, H⟩ := Jn.elim H
               refine wq_cut (fun a w' => ∃ (l_803 : (List (List File))), J_805 l_803 = some r ∧ ST [] Try.f15.ntmps a [(3, .pointer (some ⟨g1, 0, none⟩)), (4, (.slice none 0 0)), (5, .int .i64 0), (6, v12), (8, .int .i64 i_599)] ∧ SH (fun _ => False) w w' [Box g1 [.int .i64 a1.Log, .int .i64 a1.Next, .int .u64 a1.Seq, va1_0, va1_1] 28, Row (Kd.slice 43 k_File) 39 v12 l_803]) ?_ ?_
               · rintro a W_804 ⟨l_803, H, hst, hsh⟩
                 subst hJ_805
                 dsimp only at H
                 refine wq_region_lit (.inl rfl) ?_
                 refine r_t hst trivial rfl (x_move hst rfl) ?_; intro a hst
                 refine r_t hst trivial rfl (x_arI (r := w64 (i_599 + 1)) hst rfl rfl rfl) ?_; intro a hst
                 refine r_t hst trivial rfl (x_assign hst rfl) ?_; intro a hst
                 refine wpL_nil ?_
                 refine then_normal ?_
                 exact ⟨k_737, Nat.lt_succ_self _, l_803, (w64 (i_599 + 1)), H, hst.keep _ ⟨rfl, rfl, rfl, rfl, rfl, trivial⟩, hsh.pick [0, 0]⟩
               · refine wq_block ?_
                 refine wq_seq ?_
                 refine wq_region_lit (.inl rfl) ?_
                 refine r_t hst trivial rfl (x_fieldAddr (j' := 3) hst fa_28_3 rfl rfl) ?_; intro a hst
                 refine r_t hst trivial rfl (x_loadB (i := 0) hst hsh sc_25 rfl rfl rfl) ?_; intro a hst
                 refine r_t hst trivial rfl (x_move hst rfl) ?_; intro a hst
                 obtain ⟨x4496, hx4496, H⟩ := Option.bind_eq_some_iff.1 H
                 refine r_t hst trivial rfl (x_indexAddr hst Try.underlying25 el_41 rfl rfl hra1_0 hx4496) ?_; intro a hst
                 refine r_t hst trivial rfl (x_loadEsF (j := 0) (cs := [.int .i64 x4496.Level, .int .i64 x4496.Number]) (ps := [.int .i64 x4496.Level, .int .i64 x4496.Number]) hst ag_41 rfl hra1_0 (Same.sh0 hsa1_0 hsh) hx4496 rfl (fun _ h => h) rfl) ?_; intro a hst
                 refine r_alloc hst hsh trivial rfl zr_41 ?_
                 intro g4497 a w4498 hgg4497 hsh hst
                 refine r_storeBs (i := 0) (cs' := [.int .i64 x4496.Level, .int .i64 x4496.Number]) (vs := [.int .i64 x4496.Level, .int .i64 x4496.Number]) hst hsh trivial ag_41 rfl rfl rfl rfl rfl rfl ?_; intro a w4499 hsh hst
                 refine wpL_nil ?_
                 refine then_normal ?_
                 refine wq_seq ?_
                 refine wq_seq ?_
                 refine wq_region_lit (.inl rfl) ?_
                 refine r_t hst trivial rfl (x_fieldAddr (j' := 0) hst fa_41_0 rfl rfl) ?_; intro a hst
                 refine r_t hst trivial rfl (x_loadB (i := 0) hst hsh sc_3 rfl rfl rfl) ?_; intro a hst
                 refine r_t hst trivial rfl (x_cmpI (b := decide (x4496.Level < 0)) hst rfl rfl rfl) ?_; intro a hst
                 refine r_t hst trivial rfl (x_move hst rfl) ?_; intro a hst
                 refine wl_join0 (Δ := []) (N := Try.f15.ntmps) 10 [(3, .pointer (some ⟨g1, 0, none⟩)), (4, (.slice none 0 0)), (5, .int .i64 0), (6, v12), (8, .int .i64 i_599), (9, .pointer (some ⟨g4497, 0, none⟩)), (56, .bool ((decide (x4496.Level < 0)) || (decide ((l_598.length : Int) ≤ x4496.Level))))] ?_ ?_
                 · intro a hst
                   refine wpL_nil ?_
                   refine then_normal ?_
                   by_cases c4503 : ((decide (x4496.Level < 0)) || (decide ((l_598.length : Int) ≤ x4496.Level))) = true
                   · rw [if_pos c4503] at H
                     refine wq_condT hst rfl c4503 ?_
                     refine wq_seq ?_
                     refine wq_region_lit (.inl rfl) ?_
                     refine r_t hst trivial rfl (x_assign hst rfl) ?_; intro a hst
                     refine r_t hst trivial rfl (x_assign hst rfl) ?_; intro a hst
                     refine wpL_nil ?_
                     refine then_normal ?_
                     refine wq_ret ?_
                     refine then_ret ?_
                     refine block_ret ?_
                     refine then_ret ?_
                     refine then_ret ?_
                     refine block_ret ?_
                     refine then_ret ?_
                     obtain rfl := Option.some.inj H
                     have hsh := hsh.addNil (Kd.slice 43 k_File) 39
                     exact ret2 hst rfl rfl rfl ⟨(.slice none 0 0), rfl, hsh.pick [0]⟩
                   · rw [if_neg c4503] at H
                     replace c4503 := Bool.eq_false_iff.2 c4503
                     refine wq_condF hst rfl c4503 ?_
                     refine wq_skip ?_
                     refine then_normal ?_
                     refine wq_seq ?_
                     refine wq_region_lit (.inl rfl) ?_
                     refine r_t hst trivial rfl (x_assign hst rfl) ?_; intro a hst
                     refine wpL_nil ?_
                     refine then_normal ?_
                     obtain ⟨J_840, hJ_840, H⟩ := Jn.elim H
                     refine wq_cut (fun a w' => ∃ (v_837 : Value), ∃ (l_838 : (List File)), J_840 l_838 = some r ∧ ST [] Try.f15.ntmps a [(3, .pointer (some ⟨g1, 0, none⟩)), (4, (.slice none 0 0)), (5, .int .i64 0), (6, v12), (8, .int .i64 i_599), (9, .pointer (some ⟨g4497, 0, none⟩)), (10, v_837)] ∧ SH (fun _ => False) w w' [Box g1 [.int .i64 a1.Log, .int .i64 a1.Next, .int .u64 a1.Seq, va1_0, va1_1] 28, Row (Kd.slice 43 k_File) 39 v12 l_598, Box g4497 [.int .i64 x4496.Level, .int .i64 x4496.Number] 41, Row k_File 43 v_837 l_838]) ?_ ?_
                     · rintro a W_839 ⟨v_837, l_838, H, hst, hsh⟩
                       subst hJ_840
                       dsimp only at H
                       refine wq_seq ?_
                       refine wq_seq ?_
                       refine wq_region_lit (.inl rfl) ?_
                       refine r_t hst trivial rfl (x_move hst rfl) ?_; intro a hst
                       refine r_t hst trivial rfl (x_lenSl hst Try.underlying39 rfl (hsh.row 3 rfl).slen) ?_; intro a hst
                       refine r_t hst trivial rfl (x_move hst rfl) ?_; intro a hst
                       refine r_t hst trivial rfl (x_fieldAddr (j' := 0) hst fa_41_0 rfl rfl) ?_; intro a hst
                       refine r_t hst trivial rfl (x_loadB (i := 2) hst hsh sc_3 rfl rfl rfl) ?_; intro a hst
                       obtain ⟨Z4672, hoZ4672, hsh⟩ := hsh.freeze 1 rfl
                       have hRZ4672 := hoZ4672.rd
                       obtain ⟨x4673, hx4673, H⟩ := Option.bind_eq_some_iff.1 H
                       refine r_t hst trivial rfl (x_indexAddr hst Try.underlying23 el_39 rfl rfl hRZ4672 hx4673) ?_; intro a hst
                       obtain ⟨_, hk4674, hc4675⟩ := RD.cells2 hRZ4672 hx4673
                       obtain ⟨v4676, rfl, hr4677⟩ := hk4674
                       refine r_t hst trivial rfl (x_loadC hst sc_39 rfl (hc4675 _ (hsh.frz 0 rfl) 0 _ rfl)) ?_; intro a hst
                       refine r_t hst trivial rfl (x_lenSl hst Try.underlying39 rfl hr4677.slen) ?_; intro a hst
                       refine r_t hst trivial rfl (x_cmpI (b := ((l_838.length : Int) == (x4673.length : Int))) hst rfl rfl rfl) ?_; intro a hst
                       refine wpL_nil ?_
                       refine then_normal ?_
                       by_cases c4678 : ((l_838.length : Int) == (x4673.length : Int)) = true
                       · rw [if_pos c4678] at H
                         refine wq_condT hst rfl c4678 ?_
                         refine wq_seq ?_
                         refine wq_region_lit (.inl rfl) ?_
                         refine r_t hst trivial rfl (x_assign hst rfl) ?_; intro a hst
                         refine r_t hst trivial rfl (x_assign hst rfl) ?_; intro a hst
                         refine wpL_nil ?_
                         refine then_normal ?_
                         refine wq_ret ?_
                         refine then_ret ?_
                         refine block_ret ?_
                         refine then_ret ?_
                         refine then_ret ?_
                         refine block_ret ?_
                         refine then_ret ?_
                         obtain rfl := Option.some.inj H
                         have hsh := hsh.addNil (Kd.slice 43 k_File) 39
                         exact ret2 hst rfl rfl rfl ⟨(.slice none 0 0), rfl, hsh.pick [0]⟩
                       · rw [if_neg c4678] at H
                         replace c4678 := Bool.eq_false_iff.2 c4678
                         refine wq_condF hst rfl c4678 ?_
                         refine wq_skip ?_
                         refine then_normal ?_
                         refine wq_region_lit (.inl rfl) ?_
                         refine r_t hst trivial rfl (x_move hst rfl) ?_; intro a hst
                         refine r_t hst trivial rfl (x_fieldAddr (j' := 0) hst fa_41_0 rfl rfl) ?_; intro a hst
                         refine r_t hst trivial rfl (x_loadB (i := 2) hst hsh sc_3 rfl rfl rfl) ?_; intro a hst
                         refine r_t hst trivial rfl (x_move hst rfl) ?_; intro a hst
                         obtain ⟨x4680, hx4680, H⟩ := Option.bind_eq_some_iff.1 H
                         refine r_t hst trivial rfl (x_indexAddr hst Try.underlying23 el_39 rfl rfl hRZ4672 hx4680) ?_; intro a hst
                         obtain ⟨_, hk4681, hc4682⟩ := RD.cells2 hRZ4672 hx4680
                         obtain ⟨v4683, rfl, hr4684⟩ := hk4681
                         obtain ⟨l4686, hl4686, H⟩ := Option.bind_eq_some_iff.1 H
                         have hcl := hc4682 _ (hsh.frz 0 rfl) 0 _ rfl
                         replace hsh := hsh.thaw 0 rfl hoZ4672
                         replace hsh := hsh.takeOut 0 rfl hx4680 hcl
                         replace hsh := hsh.pick [0, 3, 1, 1]
                         obtain ⟨hlo, hlt, _⟩ := idx_some hx4680
                         refine r_put (M := [Box g1 [.int .i64 a1.Log, .int .i64 a1.Next, .int .u64 a1.Seq, va1_0, va1_1] 28, Box g4497 [.int .i64 x4496.Level, .int .i64 x4496.Number] 41]) hst hsh trivial sc_39 rfl rfl rfl (by omega) rfl (one_slice (hsh.row 1 rfl).slen) ?_; intro a w4687 hsh hst
                         rw [← upd_some hl4686] at hsh
                         refine wpL_nil ?_
                         refine block_normal ?_
                         refine then_normal ?_
                         exact ⟨l4686, H, hst.keep _ ⟨rfl, rfl, rfl, rfl, rfl, trivial⟩, hsh.pick [1, 0]⟩
                     · refine wq_seq ?_
                       refine wq_region_lit (.inl rfl) ?_
                       refine r_t hst trivial rfl (x_assign hst rfl) ?_; intro a hst
                       refine wpL_nil ?_
                       refine then_normal ?_
                       refine wq_block ?_
                       have hsh := hsh.addNil k_File 43
                       refine wq_loop_fuel (fun k_866 a w' => ∃ (v_853 : Value), ∃ (l_854 : (List File)), ∃ (i_855 : Int), r16_Apply.l3 l_598 x4496 J_840 k_866 l_854 i_855 = some r ∧ ST [] Try.f15.ntmps a [(3, .pointer (some ⟨g1, 0, none⟩)), (4, (.slice none 0 0)), (5, .int .i64 0), (6, v12), (8, .int .i64 i_599), (9, .pointer (some ⟨g4497, 0, none⟩)), (10, v_853), (11, .int .i64 i_855)] ∧ SH (fun _ => False) w w' [Box g1 [.int .i64 a1.Log, .int .i64 a1.Next, .int .u64 a1.Seq, va1_0, va1_1] 28, Row (Kd.slice 43 k_File) 39 v12 l_598, Box g4497 [.int .i64 x4496.Level, .int .i64 x4496.Number] 41, Row k_File 43 v_853 l_854]) k_737 ?_ ?_
                       · exact ⟨(.slice none 0 0), ([]), 0, H, hst.keep _ ⟨rfl, rfl, rfl, rfl, rfl, rfl, rfl, rfl, trivial⟩, hsh.pick [2, 2, 1, 0]⟩
                       · rintro k_866 a W_856 ⟨v_853, l_854, i_855, H, hst, hsh⟩
                         cases k_866 with
                         | zero => rw [r16_Apply.l3] at H; cases H
                         | succ k_866 =>
                          rw [r16_Apply.l3] at H
                          refine wq_seq ?_
                          refine wq_seq ?_
                          refine wq_region_lit (.inl rfl) ?_
                          refine r_t hst trivial rfl (x_move hst rfl) ?_; intro a hst
                          refine r_t hst trivial rfl (x_move hst rfl) ?_; intro a hst
                          refine r_t hst trivial rfl (x_fieldAddr (j' := 0) hst fa_41_0 rfl rfl) ?_; intro a hst
                          refine r_t hst trivial rfl (x_loadB (i := 2) hst hsh sc_3 rfl rfl rfl) ?_; intro a hst
                          obtain ⟨Z4802, hoZ4802, hsh⟩ := hsh.freeze 1 rfl
                          have hRZ4802 := hoZ4802.rd
                          obtain ⟨x4803, hx4803, H⟩ := Option.bind_eq_some_iff.1 H
                          refine r_t hst trivial rfl (x_indexAddr hst Try.underlying23 el_39 rfl rfl hRZ4802 hx4803) ?_; intro a hst
                          obtain ⟨_, hk4804, hc4805⟩ := RD.cells2 hRZ4802 hx4803
                          obtain ⟨v4806, rfl, hr4807⟩ := hk4804
                          refine r_t hst trivial rfl (x_loadC hst sc_39 rfl (hc4805 _ (hsh.frz 0 rfl) 0 _ rfl)) ?_; intro a hst
                          refine r_t hst trivial rfl (x_lenSl hst Try.underlying39 rfl hr4807.slen) ?_; intro a hst
                          refine r_t hst trivial rfl (x_cmpI (b := decide (i_855 < (x4803.length : Int))) hst rfl rfl rfl) ?_; intro a hst
                          refine wpL_nil ?_
                          refine then_normal ?_
                          by_cases c4808 : (decide (i_855 < (x4803.length : Int))) = true
                          · rw [if_pos c4808] at H
                            refine wq_condT hst rfl c4808 ?_
                            refine wq_skip ?_
                            refine then_normal ?_
                            obtain ⟨J_870, hJ_870, H⟩ := Jn.elim H
                            refine wq_cut (fun a w' => ∃ (v_867 : Value), ∃ (l_868 : (List File)), J_870 l_868 = some r ∧ ST [] Try.f15.ntmps a [(3, .pointer (some ⟨g1, 0, none⟩)), (4, (.slice none 0 0)), (5, .int .i64 0), (6, v12), (8, .int .i64 i_599), (9, .pointer (some ⟨g4497, 0, none⟩)), (10, v_867), (11, .int .i64 i_855)] ∧ SH (fun _ => False) w w' [Box g1 [.int .i64 a1.Log, .int .i64 a1.Next, .int .u64 a1.Seq, va1_0, va1_1] 28, Frz Z4802 W_856, Box g4497 [.int .i64 x4496.Level, .int .i64 x4496.Number] 41, Row k_File 43 v_867 l_868]) ?_ ?_
                            · rintro a W_869 ⟨v_867, l_868, H, hst, hsh⟩
                              subst hJ_870
                              dsimp only at H
                              refine wq_region_lit (.inl rfl) ?_
                              refine r_t hst trivial rfl (x_move hst rfl) ?_; intro a hst
                              refine r_t hst trivial rfl (x_arI (r := w64 (i_855 + 1)) hst rfl rfl rfl) ?_; intro a hst
                              refine r_t hst trivial rfl (x_assign hst rfl) ?_; intro a hst
                              refine wpL_nil ?_
                              refine then_normal ?_
                              replace hsh := hsh.thaw 1 rfl hoZ4802
                              exact ⟨k_866, Nat.lt_succ_self _, v_867, l_868, (w64 (i_855 + 1)), H, hst.keep _ ⟨rfl, rfl, rfl, rfl, rfl, rfl, rfl, rfl, trivial⟩, hsh.pick [1, 0, 0, 0]⟩
                            · refine wq_block ?_
                              refine wq_seq ?_
                              refine wq_region_q (.inl rfl) (fun w' => SH (fun _ => False) w w' [Frz Z4802 W_856, Box g1 [.int .i64 a1.Log, .int .i64 a1.Next, .int .u64 a1.Seq, va1_0, va1_1] 28, Box g4497 [.int .i64 x4496.Level, .int .i64 x4496.Number] 41, Row k_File 43 v_853 l_854]) (shut_sh _ _ _) hsh.drew fo (by kernel_rfl) ?_
                              refine q_t hst trivial rfl (fun _ hsh => x_move hst rfl) ?_; intro a hst
                              refine q_t hst trivial rfl (fun _ hsh => x_fieldAddr (j' := 0) hst fa_41_0 rfl rfl) ?_; intro a hst
                              refine q_t hst trivial rfl (fun _ hsh => x_loadB (i := 2) hst hsh sc_3 rfl rfl rfl) ?_; intro a hst
                              obtain ⟨x4828, hx4828, H⟩ := Option.bind_eq_some_iff.1 H
                              refine q_t hst trivial rfl (fun _ hsh => x_indexAddr hst Try.underlying23 el_39 rfl rfl hRZ4802 hx4828) ?_; intro a hst
                              obtain ⟨_, hk4829, hc4830⟩ := RD.cells2 hRZ4802 hx4828
                              obtain ⟨v4831, rfl, hr4832⟩ := hk4829
                              refine q_t hst trivial rfl (fun _ hsh => x_loadC hst sc_39 rfl (hc4830 _ (hsh.frz 0 rfl) 0 _ rfl)) ?_; intro a hst
                              refine q_t hst trivial rfl (fun _ hsh => x_move hst rfl) ?_; intro a hst
                              obtain ⟨x4833, hx4833, H⟩ := Option.bind_eq_some_iff.1 H
                              refine q_t hst trivial rfl (fun _ hsh => x_indexAddr hst Try.underlying39 el_43 rfl rfl hr4832 hx4833) ?_; intro a hst
                              refine q_t hst trivial rfl (fun _ hsh => x_fieldAddrE (n' := Int.toNat i_855 * k_File.sz) hst fa_43_0 rfl rfl) ?_; intro a hst
                              refine q_t hst trivial rfl (fun _ hsh => x_loadEF (j := 0) (cs := [.int .i64 x4833.Number, .int .i64 x4833.Size, .string x4833.Least, .string x4833.Limit, .int .u64 x4833.Low, .int .u64 x4833.High]) hst sc_3 rfl hr4832 (hsh.frz 0 rfl) hx4833 rfl (fun _ h => h) rfl) ?_; intro a hst
                              refine q_t hst trivial rfl (fun _ hsh => x_fieldAddr (j' := 1) hst fa_41_1 rfl rfl) ?_; intro a hst
                              refine q_t hst trivial rfl (fun _ hsh => x_loadB (i := 2) hst hsh sc_3 rfl rfl rfl) ?_; intro a hst
                              refine q_t hst trivial rfl (fun _ hsh => x_cmpI (b := (x4833.Number != x4496.Number)) hst rfl rfl rfl) ?_; intro a hst
                              refine q_nil ?_
                              intro w4834 hsh
                              refine then_normal ?_
                              by_cases c4835 : (x4833.Number != x4496.Number) = true
                              · rw [if_pos c4835] at H
                                refine wq_condT hst rfl c4835 ?_
                                refine wq_region_lit (.inl rfl) ?_
                                refine r_t hst trivial rfl (x_move hst rfl) ?_; intro a hst
                                refine r_t hst trivial rfl (x_move hst rfl) ?_; intro a hst
                                refine r_t hst trivial rfl (x_fieldAddr (j' := 0) hst fa_41_0 rfl rfl) ?_; intro a hst
                                refine r_t hst trivial rfl (x_loadB (i := 2) hst hsh sc_3 rfl rfl rfl) ?_; intro a hst
                                obtain ⟨x4836, hx4836, H⟩ := Option.bind_eq_some_iff.1 H
                                refine r_t hst trivial rfl (x_indexAddr hst Try.underlying23 el_39 rfl rfl hRZ4802 hx4836) ?_; intro a hst
                                obtain ⟨_, hk4837, hc4838⟩ := RD.cells2 hRZ4802 hx4836
                                obtain ⟨v4839, rfl, hr4840⟩ := hk4837
                                refine r_t hst trivial rfl (x_loadC hst sc_39 rfl (hc4838 _ (hsh.frz 0 rfl) 0 _ rfl)) ?_; intro a hst
                                refine r_t hst trivial rfl (x_move hst rfl) ?_; intro a hst
                                obtain ⟨x4841, hx4841, H⟩ := Option.bind_eq_some_iff.1 H
                                refine r_t hst trivial rfl (x_indexAddr hst Try.underlying39 el_43 rfl rfl hr4840 hx4841) ?_; intro a hst
                                refine r_t hst trivial rfl (x_loadEsF (j := 0) (cs := [.int .i64 x4841.Number, .int .i64 x4841.Size, .string x4841.Least, .string x4841.Limit, .int .u64 x4841.Low, .int .u64 x4841.High]) (ps := [.int .i64 x4841.Number, .int .i64 x4841.Size, .string x4841.Least, .string x4841.Limit, .int .u64 x4841.Low, .int .u64 x4841.High]) hst ag_43 rfl hr4840 (hsh.frz 0 rfl) hx4841 rfl (fun _ h => h) rfl) ?_; intro a hst
                                refine r_buildSlice (vs := [.agg #[.int .i64 x4841.Number, .int .i64 x4841.Size, .string x4841.Least, .string x4841.Limit, .int .u64 x4841.Low, .int .u64 x4841.High]]) (cs := [.int .i64 x4841.Number, .int .i64 x4841.Size, .string x4841.Least, .string x4841.Limit, .int .u64 x4841.Low, .int .u64 x4841.High]) hst hsh trivial rfl Try.underlying39 el_43 rfl rfl (by simp [Value.cells]) rfl rfl ?_
                                intro g4842 a w4843 hgg4842 hsh hst
                                replace hsh := hsh.pick [4, 0, 0, 0, 0]
                                obtain ⟨l4844, hl4844, H⟩ := Option.bind_eq_some_iff.1 H
                                refine r_append1 (xx := x4841) (C := []) (M := [Frz Z4802 W_856, Box g1 [.int .i64 a1.Log, .int .i64 a1.Next, .int .u64 a1.Seq, va1_0, va1_1] 28, Box g4497 [.int .i64 x4496.Level, .int .i64 x4496.Number] 41]) hst hsh trivial rfl Try.underlying39 el_43 (by decide) (by decide) (by decide) rfl rfl (fun _ _ _ => rfl) hl4844 ?_
                                intro v4845 a w4846 hsh hst
                                refine r_t hst trivial rfl (x_assign hst rfl) ?_; intro a hst
                                refine wpL_nil ?_
                                refine block_normal ?_
                                refine then_normal ?_
                                exact ⟨v4845, l4844, H, hst.keep _ ⟨rfl, rfl, rfl, rfl, rfl, rfl, rfl, rfl, trivial⟩, hsh.pick [2, 1, 1, 0]⟩
                              · rw [if_neg c4835] at H
                                replace c4835 := Bool.eq_false_iff.2 c4835
                                refine wq_condF hst rfl c4835 ?_
                                refine wq_skip ?_
                                refine block_normal ?_
                                refine then_normal ?_
                                exact ⟨v_853, l_854, H, hst.keep _ ⟨rfl, rfl, rfl, rfl, rfl, rfl, rfl, rfl, trivial⟩, hsh.pick [1, 0, 0, 0]⟩
                          · rw [if_neg c4808] at H
                            replace c4808 := Bool.eq_false_iff.2 c4808
                            refine wq_condF hst rfl c4808 ?_
                            refine wq_exit ?_
                            refine then_exit ?_
                            refine then_exit ?_
                            refine block_hit ?_
                            refine then_normal ?_
                            replace hsh := hsh.thaw 0 rfl hoZ4802
                            exact ⟨v_853, l_854, H, hst.keep _ ⟨rfl, rfl, rfl, rfl, rfl, rfl, rfl, trivial⟩, hsh.pick [1, 0, 0, 0]⟩
                 · intro hj
                   by_cases c4502 : (decide (x4496.Level < 0)) = true
                   · refine r_not hst 50 rfl rfl c4502 rfl ?_; intro a hst
                     refine r_not hst 50 rfl rfl c4502 rfl ?_; intro a hst
                     refine r_not hst 50 rfl rfl c4502 rfl ?_; intro a hst
                     refine r_not hst 50 rfl rfl c4502 rfl ?_; intro a hst
                     refine r_not hst 50 rfl rfl c4502 rfl ?_; intro a hst
                     refine r_t hst trivial rfl (x_orT (decide ((l_598.length : Int) ≤ x4496.Level)) hst rfl c4502 rfl) ?_; intro a hst
                     exact hj _ (hst.keep _ ⟨rfl, rfl, rfl, rfl, rfl, rfl, rfl, trivial⟩)
                   · replace c4502 := Bool.eq_false_iff.2 c4502
                     refine r_t hst (wt_of 50 rfl rfl c4502) rfl (x_fieldAddr (j' := 0) hst fa_41_0 rfl rfl) ?_; intro a hst
                     refine r_t hst (wt_of 50 rfl rfl c4502) rfl (x_loadB (i := 0) hst hsh sc_3 rfl rfl rfl) ?_; intro a hst
                     refine r_t hst (wt_of 50 rfl rfl c4502) rfl (x_move hst rfl) ?_; intro a hst
                     refine r_t hst (wt_of 50 rfl rfl c4502) rfl (x_lenSl hst Try.underlying23 rfl (hsh.row 2 rfl).slen) ?_; intro a hst
                     refine r_t hst (wt_of 50 rfl rfl c4502) rfl (x_cmpI (b := decide ((l_598.length : Int) ≤ x4496.Level)) hst rfl rfl rfl) ?_; intro a hst
                     refine r_t hst trivial rfl (x_orF hst rfl c4502 rfl) ?_; intro a hst
                     exact hj _ (hst.keep _ ⟨rfl, rfl, rfl, rfl, rfl, rfl, rfl, trivial⟩)
             · rw [if_neg c4145] at H
               replace c4145 := Bool.eq_false_iff.2 c4145
               refine wq_condF hst rfl c4145 ?_
               refine wq_exit ?_
               refine then_exit ?_
               refine then_exit ?_
               refine block_hit ?_
               refine then_normal ?_
               exact ⟨l_598, H, hst.keep _ ⟨rfl, rfl, rfl, rfl, trivial⟩, hsh.pick [0, 0]⟩

set_option maxHeartbeats 4000000 in
set_option maxRecDepth 100000 in
theorem r16_Same.calls (k : Nat) (w : World) (va0 : Value) (Za0 : Nat → Prop) (wra0 : World) (hsa0 : Same Za0 wra0 w) (a0 : (List (List File))) (hra0 : RD (Kd.slice 43 k_File) Za0 wra0 va0 a0) (va1 : Value) (Za1 : Nat → Prop) (wra1 : World) (hsa1 : Same Za1 wra1 w) (a1 : (List (List File))) (hra1 : RD (Kd.slice 43 k_File) Za1 wra1 va1 a1) (r : Bool) (h : r16_Same k a0 a1 = some r) :
    Calls Try.prog 16 ([va0, va1] : List Value).toArray w fun e w' => e = .returned (.bool r) ∧ SH (fun _ => False) w w' [] := by
 have H := h
 clear h
 unfold r16_Same at H
 refine calls_enter Try.func16 rfl rfl ?_
 intro a hst
 have hsh := SH.zero (fun _ => False) w
 refine wq_seq ?_
 refine wq_region_lit (.inl rfl) ?_
 refine r_t hst trivial rfl (x_assign hst rfl) ?_; intro a hst
 refine wpL_nil ?_
 refine then_normal ?_
 refine wq_seq ?_
 refine wq_seq ?_
 refine wq_region_lit (.inl rfl) ?_
 refine r_t hst trivial rfl (x_move hst rfl) ?_; intro a hst
 refine r_t hst trivial rfl (x_lenSl hst Try.underlying23 rfl hra0.slen) ?_; intro a hst
 refine r_t hst trivial rfl (x_move hst rfl) ?_; intro a hst
 refine r_t hst trivial rfl (x_lenSl hst Try.underlying23 rfl hra1.slen) ?_; intro a hst
 refine r_t hst trivial rfl (x_cmpI (b := ((a0.length : Int) != (a1.length : Int))) hst rfl rfl rfl) ?_; intro a hst
 refine wpL_nil ?_
 refine then_normal ?_
 by_cases c2 : ((a0.length : Int) != (a1.length : Int)) = true
 · rw [if_pos c2] at H
   refine wq_condT hst rfl c2 ?_
   refine wq_seq ?_
   refine wq_region_lit (.inl rfl) ?_
   refine r_t hst trivial rfl (x_assign hst rfl) ?_; intro a hst
   refine wpL_nil ?_
   refine then_normal ?_
   refine wq_ret ?_
   refine then_ret ?_
   obtain rfl := Option.some.inj H
   exact ret1 hst rfl rfl ⟨rfl, hsh.pick []⟩
 · rw [if_neg c2] at H
   replace c2 := Bool.eq_false_iff.2 c2
   refine wq_condF hst rfl c2 ?_
   refine wq_skip ?_
   refine then_normal ?_
   refine wq_seq ?_
   refine wq_seq ?_
   refine wq_region_lit (.inl rfl) ?_
   refine r_t hst trivial rfl (x_assign hst rfl) ?_; intro a hst
   refine wpL_nil ?_
   refine then_normal ?_
   refine wq_block ?_
   refine wq_loop_fuel (fun k_106 a w' => ∃ (i_84 : Int), r16_Same.l0 a0 a1 k_106 i_84 = some r ∧ ST [] Try.f16.ntmps a [(0, va0), (1, va1), (4, .bool false), (5, .int .i64 i_84)] ∧ SH (fun _ => False) w w' []) k ?_ ?_
   · exact ⟨0, H, hst.keep _ ⟨rfl, rfl, rfl, rfl, trivial⟩, hsh.pick []⟩
   · rintro k_106 a W_85 ⟨i_84, H, hst, hsh⟩
     cases k_106 with
     | zero => rw [r16_Same.l0] at H; cases H
     | succ k_106 =>
      rw [r16_Same.l0] at H
      refine wq_seq ?_
      refine wq_seq ?_
      refine wq_region_lit (.inl rfl) ?_
      refine r_t hst trivial rfl (x_move hst rfl) ?_; intro a hst
      refine r_t hst trivial rfl (x_move hst rfl) ?_; intro a hst
      refine r_t hst trivial rfl (x_lenSl hst Try.underlying23 rfl hra0.slen) ?_; intro a hst
      refine r_t hst trivial rfl (x_cmpI (b := decide (i_84 < (a0.length : Int))) hst rfl rfl rfl) ?_; intro a hst
      refine wpL_nil ?_
      refine then_normal ?_
      by_cases c1454 : (decide (i_84 < (a0.length : Int))) = true
      · rw [if_pos c1454] at H
        refine wq_condT hst rfl c1454 ?_
        refine wq_skip ?_
        refine then_normal ?_
        obtain ⟨J_116, hJ_116, H⟩ := Jn.elim H
        refine wq_cut (fun a w' => J_116 = some r ∧ ST [] Try.f16.ntmps a [(0, va0), (1, va1), (4, .bool false), (5, .int .i64 i_84)] ∧ SH (fun _ => False) w w' []) ?_ ?_
        · rintro a W_115 ⟨H, hst, hsh⟩
          subst hJ_116
          refine wq_region_lit (.inl rfl) ?_
          refine r_t hst trivial rfl (x_move hst rfl) ?_; intro a hst
          refine r_t hst trivial rfl (x_arI (r := w64 (i_84 + 1)) hst rfl rfl rfl) ?_; intro a hst
          refine r_t hst trivial rfl (x_assign hst rfl) ?_; intro a hst
          refine wpL_nil ?_
          refine then_normal ?_
          exact ⟨k_106, Nat.lt_succ_self _, (w64 (i_84 + 1)), H, hst.keep _ ⟨rfl, rfl, rfl, rfl, trivial⟩, hsh.pick []⟩
        · refine wq_block ?_
          refine wq_seq ?_
          refine wq_seq ?_
          refine wq_region_q (.inl rfl) (fun w' => SH (fun _ => False) w w' []) (shut_sh _ _ _) hsh.drew fo (by kernel_rfl) ?_
          refine q_t hst trivial rfl (fun _ hsh => x_move hst rfl) ?_; intro a hst
          refine q_t hst trivial rfl (fun _ hsh => x_move hst rfl) ?_; intro a hst
          obtain ⟨x1611, hx1611, H⟩ := Option.bind_eq_some_iff.1 H
          refine q_t hst trivial rfl (fun _ hsh => x_indexAddr hst Try.underlying23 el_39 rfl rfl hra0 hx1611) ?_; intro a hst
          obtain ⟨_, hk1612, hc1613⟩ := RD.cells2 hra0 hx1611
          obtain ⟨v1614, rfl, hr1615⟩ := hk1612
          refine q_t hst trivial rfl (fun _ hsh => x_loadC hst sc_39 rfl (hc1613 _ (Same.sh0 hsa0 hsh) 0 _ rfl)) ?_; intro a hst
          refine q_t hst trivial rfl (fun _ hsh => x_lenSl hst Try.underlying39 rfl hr1615.slen) ?_; intro a hst
          refine q_t hst trivial rfl (fun _ hsh => x_move hst rfl) ?_; intro a hst
          refine q_t hst trivial rfl (fun _ hsh => x_move hst rfl) ?_; intro a hst
          obtain ⟨x1616, hx1616, H⟩ := Option.bind_eq_some_iff.1 H
          refine q_t hst trivial rfl (fun _ hsh => x_indexAddr hst Try.underlying23 el_39 rfl rfl hra1 hx1616) ?_; intro a hst
          obtain ⟨_, hk1617, hc1618⟩ := RD.cells2 hra1 hx1616
          obtain ⟨v1619, rfl, hr1620⟩ := hk1617
          refine q_t hst trivial rfl (fun _ hsh => x_loadC hst sc_39 rfl (hc1618 _ (Same.sh0 hsa1 hsh) 0 _ rfl)) ?_; intro a hst
          refine q_t hst trivial rfl (fun _ hsh => x_lenSl hst Try.underlying39 rfl hr1620.slen) ?_; intro a hst
          refine q_t hst trivial rfl (fun _ hsh => x_cmpI (b := ((x1611.length : Int) != (x1616.length : Int))) hst rfl rfl rfl) ?_; intro a hst
          refine q_nil ?_
          intro w1621 hsh
          refine then_normal ?_
          by_cases c1622 : ((x1611.length : Int) != (x1616.length : Int)) = true
          · rw [if_pos c1622] at H
            refine wq_condT hst rfl c1622 ?_
            refine wq_seq ?_
            refine wq_region_lit (.inl rfl) ?_
            refine r_t hst trivial rfl (x_assign hst rfl) ?_; intro a hst
            refine wpL_nil ?_
            refine then_normal ?_
            refine wq_ret ?_
            refine then_ret ?_
            refine block_ret ?_
            refine then_ret ?_
            refine then_ret ?_
            refine block_ret ?_
            refine then_ret ?_
            obtain rfl := Option.some.inj H
            exact ret1 hst rfl rfl ⟨rfl, hsh.pick []⟩
          · rw [if_neg c1622] at H
            replace c1622 := Bool.eq_false_iff.2 c1622
            refine wq_condF hst rfl c1622 ?_
            refine wq_skip ?_
            refine then_normal ?_
            refine wq_seq ?_
            refine wq_region_lit (.inl rfl) ?_
            refine r_t hst trivial rfl (x_assign hst rfl) ?_; intro a hst
            refine wpL_nil ?_
            refine then_normal ?_
            refine wq_block ?_
            refine wq_loop_fuel (fun k_124 a w' => ∃ (i_120 : Int), r16_Same.l1 a0 a1 i_84 J_116 k_124 i_120 = some r ∧ ST [] Try.f16.ntmps a [(0, va0), (1, va1), (4, .bool false), (5, .int .i64 i_84), (6, .int .i64 i_120)] ∧ SH (fun _ => False) w w' []) k_106 ?_ ?_
            · exact ⟨0, H, hst.keep _ ⟨rfl, rfl, rfl, rfl, rfl, trivial⟩, hsh.pick []⟩
            · rintro k_124 a W_121 ⟨i_120, H, hst, hsh⟩
              cases k_124 with
              | zero => rw [r16_Same.l1] at H; cases H
              | succ k_124 =>
               rw [r16_Same.l1] at H
               refine wq_seq ?_
               refine wq_seq ?_
               refine wq_region_lit (.inl rfl) ?_
               refine r_t hst trivial rfl (x_move hst rfl) ?_; intro a hst
               refine r_t hst trivial rfl (x_move hst rfl) ?_; intro a hst
               refine r_t hst trivial rfl (x_move hst rfl) ?_; intro a hst
               obtain ⟨x1709, hx1709, H⟩ := Option.bind_eq_some_iff.1 H
               refine r_t hst trivial rfl (x_indexAddr hst Try.underlying23 el_39 rfl rfl hra0 hx1709) ?_; intro a hst
               obtain ⟨_, hk1710, hc1711⟩ := RD.cells2 hra0 hx1709
               obtain ⟨v1712, rfl, hr1713⟩ := hk1710
               refine r_t hst trivial rfl (x_loadC hst sc_39 rfl (hc1711 _ (Same.sh0 hsa0 hsh) 0 _ rfl)) ?_; intro a hst
               refine r_t hst trivial rfl (x_lenSl hst Try.underlying39 rfl hr1713.slen) ?_; intro a hst
               refine r_t hst trivial rfl (x_cmpI (b := decide (i_120 < (x1709.length : Int))) hst rfl rfl rfl) ?_; intro a hst
               refine wpL_nil ?_
               refine then_normal ?_
               by_cases c1714 : (decide (i_120 < (x1709.length : Int))) = true
               · rw [if_pos c1714] at H
                 refine wq_condT hst rfl c1714 ?_
                 refine wq_skip ?_
                 refine then_normal ?_
                 refine wq_seq ?_
                 refine wq_block ?_
                 refine wq_seq ?_
                 refine wq_region_q (.inl rfl) (fun w' => SH (fun _ => False) w w' []) (shut_sh _ _ _) hsh.drew fo (by kernel_rfl) ?_
                 refine q_t hst trivial rfl (fun _ hsh => x_move hst rfl) ?_; intro a hst
                 refine q_t hst trivial rfl (fun _ hsh => x_move hst rfl) ?_; intro a hst
                 obtain ⟨x1729, hx1729, H⟩ := Option.bind_eq_some_iff.1 H
                 refine q_t hst trivial rfl (fun _ hsh => x_indexAddr hst Try.underlying23 el_39 rfl rfl hra0 hx1729) ?_; intro a hst
                 obtain ⟨_, hk1730, hc1731⟩ := RD.cells2 hra0 hx1729
                 obtain ⟨v1732, rfl, hr1733⟩ := hk1730
                 refine q_t hst trivial rfl (fun _ hsh => x_loadC hst sc_39 rfl (hc1731 _ (Same.sh0 hsa0 hsh) 0 _ rfl)) ?_; intro a hst
                 refine q_t hst trivial rfl (fun _ hsh => x_move hst rfl) ?_; intro a hst
                 obtain ⟨x1734, hx1734, H⟩ := Option.bind_eq_some_iff.1 H
                 refine q_t hst trivial rfl (fun _ hsh => x_indexAddr hst Try.underlying39 el_43 rfl rfl hr1733 hx1734) ?_; intro a hst
                 refine q_t hst trivial rfl (fun _ hsh => x_loadEsF (j := 0) (cs := [.int .i64 x1734.Number, .int .i64 x1734.Size, .string x1734.Least, .string x1734.Limit, .int .u64 x1734.Low, .int .u64 x1734.High]) (ps := [.int .i64 x1734.Number, .int .i64 x1734.Size, .string x1734.Least, .string x1734.Limit, .int .u64 x1734.Low, .int .u64 x1734.High]) hst ag_43 rfl hr1733 (Same.sh0 hsa0 hsh) hx1734 rfl (fun _ h => h) rfl) ?_; intro a hst
                 refine q_t hst trivial rfl (fun _ hsh => x_move hst rfl) ?_; intro a hst
                 refine q_t hst trivial rfl (fun _ hsh => x_move hst rfl) ?_; intro a hst
                 obtain ⟨x1735, hx1735, H⟩ := Option.bind_eq_some_iff.1 H
                 refine q_t hst trivial rfl (fun _ hsh => x_indexAddr hst Try.underlying23 el_39 rfl rfl hra1 hx1735) ?_; intro a hst
                 obtain ⟨_, hk1736, hc1737⟩ := RD.cells2 hra1 hx1735
                 obtain ⟨v1738, rfl, hr1739⟩ := hk1736
                 refine q_t hst trivial rfl (fun _ hsh => x_loadC hst sc_39 rfl (hc1737 _ (Same.sh0 hsa1 hsh) 0 _ rfl)) ?_; intro a hst
                 refine q_t hst trivial rfl (fun _ hsh => x_move hst rfl) ?_; intro a hst
                 obtain ⟨x1740, hx1740, H⟩ := Option.bind_eq_some_iff.1 H
                 refine q_t hst trivial rfl (fun _ hsh => x_indexAddr hst Try.underlying39 el_43 rfl rfl hr1739 hx1740) ?_; intro a hst
                 refine q_t hst trivial rfl (fun _ hsh => x_loadEsF (j := 0) (cs := [.int .i64 x1740.Number, .int .i64 x1740.Size, .string x1740.Least, .string x1740.Limit, .int .u64 x1740.Low, .int .u64 x1740.High]) (ps := [.int .i64 x1740.Number, .int .i64 x1740.Size, .string x1740.Least, .string x1740.Limit, .int .u64 x1740.Low, .int .u64 x1740.High]) hst ag_43 rfl hr1739 (Same.sh0 hsa1 hsh) hx1740 rfl (fun _ h => h) rfl) ?_; intro a hst
                 refine q_t hst trivial rfl (fun _ hsh => x_eqSn (b := File.eqb x1734 x1740) (x0 := x1734) (y0 := x1740) hst eqof_43 rfl rfl rfl) ?_; intro a hst
                 refine q_nil ?_
                 intro w1741 hsh
                 refine then_normal ?_
                 by_cases c1742 : (!File.eqb x1734 x1740) = true
                 · rw [if_pos c1742] at H
                   refine wq_condT hst rfl c1742 ?_
                   refine wq_seq ?_
                   refine wq_region_lit (.inl rfl) ?_
                   refine r_t hst trivial rfl (x_assign hst rfl) ?_; intro a hst
                   refine wpL_nil ?_
                   refine then_normal ?_
                   refine wq_ret ?_
                   refine block_ret ?_
                   refine then_ret ?_
                   refine then_ret ?_
                   refine block_ret ?_
                   refine block_ret ?_
                   refine then_ret ?_
                   refine then_ret ?_
                   refine block_ret ?_
                   refine then_ret ?_
                   obtain rfl := Option.some.inj H
                   exact ret1 hst rfl rfl ⟨rfl, hsh.pick []⟩
                 · rw [if_neg c1742] at H
                   replace c1742 := Bool.eq_false_iff.2 c1742
                   refine wq_condF hst rfl c1742 ?_
                   refine wq_skip ?_
                   refine block_normal ?_
                   refine then_normal ?_
                   refine wq_region_lit (.inl rfl) ?_
                   refine r_t hst trivial rfl (x_move hst rfl) ?_; intro a hst
                   refine r_t hst trivial rfl (x_arI (r := w64 (i_120 + 1)) hst rfl rfl rfl) ?_; intro a hst
                   refine r_t hst trivial rfl (x_assign hst rfl) ?_; intro a hst
                   refine wpL_nil ?_
                   refine then_normal ?_
                   exact ⟨k_124, Nat.lt_succ_self _, (w64 (i_120 + 1)), H, hst.keep _ ⟨rfl, rfl, rfl, rfl, rfl, trivial⟩, hsh.pick []⟩
               · rw [if_neg c1714] at H
                 replace c1714 := Bool.eq_false_iff.2 c1714
                 refine wq_condF hst rfl c1714 ?_
                 refine wq_exit ?_
                 refine then_exit ?_
                 refine then_exit ?_
                 refine block_hit ?_
                 refine block_normal ?_
                 refine then_normal ?_
                 exact ⟨H, hst.keep _ ⟨rfl, rfl, rfl, rfl, trivial⟩, hsh.pick []⟩
      · rw [if_neg c1454] at H
        replace c1454 := Bool.eq_false_iff.2 c1454
        refine wq_condF hst rfl c1454 ?_
        refine wq_exit ?_
        refine then_exit ?_
        refine then_exit ?_
        refine block_hit ?_
        refine then_normal ?_
        refine wq_seq ?_
        refine wq_region_lit (.inl rfl) ?_
        refine r_t hst trivial rfl (x_assign hst rfl) ?_; intro a hst
        refine wpL_nil ?_
        refine then_normal ?_
        refine wq_ret ?_
        obtain rfl := Option.some.inj H
        exact ret1 hst rfl rfl ⟨rfl, hsh.pick []⟩

set_option maxHeartbeats 4000000 in
set_option maxRecDepth 100000 in
theorem l16_wiped.calls (k : Nat) (w : World) (GG : Nat → Prop) (va0 : Value) (a0 : (List File)) (hsep : Sep GG w [Row k_File 43 va0 a0]) (r : (List File)) (h : l16_wiped k a0 = some r) :
    Calls Try.prog 17 ([va0] : List Value).toArray w fun e w' => e = .returned (.tuple #[]) ∧ SH GG w w' [Row k_File 43 va0 r] := by
 have H := h
 clear h
 unfold l16_wiped at H
 refine calls_enter Try.func17 rfl rfl ?_
 intro a hst
 have hsh := SH.start hsep
 refine wq_seq ?_
 refine wq_region_lit (.inl rfl) ?_
 refine r_t hst trivial rfl (x_assign hst rfl) ?_; intro a hst
 refine wpL_nil ?_
 refine then_normal ?_
 refine wq_block ?_
 refine wq_loop_fuel (fun k_11 a w' => ∃ (l_5 : (List File)), ∃ (i_6 : Int), l16_wiped.l0 k_11 l_5 i_6 = some r ∧ ST [] Try.f17.ntmps a [(0, va0), (2, .int .i64 i_6)] ∧ SH GG w w' [Row k_File 43 va0 l_5]) k ?_ ?_
 · exact ⟨a0, 0, H, hst.keep _ ⟨rfl, rfl, trivial⟩, hsh.pick [0]⟩
 · rintro k_11 a W_7 ⟨l_5, i_6, H, hst, hsh⟩
   cases k_11 with
   | zero => rw [l16_wiped.l0] at H; cases H
   | succ k_11 =>
    rw [l16_wiped.l0] at H
    refine wq_seq ?_
    refine wq_seq ?_
    refine wq_region_lit (.inl rfl) ?_
    refine r_t hst trivial rfl (x_move hst rfl) ?_; intro a hst
    refine r_t hst trivial rfl (x_move hst rfl) ?_; intro a hst
    refine r_t hst trivial rfl (x_lenSl hst Try.underlying39 rfl (hsh.row 0 rfl).slen) ?_; intro a hst
    refine r_t hst trivial rfl (x_cmpI (b := decide (i_6 < (l_5.length : Int))) hst rfl rfl rfl) ?_; intro a hst
    refine wpL_nil ?_
    refine then_normal ?_
    by_cases c18 : (decide (i_6 < (l_5.length : Int))) = true
    · rw [if_pos c18] at H
      refine wq_condT hst rfl c18 ?_
      refine wq_skip ?_
      refine then_normal ?_
      refine wq_seq ?_
      refine wq_block ?_
      refine wq_region_lit (.inl rfl) ?_
      refine r_t hst trivial rfl (x_move hst rfl) ?_; intro a hst
      refine r_t hst trivial rfl (x_move hst rfl) ?_; intro a hst
      refine r_t hst trivial rfl (x_build (cs := [.int .i64 (-7), .int .i64 0, .string (ByteArray.mk #[]), .string (ByteArray.mk #[]), .int .u64 0, .int .u64 0]) hst rfl (by kernel_rfl)) ?_; intro a hst
      obtain ⟨x22, hx22, H⟩ := Option.bind_eq_some_iff.1 H
      refine r_t hst trivial rfl (x_indexAddr hst Try.underlying39 el_43 rfl rfl (hsh.row 0 rfl) hx22) ?_; intro a hst
      obtain ⟨l23, hl23, H⟩ := Option.bind_eq_some_iff.1 H
      refine r_storeEs (i := 0) (off := 0) (new := (⟨(-7), 0, (ByteArray.mk #[]), (ByteArray.mk #[]), 0, 0⟩ : File)) (vs := [.int .i64 (-7), .int .i64 0, .string (ByteArray.mk #[]), .string (ByteArray.mk #[]), .int .u64 0, .int .u64 0]) (cs' := [.int .i64 (-7), .int .i64 0, .string (ByteArray.mk #[]), .string (ByteArray.mk #[]), .int .u64 0, .int .u64 0]) hst hsh trivial ag_43 rfl rfl rfl hx22 rfl (Nat.le_of_ble_eq_true rfl) rfl (fun _ _ _ h => by rw [h]; rfl) (fun _ _ => rfl) ?_; intro a w24 hsh hst
      rw [← upd_some hl23] at hsh
      refine wpL_nil ?_
      refine block_normal ?_
      refine then_normal ?_
      refine wq_region_lit (.inl rfl) ?_
      refine r_t hst trivial rfl (x_move hst rfl) ?_; intro a hst
      refine r_t hst trivial rfl (x_arI (r := w64 (i_6 + 1)) hst rfl rfl rfl) ?_; intro a hst
      refine r_t hst trivial rfl (x_assign hst rfl) ?_; intro a hst
      refine wpL_nil ?_
      refine then_normal ?_
      exact ⟨k_11, Nat.lt_succ_self _, l23, (w64 (i_6 + 1)), H, hst.keep _ ⟨rfl, rfl, trivial⟩, hsh.pick [0]⟩
    · rw [if_neg c18] at H
      replace c18 := Bool.eq_false_iff.2 c18
      refine wq_condF hst rfl c18 ?_
      refine wq_exit ?_
      refine then_exit ?_
      refine then_exit ?_
      refine block_hit ?_
      obtain rfl := Option.some.inj H
      exact end0 hst rfl ⟨rfl, hsh.pick [0]⟩
end Go.Proofs.Ytbbepmmelpabbaa.Mo
