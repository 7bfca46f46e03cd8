/- Printed by gen.py: contracts. -/
import Derived.Test.YtbaemhkfmddakaaGreatMzKd
set_option linter.unusedVariables false
set_option linter.unusedSectionVars false
set_option linter.unusedSimpArgs false
set_option maxRecDepth 100000
set_option maxHeartbeats 4000000
namespace Go.Proofs.YtbaemhkfmddakaaGreat.Mo
open Go Go.Proofs.YtbaemhkfmddakaaGreat.Sy
open Go.Proofs
theorem tomb_Valid.calls (w : World) (a0 : Tomb) (r : Bool) (h : tomb_Valid a0 = some r) :
    Calls Tryz.prog 95 ([.agg #[.string a0.Begin, .string a0.End, .int .u64 a0.Seq]] : List Value).toArray w fun e w' => e = .returned (.bool r) ∧ SH (fun _ => False) w w' [] := by
 have H := h; clear h
 unfold tomb_Valid at H
 refine calls_enter Tryz.func95 rfl rfl ?_; intro a t; have s := SH.zero (fun _ => False) w; refine ws (.inl rfl) ?_; refine r_box t s tv rfl rfl rfl ?_; intro g1 a w2 hgg1 s t; refine ta t rfl rfl fun a t => wn ?_; refine ws (.inl rfl) ?_; refine r_t t tv rfl (x_fieldAddr (j' := 0) t fa_100_0 rfl rfl) fun a t => r_t t tv rfl (xb (i := 0) t s sc_9 rfl rfl rfl) fun a t => r_t t tv rfl (x_cmpS (b := (!sEq a0.Begin (ByteArray.mk #[]))) t rfl rfl rfl) fun a t => tm t rfl rfl fun a t => wl (Δ := []) (N := Tryz.f95.ntmps) 9 [(1, .pointer (some ⟨g1, 0, none⟩)), (2, .bool false), (11, .bool ((!sEq a0.Begin (ByteArray.mk #[])) && (decide ((a0.Begin.size : Int) ≤ 1024))))] ?_ ?_
 · intro a t; refine tm t rfl rfl fun a t => wl (Δ := []) (N := Tryz.f95.ntmps) 15 [(1, .pointer (some ⟨g1, 0, none⟩)), (2, .bool false), (17, .bool (((!sEq a0.Begin (ByteArray.mk #[])) && (decide ((a0.Begin.size : Int) ≤ 1024))) && (decide ((a0.End.size : Int) ≤ 1025))))] ?_ ?_
   · intro a t; refine tm t rfl rfl fun a t => wl (Δ := []) (N := Tryz.f95.ntmps) 22 [(1, .pointer (some ⟨g1, 0, none⟩)), (2, .bool false), (24, .bool ((((!sEq a0.Begin (ByteArray.mk #[])) && (decide ((a0.Begin.size : Int) ≤ 1024))) && (decide ((a0.End.size : Int) ≤ 1025))) && (sLt a0.Begin a0.End)))] ?_ ?_
     · intro a t; refine tm t rfl rfl fun a t => wl (Δ := []) (N := Tryz.f95.ntmps) 27 [(2, .bool false), (29, .bool (((((!sEq a0.Begin (ByteArray.mk #[])) && (decide ((a0.Begin.size : Int) ≤ 1024))) && (decide ((a0.End.size : Int) ≤ 1025))) && (sLt a0.Begin a0.End)) && (decide (a0.Seq ≤ 72057594037927935))))] ?_ ?_
       · intro a t; refine ta t rfl rfl fun a t => wn ?_; refine wq_ret ?_; obtain rfl := oi H; exact ret1 t rfl rfl ⟨rfl, s.pick []⟩
       · intro hj
         by_cases c6 : ((((!sEq a0.Begin (ByteArray.mk #[])) && (decide ((a0.Begin.size : Int) ≤ 1024))) && (decide ((a0.End.size : Int) ≤ 1025))) && (sLt a0.Begin a0.End)) = true
         · refine r_t t (wt_of 25 rfl rfl c6) rfl (x_fieldAddr (j' := 2) t fa_100_2 rfl rfl) fun a t => r_t t (wt_of 25 rfl rfl c6) rfl (xb (i := 0) t s sc_27 rfl rfl rfl) fun a t => r_t t (wt_of 25 rfl rfl c6) rfl (x_cmpI (b := decide (a0.Seq ≤ 72057594037927935)) t rfl rfl rfl) fun a t => r_t t tv rfl (x_andT t rfl c6 rfl) ?_; intro a t; exact hj _ (t.keep _ ⟨rfl, rfl, tv⟩)
         · replace c6 := bfI c6; refine r_not t 25 rfl rfl c6 rfl fun a t => r_not t 25 rfl rfl c6 rfl fun a t => r_not t 25 rfl rfl c6 rfl fun a t => r_t t tv rfl (x_andF (decide (a0.Seq ≤ 72057594037927935)) t rfl c6 rfl) ?_; intro a t; exact hj _ (t.keep _ ⟨rfl, rfl, tv⟩)
     · intro hj
       by_cases c5 : (((!sEq a0.Begin (ByteArray.mk #[])) && (decide ((a0.Begin.size : Int) ≤ 1024))) && (decide ((a0.End.size : Int) ≤ 1025))) = true
       · refine r_t t (wt_of 18 rfl rfl c5) rfl (x_fieldAddr (j' := 0) t fa_100_0 rfl rfl) fun a t => r_t t (wt_of 18 rfl rfl c5) rfl (xb (i := 0) t s sc_9 rfl rfl rfl) fun a t => r_t t (wt_of 18 rfl rfl c5) rfl (x_fieldAddr (j' := 1) t fa_100_1 rfl rfl) fun a t => r_t t (wt_of 18 rfl rfl c5) rfl (xb (i := 0) t s sc_9 rfl rfl rfl) fun a t => r_t t (wt_of 18 rfl rfl c5) rfl (x_cmpS (b := sLt a0.Begin a0.End) t rfl rfl rfl) fun a t => r_t t tv rfl (x_andT t rfl c5 rfl) ?_; intro a t; exact hj _ (t.keep _ ⟨rfl, rfl, rfl, tv⟩)
       · replace c5 := bfI c5; refine r_not t 18 rfl rfl c5 rfl fun a t => r_not t 18 rfl rfl c5 rfl fun a t => r_not t 18 rfl rfl c5 rfl fun a t => r_not t 18 rfl rfl c5 rfl fun a t => r_not t 18 rfl rfl c5 rfl fun a t => r_t t tv rfl (x_andF (sLt a0.Begin a0.End) t rfl c5 rfl) ?_; intro a t; exact hj _ (t.keep _ ⟨rfl, rfl, rfl, tv⟩)
   · intro hj
     by_cases c4 : ((!sEq a0.Begin (ByteArray.mk #[])) && (decide ((a0.Begin.size : Int) ≤ 1024))) = true
     · refine r_t t (wt_of 12 rfl rfl c4) rfl (x_fieldAddr (j' := 1) t fa_100_1 rfl rfl) fun a t => r_t t (wt_of 12 rfl rfl c4) rfl (xb (i := 0) t s sc_9 rfl rfl rfl) fun a t => r_t t (wt_of 12 rfl rfl c4) rfl (x_lenStr t Tryz.underlying9 rfl) fun a t => r_t t (wt_of 12 rfl rfl c4) rfl (x_cmpI (b := decide ((a0.End.size : Int) ≤ 1025)) t rfl rfl rfl) fun a t => r_t t tv rfl (x_andT t rfl c4 rfl) ?_; intro a t; exact hj _ (t.keep _ ⟨rfl, rfl, rfl, tv⟩)
     · replace c4 := bfI c4; refine r_not t 12 rfl rfl c4 rfl fun a t => r_not t 12 rfl rfl c4 rfl fun a t => r_not t 12 rfl rfl c4 rfl fun a t => r_not t 12 rfl rfl c4 rfl fun a t => r_t t tv rfl (x_andF (decide ((a0.End.size : Int) ≤ 1025)) t rfl c4 rfl) ?_; intro a t; exact hj _ (t.keep _ ⟨rfl, rfl, rfl, tv⟩)
 · intro hj
   by_cases c3 : (!sEq a0.Begin (ByteArray.mk #[])) = true
   · refine r_t t (wt_of 6 rfl rfl c3) rfl (x_fieldAddr (j' := 0) t fa_100_0 rfl rfl) fun a t => r_t t (wt_of 6 rfl rfl c3) rfl (xb (i := 0) t s sc_9 rfl rfl rfl) fun a t => r_t t (wt_of 6 rfl rfl c3) rfl (x_lenStr t Tryz.underlying9 rfl) fun a t => r_t t (wt_of 6 rfl rfl c3) rfl (x_cmpI (b := decide ((a0.Begin.size : Int) ≤ 1024)) t rfl rfl rfl) fun a t => r_t t tv rfl (x_andT t rfl c3 rfl) ?_; intro a t; exact hj _ (t.keep _ ⟨rfl, rfl, rfl, tv⟩)
   · replace c3 := bfI c3; refine r_not t 6 rfl rfl c3 rfl fun a t => r_not t 6 rfl rfl c3 rfl fun a t => r_not t 6 rfl rfl c3 rfl fun a t => r_not t 6 rfl rfl c3 rfl fun a t => r_t t tv rfl (x_andF (decide ((a0.Begin.size : Int) ≤ 1024)) t rfl c3 rfl) ?_; intro a t; exact hj _ (t.keep _ ⟨rfl, rfl, rfl, tv⟩)

theorem tomb_valid.calls (k : Nat) (w : World) (va0 : Value) (Za0 : Nat → Prop) (wra0 : World) (hsa0 : Same Za0 wra0 w) (a0 : (List Tomb)) (hra0 : RD k_Tomb Za0 wra0 va0 a0) (r : (List Tomb)) (h : tomb_valid k a0 = some r) :
    Calls Tryz.prog 76 ([va0] : List Value).toArray w fun e w' => ∃ v0_ : Value, e = .returned (v0_) ∧ SH (fun _ => False) w w' [Row k_Tomb 100 v0_ r] := by
 have H := h; clear h
 unfold tomb_valid at H
 refine calls_enter Tryz.func76 rfl rfl ?_; intro a t; have s := SH.zero (fun _ => False) w; refine ws (.inl rfl) ?_; refine ta t rfl rfl fun a t => wn ?_; refine ws (.inl rfl) ?_; refine ta t rfl rfl fun a t => wn ?_; refine wS ?_; refine ws (.inl rfl) ?_; refine tm t rfl rfl fun a t => r_t t tv rfl (x_lenSl t Tryz.underlying26 rfl hra0.slen) fun a t => tm t rfl rfl fun a t => wn ?_; refine wq_block ?_; have s := s.addNil k_Tomb 100; refine wq_loop_fuel (fun k_56 a w' => ∃ (v_43 : Value), ∃ (l_44 : (List Tomb)), ∃ (i_45 : Int), tomb_valid.l0 a0 k_56 l_44 i_45 = some r ∧ ST [] Tryz.f76.ntmps a [(2, (.slice none 0 0)), (3, v_43), (6, va0), (7, .int .i64 (a0.length : Int)), (8, .int .i64 i_45)] ∧ SH (fun _ => False) w w' [Row k_Tomb 100 v_43 l_44]) k ?_ ?_
 · exact ⟨(.slice none 0 0), ([]), 0, H, t.keep _ ⟨rfl, rfl, rfl, rfl, rfl, tv⟩, s.pick [0]⟩
 · rintro k_56 a W_46 ⟨v_43, l_44, i_45, H, t, s⟩
   cases k_56 with
   | zero => rw [tomb_valid.l0] at H; cases H
   | succ k_56 =>
    rw [tomb_valid.l0] at H; refine ws (.inl rfl) ?_; refine r_t t tv rfl (x_cmpI (b := decide (i_45 < (a0.length : Int))) t rfl rfl rfl) fun a t => wn ?_; refine wS ?_
    by_cases c141 : (decide (i_45 < (a0.length : Int))) = true
    · rw [if_pos c141] at H; refine wT t rfl c141 ?_; refine wq_skip ?_; refine tn ?_; obtain ⟨J_60, hJ_60, H⟩ := Jn.elim H; refine wc (fun a w' => ∃ (v_57 : Value), ∃ (l_58 : (List Tomb)), J_60 l_58 = some r ∧ ST [] Tryz.f76.ntmps a [(2, (.slice none 0 0)), (3, v_57), (6, va0), (7, .int .i64 (a0.length : Int)), (8, .int .i64 i_45)] ∧ SH (fun _ => False) w w' [Row k_Tomb 100 v_57 l_58]) ?_ ?_
      · rintro a W_59 ⟨v_57, l_58, H, t, s⟩; subst hJ_60
        dsimp only at H
        refine wR (.inl rfl) ?_; refine r_t t tv rfl (x_arI (r := w64 (i_45 + 1)) t rfl rfl rfl) fun a t => tm t rfl rfl fun a t => wn ?_; exact ⟨k_56, Nat.lt_succ_self _, v_57, l_58, (w64 (i_45 + 1)), H, t.keep _ ⟨rfl, rfl, rfl, rfl, rfl, tv⟩, s.pick [0]⟩
      · refine wq_block ?_; refine ws (.inl rfl) ?_; obtain ⟨x154, hx154, H⟩ := bsI H; refine r_t t tv rfl (xi t Tryz.underlying26 el_100 rfl rfl hra0 hx154) fun a t => r_t t tv rfl (x_loadEsF (j := 0) (cs := [.string x154.Begin, .string x154.End, .int .u64 x154.Seq]) (ps := [.string x154.Begin, .string x154.End, .int .u64 x154.Seq]) t ag_100 rfl hra0 (Same.sh0 hsa0 s) hx154 rfl (fun _ h => h) rfl) fun a t => r_alloc t s tv rfl zr_100 ?_; intro g155 a w156 hgg155 s t; refine r_storeBs (i := 0) (cs' := [.string x154.Begin, .string x154.End, .int .u64 x154.Seq]) (vs := [.string x154.Begin, .string x154.End, .int .u64 x154.Seq]) t s tv ag_100 rfl rfl rfl rfl rfl rfl ?_; intro a w157 s t; refine wn ?_; refine ws (.inl rfl) ?_; refine r_t t tv rfl (x_loadBs (i := 0) (ps := [.string x154.Begin, .string x154.End, .int .u64 x154.Seq]) t s ag_100 rfl rfl rfl) ?_; intro a t; obtain ⟨r158, hr158, H⟩ := bsI H; refine r_callD t tv rfl fn_95 rfl (tomb_Valid.calls _ x154 r158 hr158) ?_; rintro e w159 ⟨rfl, hc⟩; replace s := s.call0 hc; clear hc; refine ⟨_, rfl, fun a t => ?_⟩; refine wn ?_
        by_cases c160 : r158 = true
        · rw [if_pos c160] at H; refine wT t rfl c160 ?_; refine wR (.inl rfl) ?_; refine tm t rfl rfl fun a t => r_t t tv rfl (x_loadBs (i := 0) (ps := [.string x154.Begin, .string x154.End, .int .u64 x154.Seq]) t s ag_100 rfl rfl rfl) fun a t => r_buildSlice (vs := [.agg #[.string x154.Begin, .string x154.End, .int .u64 x154.Seq]]) (cs := [.string x154.Begin, .string x154.End, .int .u64 x154.Seq]) t s tv rfl Tryz.underlying26 el_100 rfl rfl (by simp [Value.cells]) rfl rfl ?_; intro g161 a w162 hgg161 s t; replace s := s.pick [2, 0, 0]; obtain ⟨l163, hl163, H⟩ := bsI H; refine r_append1 (xx := x154) (C := []) (M := [Box g155 [.string x154.Begin, .string x154.End, .int .u64 x154.Seq] 100]) t s tv rfl Tryz.underlying26 el_100 (by decide) (by decide) (by decide) rfl rfl (fun _ _ _ => rfl) hl163 ?_; intro v164 a w165 s t; refine ta t rfl rfl fun a t => wpL_nil ?_; refine block_normal ?_; refine tn ?_; exact ⟨v164, l163, H, t.keep _ ⟨rfl, rfl, rfl, rfl, rfl, tv⟩, s.pick [0]⟩
        · rw [if_neg c160] at H; replace c160 := bfI c160; refine wF t rfl c160 ?_; refine wq_skip ?_; refine block_normal ?_; refine tn ?_; exact ⟨v_43, l_44, H, t.keep _ ⟨rfl, rfl, rfl, rfl, rfl, tv⟩, s.pick [1]⟩
    · rw [if_neg c141] at H; replace c141 := bfI c141; refine wF t rfl c141 ?_; refine wq_exit ?_; refine te ?_; refine te ?_; refine block_hit ?_; refine tn ?_; refine ws (.inl rfl) ?_; refine tm t rfl rfl fun a t => ta t rfl rfl fun a t => wn ?_; refine wq_ret ?_; obtain rfl := oi H; exact ret1 t rfl rfl ⟨v_43, rfl, s.pick [0]⟩
end Go.Proofs.YtbaemhkfmddakaaGreat.Mo
