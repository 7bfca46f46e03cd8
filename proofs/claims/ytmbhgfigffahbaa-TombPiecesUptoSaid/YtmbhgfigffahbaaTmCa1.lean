/- Printed by gen.py: contracts. -/
import Derived.Test.YtmbhgfigffahbaaTmCa0
set_option linter.unusedVariables false
set_option linter.unusedSimpArgs false
set_option maxRecDepth 100000
namespace Go.Proofs.Ytmbhgfigffahbaa.Mo
open Go Go.Proofs.Ytmbhgfigffahbaa.Sy
open Go.Proofs
set_option maxHeartbeats 4000000 in
set_option maxRecDepth 100000 in
theorem slices_partitionOrdered_string.calls (k : Nat) (w : World) (GG : Nat → Prop) (va0 : Value) (a0 : (List ByteArray)) (a1 : Int) (a2 : Int) (a3 : Int) (hsep : Sep GG w [Row Kd.str 9 va0 a0]) (r : (Int × Bool × (List ByteArray))) (h : slices_partitionOrdered_string k a0 a1 a2 a3 = some r) :
    Calls Try.prog 42 ([va0, .int .i64 a1, .int .i64 a2, .int .i64 a3] : List Value).toArray w fun e w' => e = .returned (.tuple #[.int .i64 r.1, .bool r.2.1]) ∧ SH GG w w' [Row Kd.str 9 va0 r.2.2] := by
 have H := h
 clear h
 unfold slices_partitionOrdered_string at H
 refine calls_enter Try.func42 rfl rfl ?_
 intro a hst
 have hsh := SH.start hsep
 refine wq_seq ?_
 refine wq_region_lit (.inl rfl) ?_
 refine r_t hst trivial rfl (x_assign hst rfl) ?_; intro a hst
 refine r_t hst trivial rfl (x_assign hst rfl) ?_; intro a hst
 refine wpL_nil ?_
 refine then_normal ?_
 refine wq_seq ?_
 have hw0_0 := hsh.row 0 rfl
 refine wq_region_t (.inl rfl) (.fin [(3, 0), (3, 1), (3, 2), (3, 3), (3, 4), (3, 5), (3, 6), (0, 7), (3, 8), (3, 9), (3, 10), (0, 11), (3, 12), (2, 13), (0, 14), (2, 15)]) (fun w' => SH GG w w' [Row Kd.str 9 va0 a0]) (fun w' => SH GG w w' [Row Kd.str 9 va0 a0]) (shut_sh _ _ _) (shut_sh _ _ _) (sub_sh [0] rfl) hsh.drew fo (by kernel_rfl) ?_
 refine t_fin ?_
 refine m_p hst trivial rfl (fun _ => x_move hst rfl) ?_; intro a hst
 refine m_p hst trivial rfl (fun _ => x_move hst rfl) ?_; intro a hst
 refine m_p hst trivial rfl (fun _ => x_move hst rfl) ?_; intro a hst
 refine m_p hst trivial rfl (fun _ => x_move hst rfl) ?_; intro a hst
 refine m_p hst trivial rfl (fun _ => x_move hst rfl) ?_; intro a hst
 refine m_p hst trivial rfl (fun _ => x_move hst rfl) ?_; intro a hst
 obtain ⟨x1, hx1, H⟩ := Option.bind_eq_some_iff.1 H
 refine m_p hst trivial rfl (fun _ => x_indexAddr hst Try.underlying57 el_9 rfl rfl hw0_0 hx1) ?_; intro a hst
 refine m_t hst trivial rfl (fun _ hsh => x_loadEF (j := 0) (cs := [.string x1]) hst sc_9 rfl (hsh.row 0 rfl) (Same.refl _ _) hx1 rfl (fun _ h => h) rfl) ?_; intro a hst
 refine m_p hst trivial rfl (fun _ => x_move hst rfl) ?_; intro a hst
 refine m_p hst trivial rfl (fun _ => x_move hst rfl) ?_; intro a hst
 obtain ⟨x2, hx2, H⟩ := Option.bind_eq_some_iff.1 H
 refine m_p hst trivial rfl (fun _ => x_indexAddr hst Try.underlying57 el_9 rfl rfl hw0_0 hx2) ?_; intro a hst
 refine m_t hst trivial rfl (fun _ hsh => x_loadEF (j := 0) (cs := [.string x2]) hst sc_9 rfl (hsh.row 0 rfl) (Same.refl _ _) hx2 rfl (fun _ h => h) rfl) ?_; intro a hst
 obtain ⟨x3, hx3, H⟩ := Option.bind_eq_some_iff.1 H
 refine m_p hst trivial rfl (fun _ => x_indexAddr hst Try.underlying57 el_9 rfl rfl hw0_0 hx3) ?_; intro a hst
 refine m_loud (.inr rfl) ?_
 intro w4 hsh
 obtain ⟨l5, hl5, H⟩ := Option.bind_eq_some_iff.1 H
 refine r_storeE (i := 0) (off := 0) (new := x1) (cs' := [.string x1]) hst hsh trivial sc_9 rfl rfl rfl hx3 rfl (Nat.le_of_ble_eq_true rfl) rfl (fun _ _ _ h => by rw [h]; rfl) (fun _ _ => rfl) ?_; intro a w6 hsh hst
 rw [← upd_some hl5] at hsh
 refine m_turn hsh ?_
 obtain ⟨x7, hx7, H⟩ := Option.bind_eq_some_iff.1 H
 refine m_t hst trivial rfl (fun _ hsh => x_indexAddr hst Try.underlying57 el_9 rfl rfl (hsh.row 0 rfl) hx7) ?_; intro a hst
 refine m_loud (.inr rfl) ?_
 intro w8 hsh
 obtain ⟨l9, hl9, H⟩ := Option.bind_eq_some_iff.1 H
 refine r_storeE (i := 0) (off := 0) (new := x2) (cs' := [.string x2]) hst hsh trivial sc_9 rfl rfl rfl hx7 rfl (Nat.le_of_ble_eq_true rfl) rfl (fun _ _ _ h => by rw [h]; rfl) (fun _ _ => rfl) ?_; intro a w10 hsh hst
 rw [← upd_some hl9] at hsh
 refine m_turn hsh ?_
 refine m_nil ?_
 intro w11 hsh
 refine qn_normal ?_
 refine then_normal ?_
 refine wq_seq ?_
 refine wq_region_lit (.inl rfl) ?_
 refine r_t hst trivial rfl (x_move hst rfl) ?_; intro a hst
 refine r_t hst trivial rfl (x_arI (r := w64 (a1 + 1)) hst rfl rfl rfl) ?_; intro a hst
 refine r_t hst trivial rfl (x_move hst rfl) ?_; intro a hst
 refine r_t hst trivial rfl (x_arI (r := w64 (a2 - 1)) hst rfl rfl rfl) ?_; intro a hst
 refine r_t hst trivial rfl (x_assign hst rfl) ?_; intro a hst
 refine r_t hst trivial rfl (x_assign hst rfl) ?_; intro a hst
 refine wpL_nil ?_
 refine then_normal ?_
 refine wq_seq ?_
 refine wq_block ?_
 refine wq_loop_fuel (fun k_32 a w' => ∃ (i_20 : Int), ∃ (i_21 : Int), slices_partitionOrdered_string.l0 a1 l9 k_32 i_20 i_21 = some r ∧ ST [] Try.f42.ntmps a [(0, va0), (1, .int .i64 a1), (8, .int .i64 0), (9, .bool false), (10, .int .i64 i_20), (11, .int .i64 i_21)] ∧ SH GG w w' [Row Kd.str 9 va0 l9]) k ?_ ?_
 · exact ⟨(w64 (a1 + 1)), (w64 (a2 - 1)), H, hst.keep _ ⟨rfl, rfl, rfl, rfl, rfl, rfl, trivial⟩, hsh.pick [0]⟩
 · rintro k_32 a W_22 ⟨i_20, i_21, H, hst, hsh⟩
   cases k_32 with
   | zero => rw [slices_partitionOrdered_string.l0] at H; cases H
   | succ k_32 =>
    rw [slices_partitionOrdered_string.l0] at H
    refine wq_seq ?_
    refine wq_seq ?_
    refine wq_region_q (.inl rfl) (fun w' => SH GG w w' [Row Kd.str 9 va0 l9]) (shut_sh _ _ _) hsh.drew fo (by kernel_rfl) ?_
    refine q_t hst trivial rfl (fun _ hsh => x_move hst rfl) ?_; intro a hst
    refine q_t hst trivial rfl (fun _ hsh => x_move hst rfl) ?_; intro a hst
    refine q_t hst trivial rfl (fun _ hsh => x_cmpI (b := decide (i_20 ≤ i_21)) hst rfl rfl rfl) ?_; intro a hst
    refine q_t hst trivial rfl (fun _ hsh => x_move hst rfl) ?_; intro a hst
    obtain ⟨J_37, hJ_37, H⟩ := Jn.elim H
    refine q_join 14 (fun a => ∃ (b_36 : Bool), J_37 b_36 = some r ∧ ST [] Try.f42.ntmps a [(0, va0), (1, .int .i64 a1), (8, .int .i64 0), (9, .bool false), (10, .int .i64 i_20), (11, .int .i64 i_21), (43, .bool b_36)]) ?_ ?_
    · rintro a ⟨b_36, H, hst⟩
      subst hJ_37
      dsimp only at H
      refine q_nil ?_
      intro w94 hsh
      refine then_normal ?_
      by_cases c95 : b_36 = true
      · rw [if_pos c95] at H
        refine wq_condT hst rfl c95 ?_
        refine wq_skip ?_
        refine then_normal ?_
        refine wq_block ?_
        refine wq_region_lit (.inl rfl) ?_
        refine r_t hst trivial rfl (x_move hst rfl) ?_; intro a hst
        refine r_t hst trivial rfl (x_arI (r := w64 (i_20 + 1)) hst rfl rfl rfl) ?_; intro a hst
        refine r_t hst trivial rfl (x_assign hst rfl) ?_; intro a hst
        refine wpL_nil ?_
        refine block_normal ?_
        refine then_normal ?_
        exact ⟨k_32, Nat.lt_succ_self _, (w64 (i_20 + 1)), i_21, H, hst.keep _ ⟨rfl, rfl, rfl, rfl, rfl, rfl, trivial⟩, hsh.pick [0]⟩
      · rw [if_neg c95] at H
        replace c95 := Bool.eq_false_iff.2 c95
        refine wq_condF hst rfl c95 ?_
        refine wq_exit ?_
        refine then_exit ?_
        refine then_exit ?_
        refine block_hit ?_
        refine then_normal ?_
        obtain ⟨J_67, hJ_67, H⟩ := Jn.elim H
        refine wq_cut (fun a w' => ∃ (i_65 : Int), J_67 i_65 = some r ∧ ST [] Try.f42.ntmps a [(0, va0), (1, .int .i64 a1), (8, .int .i64 0), (9, .bool false), (10, .int .i64 i_20), (11, .int .i64 i_65)] ∧ SH GG w w' [Row Kd.str 9 va0 l9]) ?_ ?_
        · rintro a W_66 ⟨i_65, H, hst, hsh⟩
          subst hJ_67
          dsimp only at H
          refine wq_seq ?_
          refine wq_seq ?_
          refine wq_region_lit (.inl rfl) ?_
          refine r_t hst trivial rfl (x_move hst rfl) ?_; intro a hst
          refine r_t hst trivial rfl (x_move hst rfl) ?_; intro a hst
          refine r_t hst trivial rfl (x_cmpI (b := decide (i_65 < i_20)) hst rfl rfl rfl) ?_; intro a hst
          refine wpL_nil ?_
          refine then_normal ?_
          by_cases c174 : (decide (i_65 < i_20)) = true
          · rw [if_pos c174] at H
            refine wq_condT hst rfl c174 ?_
            refine wq_seq ?_
            have hw174_0 := hsh.row 0 rfl
            refine wq_region_t (.inl rfl) (.fin [(3, 0), (3, 1), (3, 2), (3, 3), (3, 4), (3, 5), (3, 6), (0, 7), (3, 8), (3, 9), (3, 10), (0, 11), (3, 12), (2, 13), (0, 14), (2, 15)]) (fun w' => SH GG w w' [Row Kd.str 9 va0 l9]) (fun w' => SH GG w w' [Row Kd.str 9 va0 l9]) (shut_sh _ _ _) (shut_sh _ _ _) (sub_sh [0] rfl) hsh.drew fo (by kernel_rfl) ?_
            refine t_fin ?_
            refine m_p hst trivial rfl (fun _ => x_move hst rfl) ?_; intro a hst
            refine m_p hst trivial rfl (fun _ => x_move hst rfl) ?_; intro a hst
            refine m_p hst trivial rfl (fun _ => x_move hst rfl) ?_; intro a hst
            refine m_p hst trivial rfl (fun _ => x_move hst rfl) ?_; intro a hst
            refine m_p hst trivial rfl (fun _ => x_move hst rfl) ?_; intro a hst
            refine m_p hst trivial rfl (fun _ => x_move hst rfl) ?_; intro a hst
            obtain ⟨x175, hx175, H⟩ := Option.bind_eq_some_iff.1 H
            refine m_p hst trivial rfl (fun _ => x_indexAddr hst Try.underlying57 el_9 rfl rfl hw174_0 hx175) ?_; intro a hst
            refine m_t hst trivial rfl (fun _ hsh => x_loadEF (j := 0) (cs := [.string x175]) hst sc_9 rfl (hsh.row 0 rfl) (Same.refl _ _) hx175 rfl (fun _ h => h) rfl) ?_; intro a hst
            refine m_p hst trivial rfl (fun _ => x_move hst rfl) ?_; intro a hst
            refine m_p hst trivial rfl (fun _ => x_move hst rfl) ?_; intro a hst
            obtain ⟨x176, hx176, H⟩ := Option.bind_eq_some_iff.1 H
            refine m_p hst trivial rfl (fun _ => x_indexAddr hst Try.underlying57 el_9 rfl rfl hw174_0 hx176) ?_; intro a hst
            refine m_t hst trivial rfl (fun _ hsh => x_loadEF (j := 0) (cs := [.string x176]) hst sc_9 rfl (hsh.row 0 rfl) (Same.refl _ _) hx176 rfl (fun _ h => h) rfl) ?_; intro a hst
            obtain ⟨x177, hx177, H⟩ := Option.bind_eq_some_iff.1 H
            refine m_p hst trivial rfl (fun _ => x_indexAddr hst Try.underlying57 el_9 rfl rfl hw174_0 hx177) ?_; intro a hst
            refine m_loud (.inr rfl) ?_
            intro w178 hsh
            obtain ⟨l179, hl179, H⟩ := Option.bind_eq_some_iff.1 H
            refine r_storeE (i := 0) (off := 0) (new := x175) (cs' := [.string x175]) hst hsh trivial sc_9 rfl rfl rfl hx177 rfl (Nat.le_of_ble_eq_true rfl) rfl (fun _ _ _ h => by rw [h]; rfl) (fun _ _ => rfl) ?_; intro a w180 hsh hst
            rw [← upd_some hl179] at hsh
            refine m_turn hsh ?_
            obtain ⟨x181, hx181, H⟩ := Option.bind_eq_some_iff.1 H
            refine m_t hst trivial rfl (fun _ hsh => x_indexAddr hst Try.underlying57 el_9 rfl rfl (hsh.row 0 rfl) hx181) ?_; intro a hst
            refine m_loud (.inr rfl) ?_
            intro w182 hsh
            obtain ⟨l183, hl183, H⟩ := Option.bind_eq_some_iff.1 H
            refine r_storeE (i := 0) (off := 0) (new := x176) (cs' := [.string x176]) hst hsh trivial sc_9 rfl rfl rfl hx181 rfl (Nat.le_of_ble_eq_true rfl) rfl (fun _ _ _ h => by rw [h]; rfl) (fun _ _ => rfl) ?_; intro a w184 hsh hst
            rw [← upd_some hl183] at hsh
            refine m_turn hsh ?_
            refine m_nil ?_
            intro w185 hsh
            refine qn_normal ?_
            refine then_normal ?_
            refine wq_seq ?_
            refine wq_region_lit (.inl rfl) ?_
            refine r_t hst trivial rfl (x_move hst rfl) ?_; intro a hst
            refine r_t hst trivial rfl (x_assign hst rfl) ?_; intro a hst
            refine r_t hst trivial rfl (x_assign hst rfl) ?_; intro a hst
            refine wpL_nil ?_
            refine then_normal ?_
            refine wq_ret ?_
            refine then_ret ?_
            obtain rfl := Option.some.inj H
            exact ret2 hst rfl rfl rfl ⟨rfl, hsh.pick [0]⟩
          · rw [if_neg c174] at H
            replace c174 := Bool.eq_false_iff.2 c174
            refine wq_condF hst rfl c174 ?_
            refine wq_skip ?_
            refine then_normal ?_
            refine wq_seq ?_
            have hw185_0 := hsh.row 0 rfl
            refine wq_region_t (.inl rfl) (.fin [(3, 0), (3, 1), (3, 2), (3, 3), (3, 4), (3, 5), (3, 6), (0, 7), (3, 8), (3, 9), (3, 10), (0, 11), (3, 12), (2, 13), (0, 14), (2, 15)]) (fun w' => SH GG w w' [Row Kd.str 9 va0 l9]) (fun w' => SH GG w w' [Row Kd.str 9 va0 l9]) (shut_sh _ _ _) (shut_sh _ _ _) (sub_sh [0] rfl) hsh.drew fo (by kernel_rfl) ?_
            refine t_fin ?_
            refine m_p hst trivial rfl (fun _ => x_move hst rfl) ?_; intro a hst
            refine m_p hst trivial rfl (fun _ => x_move hst rfl) ?_; intro a hst
            refine m_p hst trivial rfl (fun _ => x_move hst rfl) ?_; intro a hst
            refine m_p hst trivial rfl (fun _ => x_move hst rfl) ?_; intro a hst
            refine m_p hst trivial rfl (fun _ => x_move hst rfl) ?_; intro a hst
            refine m_p hst trivial rfl (fun _ => x_move hst rfl) ?_; intro a hst
            obtain ⟨x186, hx186, H⟩ := Option.bind_eq_some_iff.1 H
            refine m_p hst trivial rfl (fun _ => x_indexAddr hst Try.underlying57 el_9 rfl rfl hw185_0 hx186) ?_; intro a hst
            refine m_t hst trivial rfl (fun _ hsh => x_loadEF (j := 0) (cs := [.string x186]) hst sc_9 rfl (hsh.row 0 rfl) (Same.refl _ _) hx186 rfl (fun _ h => h) rfl) ?_; intro a hst
            refine m_p hst trivial rfl (fun _ => x_move hst rfl) ?_; intro a hst
            refine m_p hst trivial rfl (fun _ => x_move hst rfl) ?_; intro a hst
            obtain ⟨x187, hx187, H⟩ := Option.bind_eq_some_iff.1 H
            refine m_p hst trivial rfl (fun _ => x_indexAddr hst Try.underlying57 el_9 rfl rfl hw185_0 hx187) ?_; intro a hst
            refine m_t hst trivial rfl (fun _ hsh => x_loadEF (j := 0) (cs := [.string x187]) hst sc_9 rfl (hsh.row 0 rfl) (Same.refl _ _) hx187 rfl (fun _ h => h) rfl) ?_; intro a hst
            obtain ⟨x188, hx188, H⟩ := Option.bind_eq_some_iff.1 H
            refine m_p hst trivial rfl (fun _ => x_indexAddr hst Try.underlying57 el_9 rfl rfl hw185_0 hx188) ?_; intro a hst
            refine m_loud (.inr rfl) ?_
            intro w189 hsh
            obtain ⟨l190, hl190, H⟩ := Option.bind_eq_some_iff.1 H
            refine r_storeE (i := 0) (off := 0) (new := x186) (cs' := [.string x186]) hst hsh trivial sc_9 rfl rfl rfl hx188 rfl (Nat.le_of_ble_eq_true rfl) rfl (fun _ _ _ h => by rw [h]; rfl) (fun _ _ => rfl) ?_; intro a w191 hsh hst
            rw [← upd_some hl190] at hsh
            refine m_turn hsh ?_
            obtain ⟨x192, hx192, H⟩ := Option.bind_eq_some_iff.1 H
            refine m_t hst trivial rfl (fun _ hsh => x_indexAddr hst Try.underlying57 el_9 rfl rfl (hsh.row 0 rfl) hx192) ?_; intro a hst
            refine m_loud (.inr rfl) ?_
            intro w193 hsh
            obtain ⟨l194, hl194, H⟩ := Option.bind_eq_some_iff.1 H
            refine r_storeE (i := 0) (off := 0) (new := x187) (cs' := [.string x187]) hst hsh trivial sc_9 rfl rfl rfl hx192 rfl (Nat.le_of_ble_eq_true rfl) rfl (fun _ _ _ h => by rw [h]; rfl) (fun _ _ => rfl) ?_; intro a w195 hsh hst
            rw [← upd_some hl194] at hsh
            refine m_turn hsh ?_
            refine m_nil ?_
            intro w196 hsh
            refine qn_normal ?_
            refine then_normal ?_
            refine wq_seq ?_
            refine wq_region_lit (.inl rfl) ?_
            refine r_t hst trivial rfl (x_move hst rfl) ?_; intro a hst
            refine r_t hst trivial rfl (x_arI (r := w64 (i_20 + 1)) hst rfl rfl rfl) ?_; intro a hst
            refine r_t hst trivial rfl (x_assign hst rfl) ?_; intro a hst
            refine wpL_nil ?_
            refine then_normal ?_
            refine wq_seq ?_
            refine wq_region_lit (.inl rfl) ?_
            refine r_t hst trivial rfl (x_move hst rfl) ?_; intro a hst
            refine r_t hst trivial rfl (x_arI (r := w64 (i_65 - 1)) hst rfl rfl rfl) ?_; intro a hst
            refine r_t hst trivial rfl (x_assign hst rfl) ?_; intro a hst
            refine wpL_nil ?_
            refine then_normal ?_
            obtain ⟨J_415, hJ_415, H⟩ := Jn.elim H
            refine wq_cut (fun a w' => ∃ (l_412 : (List ByteArray)), ∃ (i_413 : Int), J_415 l_412 i_413 = some r ∧ ST [] Try.f42.ntmps a [(0, va0), (1, .int .i64 a1), (8, .int .i64 0), (9, .bool false), (11, .int .i64 i_413)] ∧ SH GG w w' [Row Kd.str 9 va0 l_412]) ?_ ?_
            · rintro a W_414 ⟨l_412, i_413, H, hst, hsh⟩
              subst hJ_415
              dsimp only at H
              refine wq_seq ?_
              have hw1027_0 := hsh.row 0 rfl
              refine wq_region_t (.inl rfl) (.fin [(3, 0), (3, 1), (3, 2), (3, 3), (3, 4), (3, 5), (3, 6), (0, 7), (3, 8), (3, 9), (3, 10), (0, 11), (3, 12), (2, 13), (0, 14), (2, 15)]) (fun w' => SH GG w w' [Row Kd.str 9 va0 l_412]) (fun w' => SH GG w w' [Row Kd.str 9 va0 l_412]) (shut_sh _ _ _) (shut_sh _ _ _) (sub_sh [0] rfl) hsh.drew fo (by kernel_rfl) ?_
              refine t_fin ?_
              refine m_p hst trivial rfl (fun _ => x_move hst rfl) ?_; intro a hst
              refine m_p hst trivial rfl (fun _ => x_move hst rfl) ?_; intro a hst
              refine m_p hst trivial rfl (fun _ => x_move hst rfl) ?_; intro a hst
              refine m_p hst trivial rfl (fun _ => x_move hst rfl) ?_; intro a hst
              refine m_p hst trivial rfl (fun _ => x_move hst rfl) ?_; intro a hst
              refine m_p hst trivial rfl (fun _ => x_move hst rfl) ?_; intro a hst
              obtain ⟨x1028, hx1028, H⟩ := Option.bind_eq_some_iff.1 H
              refine m_p hst trivial rfl (fun _ => x_indexAddr hst Try.underlying57 el_9 rfl rfl hw1027_0 hx1028) ?_; intro a hst
              refine m_t hst trivial rfl (fun _ hsh => x_loadEF (j := 0) (cs := [.string x1028]) hst sc_9 rfl (hsh.row 0 rfl) (Same.refl _ _) hx1028 rfl (fun _ h => h) rfl) ?_; intro a hst
              refine m_p hst trivial rfl (fun _ => x_move hst rfl) ?_; intro a hst
              refine m_p hst trivial rfl (fun _ => x_move hst rfl) ?_; intro a hst
              obtain ⟨x1029, hx1029, H⟩ := Option.bind_eq_some_iff.1 H
              refine m_p hst trivial rfl (fun _ => x_indexAddr hst Try.underlying57 el_9 rfl rfl hw1027_0 hx1029) ?_; intro a hst
              refine m_t hst trivial rfl (fun _ hsh => x_loadEF (j := 0) (cs := [.string x1029]) hst sc_9 rfl (hsh.row 0 rfl) (Same.refl _ _) hx1029 rfl (fun _ h => h) rfl) ?_; intro a hst
              obtain ⟨x1030, hx1030, H⟩ := Option.bind_eq_some_iff.1 H
              refine m_p hst trivial rfl (fun _ => x_indexAddr hst Try.underlying57 el_9 rfl rfl hw1027_0 hx1030) ?_; intro a hst
              refine m_loud (.inr rfl) ?_
              intro w1031 hsh
              obtain ⟨l1032, hl1032, H⟩ := Option.bind_eq_some_iff.1 H
              refine r_storeE (i := 0) (off := 0) (new := x1028) (cs' := [.string x1028]) hst hsh trivial sc_9 rfl rfl rfl hx1030 rfl (Nat.le_of_ble_eq_true rfl) rfl (fun _ _ _ h => by rw [h]; rfl) (fun _ _ => rfl) ?_; intro a w1033 hsh hst
              rw [← upd_some hl1032] at hsh
              refine m_turn hsh ?_
              obtain ⟨x1034, hx1034, H⟩ := Option.bind_eq_some_iff.1 H
              refine m_t hst trivial rfl (fun _ hsh => x_indexAddr hst Try.underlying57 el_9 rfl rfl (hsh.row 0 rfl) hx1034) ?_; intro a hst
              refine m_loud (.inr rfl) ?_
              intro w1035 hsh
              obtain ⟨l1036, hl1036, H⟩ := Option.bind_eq_some_iff.1 H
              refine r_storeE (i := 0) (off := 0) (new := x1029) (cs' := [.string x1029]) hst hsh trivial sc_9 rfl rfl rfl hx1034 rfl (Nat.le_of_ble_eq_true rfl) rfl (fun _ _ _ h => by rw [h]; rfl) (fun _ _ => rfl) ?_; intro a w1037 hsh hst
              rw [← upd_some hl1036] at hsh
              refine m_turn hsh ?_
              refine m_nil ?_
              intro w1038 hsh
              refine qn_normal ?_
              refine then_normal ?_
              refine wq_seq ?_
              refine wq_region_lit (.inl rfl) ?_
              refine r_t hst trivial rfl (x_move hst rfl) ?_; intro a hst
              refine r_t hst trivial rfl (x_assign hst rfl) ?_; intro a hst
              refine r_t hst trivial rfl (x_assign hst rfl) ?_; intro a hst
              refine wpL_nil ?_
              refine then_normal ?_
              refine wq_ret ?_
              obtain rfl := Option.some.inj H
              exact ret2 hst rfl rfl rfl ⟨rfl, hsh.pick [0]⟩
            · refine wq_block ?_
              refine wq_loop_fuel (fun k_649 a w' => ∃ (l_531 : (List ByteArray)), ∃ (i_532 : Int), ∃ (i_533 : Int), slices_partitionOrdered_string.l1 a1 J_415 k_649 l_531 i_532 i_533 = some r ∧ ST [] Try.f42.ntmps a [(0, va0), (1, .int .i64 a1), (8, .int .i64 0), (9, .bool false), (10, .int .i64 i_532), (11, .int .i64 i_533)] ∧ SH GG w w' [Row Kd.str 9 va0 l_531]) k_32 ?_ ?_
              · exact ⟨l194, (w64 (i_20 + 1)), (w64 (i_65 - 1)), H, hst.keep _ ⟨rfl, rfl, rfl, rfl, rfl, rfl, trivial⟩, hsh.pick [0]⟩
              · rintro k_649 a W_534 ⟨l_531, i_532, i_533, H, hst, hsh⟩
                cases k_649 with
                | zero => rw [slices_partitionOrdered_string.l1] at H; cases H
                | succ k_649 =>
                 rw [slices_partitionOrdered_string.l1] at H
                 refine wq_block ?_
                 obtain ⟨J_678, hJ_678, H⟩ := Jn.elim H
                 refine wq_cut (fun a w' => ∃ (i_676 : Int), J_678 i_676 = some r ∧ ST [] Try.f42.ntmps a [(0, va0), (1, .int .i64 a1), (8, .int .i64 0), (9, .bool false), (10, .int .i64 i_676), (11, .int .i64 i_533)] ∧ SH GG w w' [Row Kd.str 9 va0 l_531]) ?_ ?_
                 · rintro a W_677 ⟨i_676, H, hst, hsh⟩
                   subst hJ_678
                   dsimp only at H
                   obtain ⟨J_707, hJ_707, H⟩ := Jn.elim H
                   refine wq_cut (fun a w' => ∃ (i_705 : Int), J_707 i_705 = some r ∧ ST [] Try.f42.ntmps a [(0, va0), (1, .int .i64 a1), (8, .int .i64 0), (9, .bool false), (10, .int .i64 i_676), (11, .int .i64 i_705)] ∧ SH GG w w' [Row Kd.str 9 va0 l_531]) ?_ ?_
                   · rintro a W_706 ⟨i_705, H, hst, hsh⟩
                     subst hJ_707
                     dsimp only at H
                     refine wq_seq ?_
                     refine wq_seq ?_
                     refine wq_region_lit (.inl rfl) ?_
                     refine r_t hst trivial rfl (x_move hst rfl) ?_; intro a hst
                     refine r_t hst trivial rfl (x_move hst rfl) ?_; intro a hst
                     refine r_t hst trivial rfl (x_cmpI (b := decide (i_705 < i_676)) hst rfl rfl rfl) ?_; intro a hst
                     refine wpL_nil ?_
                     refine then_normal ?_
                     by_cases c1726 : (decide (i_705 < i_676)) = true
                     · rw [if_pos c1726] at H
                       refine wq_condT hst rfl c1726 ?_
                       refine wq_exit ?_
                       refine then_exit ?_
                       refine block_miss rfl ?_
                       refine then_exit ?_
                       refine block_hit ?_
                       refine then_normal ?_
                       exact ⟨l_531, i_705, H, hst.keep _ ⟨rfl, rfl, rfl, rfl, rfl, trivial⟩, hsh.pick [0]⟩
                     · rw [if_neg c1726] at H
                       replace c1726 := Bool.eq_false_iff.2 c1726
                       refine wq_condF hst rfl c1726 ?_
                       refine wq_skip ?_
                       refine then_normal ?_
                       refine wq_seq ?_
                       have hw1726_0 := hsh.row 0 rfl
                       refine wq_region_t (.inl rfl) (.fin [(3, 0), (3, 1), (3, 2), (3, 3), (3, 4), (3, 5), (3, 6), (0, 7), (3, 8), (3, 9), (3, 10), (0, 11), (3, 12), (2, 13), (0, 14), (2, 15)]) (fun w' => SH GG w w' [Row Kd.str 9 va0 l_531]) (fun w' => SH GG w w' [Row Kd.str 9 va0 l_531]) (shut_sh _ _ _) (shut_sh _ _ _) (sub_sh [0] rfl) hsh.drew fo (by kernel_rfl) ?_
                       refine t_fin ?_
                       refine m_p hst trivial rfl (fun _ => x_move hst rfl) ?_; intro a hst
                       refine m_p hst trivial rfl (fun _ => x_move hst rfl) ?_; intro a hst
                       refine m_p hst trivial rfl (fun _ => x_move hst rfl) ?_; intro a hst
                       refine m_p hst trivial rfl (fun _ => x_move hst rfl) ?_; intro a hst
                       refine m_p hst trivial rfl (fun _ => x_move hst rfl) ?_; intro a hst
                       refine m_p hst trivial rfl (fun _ => x_move hst rfl) ?_; intro a hst
                       obtain ⟨x1727, hx1727, H⟩ := Option.bind_eq_some_iff.1 H
                       refine m_p hst trivial rfl (fun _ => x_indexAddr hst Try.underlying57 el_9 rfl rfl hw1726_0 hx1727) ?_; intro a hst
                       refine m_t hst trivial rfl (fun _ hsh => x_loadEF (j := 0) (cs := [.string x1727]) hst sc_9 rfl (hsh.row 0 rfl) (Same.refl _ _) hx1727 rfl (fun _ h => h) rfl) ?_; intro a hst
                       refine m_p hst trivial rfl (fun _ => x_move hst rfl) ?_; intro a hst
                       refine m_p hst trivial rfl (fun _ => x_move hst rfl) ?_; intro a hst
                       obtain ⟨x1728, hx1728, H⟩ := Option.bind_eq_some_iff.1 H
                       refine m_p hst trivial rfl (fun _ => x_indexAddr hst Try.underlying57 el_9 rfl rfl hw1726_0 hx1728) ?_; intro a hst
                       refine m_t hst trivial rfl (fun _ hsh => x_loadEF (j := 0) (cs := [.string x1728]) hst sc_9 rfl (hsh.row 0 rfl) (Same.refl _ _) hx1728 rfl (fun _ h => h) rfl) ?_; intro a hst
                       obtain ⟨x1729, hx1729, H⟩ := Option.bind_eq_some_iff.1 H
                       refine m_p hst trivial rfl (fun _ => x_indexAddr hst Try.underlying57 el_9 rfl rfl hw1726_0 hx1729) ?_; intro a hst
                       refine m_loud (.inr rfl) ?_
                       intro w1730 hsh
                       obtain ⟨l1731, hl1731, H⟩ := Option.bind_eq_some_iff.1 H
                       refine r_storeE (i := 0) (off := 0) (new := x1727) (cs' := [.string x1727]) hst hsh trivial sc_9 rfl rfl rfl hx1729 rfl (Nat.le_of_ble_eq_true rfl) rfl (fun _ _ _ h => by rw [h]; rfl) (fun _ _ => rfl) ?_; intro a w1732 hsh hst
                       rw [← upd_some hl1731] at hsh
                       refine m_turn hsh ?_
                       obtain ⟨x1733, hx1733, H⟩ := Option.bind_eq_some_iff.1 H
                       refine m_t hst trivial rfl (fun _ hsh => x_indexAddr hst Try.underlying57 el_9 rfl rfl (hsh.row 0 rfl) hx1733) ?_; intro a hst
                       refine m_loud (.inr rfl) ?_
                       intro w1734 hsh
                       obtain ⟨l1735, hl1735, H⟩ := Option.bind_eq_some_iff.1 H
                       refine r_storeE (i := 0) (off := 0) (new := x1728) (cs' := [.string x1728]) hst hsh trivial sc_9 rfl rfl rfl hx1733 rfl (Nat.le_of_ble_eq_true rfl) rfl (fun _ _ _ h => by rw [h]; rfl) (fun _ _ => rfl) ?_; intro a w1736 hsh hst
                       rw [← upd_some hl1735] at hsh
                       refine m_turn hsh ?_
                       refine m_nil ?_
                       intro w1737 hsh
                       refine qn_normal ?_
                       refine then_normal ?_
                       refine wq_seq ?_
                       refine wq_region_lit (.inl rfl) ?_
                       refine r_t hst trivial rfl (x_move hst rfl) ?_; intro a hst
                       refine r_t hst trivial rfl (x_arI (r := w64 (i_676 + 1)) hst rfl rfl rfl) ?_; intro a hst
                       refine r_t hst trivial rfl (x_assign hst rfl) ?_; intro a hst
                       refine wpL_nil ?_
                       refine then_normal ?_
                       refine wq_region_lit (.inl rfl) ?_
                       refine r_t hst trivial rfl (x_move hst rfl) ?_; intro a hst
                       refine r_t hst trivial rfl (x_arI (r := w64 (i_705 - 1)) hst rfl rfl rfl) ?_; intro a hst
                       refine r_t hst trivial rfl (x_assign hst rfl) ?_; intro a hst
                       refine wpL_nil ?_
                       refine block_normal ?_
                       refine then_normal ?_
                       exact ⟨k_649, Nat.lt_succ_self _, l1735, (w64 (i_676 + 1)), (w64 (i_705 - 1)), H, hst.keep _ ⟨rfl, rfl, rfl, rfl, rfl, rfl, trivial⟩, hsh.pick [0]⟩
                   · refine wq_block ?_
                     refine wq_loop_fuel (fun k_727 a w' => ∃ (i_717 : Int), slices_partitionOrdered_string.l2 a1 l_531 i_676 J_707 k_727 i_717 = some r ∧ ST [] Try.f42.ntmps a [(0, va0), (1, .int .i64 a1), (8, .int .i64 0), (9, .bool false), (10, .int .i64 i_676), (11, .int .i64 i_717)] ∧ SH GG w w' [Row Kd.str 9 va0 l_531]) k_649 ?_ ?_
                     · exact ⟨i_533, H, hst.keep _ ⟨rfl, rfl, rfl, rfl, rfl, rfl, trivial⟩, hsh.pick [0]⟩
                     · rintro k_727 a W_718 ⟨i_717, H, hst, hsh⟩
                       cases k_727 with
                       | zero => rw [slices_partitionOrdered_string.l2] at H; cases H
                       | succ k_727 =>
                        rw [slices_partitionOrdered_string.l2] at H
                        refine wq_seq ?_
                        refine wq_seq ?_
                        refine wq_region_q (.inl rfl) (fun w' => SH GG w w' [Row Kd.str 9 va0 l_531]) (shut_sh _ _ _) hsh.drew fo (by kernel_rfl) ?_
                        refine q_t hst trivial rfl (fun _ hsh => x_move hst rfl) ?_; intro a hst
                        refine q_t hst trivial rfl (fun _ hsh => x_move hst rfl) ?_; intro a hst
                        refine q_t hst trivial rfl (fun _ hsh => x_cmpI (b := decide (i_676 ≤ i_717)) hst rfl rfl rfl) ?_; intro a hst
                        refine q_t hst trivial rfl (fun _ hsh => x_move hst rfl) ?_; intro a hst
                        obtain ⟨J_732, hJ_732, H⟩ := Jn.elim H
                        refine q_join 15 (fun a => ∃ (b_731 : Bool), J_732 b_731 = some r ∧ ST [] Try.f42.ntmps a [(0, va0), (1, .int .i64 a1), (8, .int .i64 0), (9, .bool false), (10, .int .i64 i_676), (11, .int .i64 i_717), (129, .bool b_731)]) ?_ ?_
                        · rintro a ⟨b_731, H, hst⟩
                          subst hJ_732
                          dsimp only at H
                          refine q_nil ?_
                          intro w1798 hsh
                          refine then_normal ?_
                          by_cases c1799 : b_731 = true
                          · rw [if_pos c1799] at H
                            refine wq_condT hst rfl c1799 ?_
                            refine wq_skip ?_
                            refine then_normal ?_
                            refine wq_block ?_
                            refine wq_region_lit (.inl rfl) ?_
                            refine r_t hst trivial rfl (x_move hst rfl) ?_; intro a hst
                            refine r_t hst trivial rfl (x_arI (r := w64 (i_717 - 1)) hst rfl rfl rfl) ?_; intro a hst
                            refine r_t hst trivial rfl (x_assign hst rfl) ?_; intro a hst
                            refine wpL_nil ?_
                            refine block_normal ?_
                            refine then_normal ?_
                            exact ⟨k_727, Nat.lt_succ_self _, (w64 (i_717 - 1)), H, hst.keep _ ⟨rfl, rfl, rfl, rfl, rfl, rfl, trivial⟩, hsh.pick [0]⟩
                          · rw [if_neg c1799] at H
                            replace c1799 := Bool.eq_false_iff.2 c1799
                            refine wq_condF hst rfl c1799 ?_
                            refine wq_exit ?_
                            refine then_exit ?_
                            refine then_exit ?_
                            refine block_hit ?_
                            refine then_normal ?_
                            exact ⟨i_717, H, hst.keep _ ⟨rfl, rfl, rfl, rfl, rfl, rfl, trivial⟩, hsh.pick [0]⟩
                        · intro hj
                          by_cases c1793 : (decide (i_676 ≤ i_717)) = true
                          · rw [if_pos c1793] at H
                            refine q_t hst (wt_of 118 rfl rfl c1793) rfl (fun _ hsh => x_move hst rfl) ?_; intro a hst
                            refine q_t hst (wt_of 118 rfl rfl c1793) rfl (fun _ hsh => x_move hst rfl) ?_; intro a hst
                            obtain ⟨x1800, hx1800, H⟩ := Option.bind_eq_some_iff.1 H
                            refine q_t hst (wt_of 118 rfl rfl c1793) rfl (fun _ hsh => x_indexAddr hst Try.underlying57 el_9 rfl rfl (hsh.row 0 rfl) hx1800) ?_; intro a hst
                            refine q_t hst (wt_of 118 rfl rfl c1793) rfl (fun _ hsh => x_loadEF (j := 0) (cs := [.string x1800]) hst sc_9 rfl (hsh.row 0 rfl) (Same.refl _ _) hx1800 rfl (fun _ h => h) rfl) ?_; intro a hst
                            refine q_t hst (wt_of 118 rfl rfl c1793) rfl (fun _ hsh => x_move hst rfl) ?_; intro a hst
                            refine q_t hst (wt_of 118 rfl rfl c1793) rfl (fun _ hsh => x_move hst rfl) ?_; intro a hst
                            obtain ⟨x1801, hx1801, H⟩ := Option.bind_eq_some_iff.1 H
                            refine q_t hst (wt_of 118 rfl rfl c1793) rfl (fun _ hsh => x_indexAddr hst Try.underlying57 el_9 rfl rfl (hsh.row 0 rfl) hx1801) ?_; intro a hst
                            refine q_t hst (wt_of 118 rfl rfl c1793) rfl (fun _ hsh => x_loadEF (j := 0) (cs := [.string x1801]) hst sc_9 rfl (hsh.row 0 rfl) (Same.refl _ _) hx1801 rfl (fun _ h => h) rfl) ?_; intro a hst
                            obtain ⟨r1802, hr1802, H⟩ := Option.bind_eq_some_iff.1 H
                            refine q_call hst (wt_of 118 rfl rfl c1793) rfl fn_40 rfl (fun w9 hsh => cmp_Less_string.calls _ x1800 x1801 r1802 hr1802) ?_; intro a hst
                            refine q_t hst (wt_of 118 rfl rfl c1793) rfl (fun _ hsh => x_notB hst rfl) ?_; intro a hst
                            refine q_t hst trivial rfl (fun _ hsh => x_pickT hst rfl c1793 rfl) ?_; intro a hst
                            exact hj _ ⟨(!r1802), H, hst.keep _ ⟨rfl, rfl, rfl, rfl, rfl, rfl, rfl, trivial⟩⟩
                          · rw [if_neg c1793] at H
                            replace c1793 := Bool.eq_false_iff.2 c1793
                            refine q_not hst 118 rfl rfl c1793 rfl ?_; intro a hst
                            refine q_not hst 118 rfl rfl c1793 rfl ?_; intro a hst
                            refine q_not hst 118 rfl rfl c1793 rfl ?_; intro a hst
                            refine q_not hst 118 rfl rfl c1793 rfl ?_; intro a hst
                            refine q_not hst 118 rfl rfl c1793 rfl ?_; intro a hst
                            refine q_not hst 118 rfl rfl c1793 rfl ?_; intro a hst
                            refine q_not hst 118 rfl rfl c1793 rfl ?_; intro a hst
                            refine q_not hst 118 rfl rfl c1793 rfl ?_; intro a hst
                            refine q_not hst 118 rfl rfl c1793 rfl ?_; intro a hst
                            refine q_not hst 118 rfl rfl c1793 rfl ?_; intro a hst
                            refine q_t hst trivial rfl (fun _ hsh => x_pickF hst rfl c1793 rfl) ?_; intro a hst
                            exact hj _ ⟨false, H, hst.keep _ ⟨rfl, rfl, rfl, rfl, rfl, rfl, rfl, trivial⟩⟩
                 · refine wq_block ?_
                   refine wq_loop_fuel (fun k_753 a w' => ∃ (i_743 : Int), slices_partitionOrdered_string.l3 a1 l_531 i_533 J_678 k_753 i_743 = some r ∧ ST [] Try.f42.ntmps a [(0, va0), (1, .int .i64 a1), (8, .int .i64 0), (9, .bool false), (10, .int .i64 i_743), (11, .int .i64 i_533)] ∧ SH GG w w' [Row Kd.str 9 va0 l_531]) k_649 ?_ ?_
                   · exact ⟨i_532, H, hst.keep _ ⟨rfl, rfl, rfl, rfl, rfl, rfl, trivial⟩, hsh.pick [0]⟩
                   · rintro k_753 a W_744 ⟨i_743, H, hst, hsh⟩
                     cases k_753 with
                     | zero => rw [slices_partitionOrdered_string.l3] at H; cases H
                     | succ k_753 =>
                      rw [slices_partitionOrdered_string.l3] at H
                      refine wq_seq ?_
                      refine wq_seq ?_
                      refine wq_region_q (.inl rfl) (fun w' => SH GG w w' [Row Kd.str 9 va0 l_531]) (shut_sh _ _ _) hsh.drew fo (by kernel_rfl) ?_
                      refine q_t hst trivial rfl (fun _ hsh => x_move hst rfl) ?_; intro a hst
                      refine q_t hst trivial rfl (fun _ hsh => x_move hst rfl) ?_; intro a hst
                      refine q_t hst trivial rfl (fun _ hsh => x_cmpI (b := decide (i_743 ≤ i_533)) hst rfl rfl rfl) ?_; intro a hst
                      refine q_t hst trivial rfl (fun _ hsh => x_move hst rfl) ?_; intro a hst
                      obtain ⟨J_758, hJ_758, H⟩ := Jn.elim H
                      refine q_join 14 (fun a => ∃ (b_757 : Bool), J_758 b_757 = some r ∧ ST [] Try.f42.ntmps a [(0, va0), (1, .int .i64 a1), (8, .int .i64 0), (9, .bool false), (10, .int .i64 i_743), (11, .int .i64 i_533), (112, .bool b_757)]) ?_ ?_
                      · rintro a ⟨b_757, H, hst⟩
                        subst hJ_758
                        dsimp only at H
                        refine q_nil ?_
                        intro w1864 hsh
                        refine then_normal ?_
                        by_cases c1865 : b_757 = true
                        · rw [if_pos c1865] at H
                          refine wq_condT hst rfl c1865 ?_
                          refine wq_skip ?_
                          refine then_normal ?_
                          refine wq_block ?_
                          refine wq_region_lit (.inl rfl) ?_
                          refine r_t hst trivial rfl (x_move hst rfl) ?_; intro a hst
                          refine r_t hst trivial rfl (x_arI (r := w64 (i_743 + 1)) hst rfl rfl rfl) ?_; intro a hst
                          refine r_t hst trivial rfl (x_assign hst rfl) ?_; intro a hst
                          refine wpL_nil ?_
                          refine block_normal ?_
                          refine then_normal ?_
                          exact ⟨k_753, Nat.lt_succ_self _, (w64 (i_743 + 1)), H, hst.keep _ ⟨rfl, rfl, rfl, rfl, rfl, rfl, trivial⟩, hsh.pick [0]⟩
                        · rw [if_neg c1865] at H
                          replace c1865 := Bool.eq_false_iff.2 c1865
                          refine wq_condF hst rfl c1865 ?_
                          refine wq_exit ?_
                          refine then_exit ?_
                          refine then_exit ?_
                          refine block_hit ?_
                          refine then_normal ?_
                          exact ⟨i_743, H, hst.keep _ ⟨rfl, rfl, rfl, rfl, rfl, rfl, trivial⟩, hsh.pick [0]⟩
                      · intro hj
                        by_cases c1859 : (decide (i_743 ≤ i_533)) = true
                        · rw [if_pos c1859] at H
                          refine q_t hst (wt_of 102 rfl rfl c1859) rfl (fun _ hsh => x_move hst rfl) ?_; intro a hst
                          refine q_t hst (wt_of 102 rfl rfl c1859) rfl (fun _ hsh => x_move hst rfl) ?_; intro a hst
                          obtain ⟨x1866, hx1866, H⟩ := Option.bind_eq_some_iff.1 H
                          refine q_t hst (wt_of 102 rfl rfl c1859) rfl (fun _ hsh => x_indexAddr hst Try.underlying57 el_9 rfl rfl (hsh.row 0 rfl) hx1866) ?_; intro a hst
                          refine q_t hst (wt_of 102 rfl rfl c1859) rfl (fun _ hsh => x_loadEF (j := 0) (cs := [.string x1866]) hst sc_9 rfl (hsh.row 0 rfl) (Same.refl _ _) hx1866 rfl (fun _ h => h) rfl) ?_; intro a hst
                          refine q_t hst (wt_of 102 rfl rfl c1859) rfl (fun _ hsh => x_move hst rfl) ?_; intro a hst
                          refine q_t hst (wt_of 102 rfl rfl c1859) rfl (fun _ hsh => x_move hst rfl) ?_; intro a hst
                          obtain ⟨x1867, hx1867, H⟩ := Option.bind_eq_some_iff.1 H
                          refine q_t hst (wt_of 102 rfl rfl c1859) rfl (fun _ hsh => x_indexAddr hst Try.underlying57 el_9 rfl rfl (hsh.row 0 rfl) hx1867) ?_; intro a hst
                          refine q_t hst (wt_of 102 rfl rfl c1859) rfl (fun _ hsh => x_loadEF (j := 0) (cs := [.string x1867]) hst sc_9 rfl (hsh.row 0 rfl) (Same.refl _ _) hx1867 rfl (fun _ h => h) rfl) ?_; intro a hst
                          obtain ⟨r1868, hr1868, H⟩ := Option.bind_eq_some_iff.1 H
                          refine q_call hst (wt_of 102 rfl rfl c1859) rfl fn_40 rfl (fun w9 hsh => cmp_Less_string.calls _ x1866 x1867 r1868 hr1868) ?_; intro a hst
                          refine q_t hst trivial rfl (fun _ hsh => x_pickT hst rfl c1859 rfl) ?_; intro a hst
                          exact hj _ ⟨r1868, H, hst.keep _ ⟨rfl, rfl, rfl, rfl, rfl, rfl, rfl, trivial⟩⟩
                        · rw [if_neg c1859] at H
                          replace c1859 := Bool.eq_false_iff.2 c1859
                          refine q_not hst 102 rfl rfl c1859 rfl ?_; intro a hst
                          refine q_not hst 102 rfl rfl c1859 rfl ?_; intro a hst
                          refine q_not hst 102 rfl rfl c1859 rfl ?_; intro a hst
                          refine q_not hst 102 rfl rfl c1859 rfl ?_; intro a hst
                          refine q_not hst 102 rfl rfl c1859 rfl ?_; intro a hst
                          refine q_not hst 102 rfl rfl c1859 rfl ?_; intro a hst
                          refine q_not hst 102 rfl rfl c1859 rfl ?_; intro a hst
                          refine q_not hst 102 rfl rfl c1859 rfl ?_; intro a hst
                          refine q_not hst 102 rfl rfl c1859 rfl ?_; intro a hst
                          refine q_t hst trivial rfl (fun _ hsh => x_pickF hst rfl c1859 rfl) ?_; intro a hst
                          exact hj _ ⟨false, H, hst.keep _ ⟨rfl, rfl, rfl, rfl, rfl, rfl, rfl, trivial⟩⟩
        · refine wq_block ?_
          refine wq_loop_fuel (fun k_779 a w' => ∃ (i_769 : Int), slices_partitionOrdered_string.l4 a1 l9 i_20 J_67 k_779 i_769 = some r ∧ ST [] Try.f42.ntmps a [(0, va0), (1, .int .i64 a1), (8, .int .i64 0), (9, .bool false), (10, .int .i64 i_20), (11, .int .i64 i_769)] ∧ SH GG w w' [Row Kd.str 9 va0 l9]) k_32 ?_ ?_
          · exact ⟨i_21, H, hst.keep _ ⟨rfl, rfl, rfl, rfl, rfl, rfl, trivial⟩, hsh.pick [0]⟩
          · rintro k_779 a W_770 ⟨i_769, H, hst, hsh⟩
            cases k_779 with
            | zero => rw [slices_partitionOrdered_string.l4] at H; cases H
            | succ k_779 =>
             rw [slices_partitionOrdered_string.l4] at H
             refine wq_seq ?_
             refine wq_seq ?_
             refine wq_region_q (.inl rfl) (fun w' => SH GG w w' [Row Kd.str 9 va0 l9]) (shut_sh _ _ _) hsh.drew fo (by kernel_rfl) ?_
             refine q_t hst trivial rfl (fun _ hsh => x_move hst rfl) ?_; intro a hst
             refine q_t hst trivial rfl (fun _ hsh => x_move hst rfl) ?_; intro a hst
             refine q_t hst trivial rfl (fun _ hsh => x_cmpI (b := decide (i_20 ≤ i_769)) hst rfl rfl rfl) ?_; intro a hst
             refine q_t hst trivial rfl (fun _ hsh => x_move hst rfl) ?_; intro a hst
             obtain ⟨J_784, hJ_784, H⟩ := Jn.elim H
             refine q_join 15 (fun a => ∃ (b_783 : Bool), J_784 b_783 = some r ∧ ST [] Try.f42.ntmps a [(0, va0), (1, .int .i64 a1), (8, .int .i64 0), (9, .bool false), (10, .int .i64 i_20), (11, .int .i64 i_769), (60, .bool b_783)]) ?_ ?_
             · rintro a ⟨b_783, H, hst⟩
               subst hJ_784
               dsimp only at H
               refine q_nil ?_
               intro w1930 hsh
               refine then_normal ?_
               by_cases c1931 : b_783 = true
               · rw [if_pos c1931] at H
                 refine wq_condT hst rfl c1931 ?_
                 refine wq_skip ?_
                 refine then_normal ?_
                 refine wq_block ?_
                 refine wq_region_lit (.inl rfl) ?_
                 refine r_t hst trivial rfl (x_move hst rfl) ?_; intro a hst
                 refine r_t hst trivial rfl (x_arI (r := w64 (i_769 - 1)) hst rfl rfl rfl) ?_; intro a hst
                 refine r_t hst trivial rfl (x_assign hst rfl) ?_; intro a hst
                 refine wpL_nil ?_
                 refine block_normal ?_
                 refine then_normal ?_
                 exact ⟨k_779, Nat.lt_succ_self _, (w64 (i_769 - 1)), H, hst.keep _ ⟨rfl, rfl, rfl, rfl, rfl, rfl, trivial⟩, hsh.pick [0]⟩
               · rw [if_neg c1931] at H
                 replace c1931 := Bool.eq_false_iff.2 c1931
                 refine wq_condF hst rfl c1931 ?_
                 refine wq_exit ?_
                 refine then_exit ?_
                 refine then_exit ?_
                 refine block_hit ?_
                 refine then_normal ?_
                 exact ⟨i_769, H, hst.keep _ ⟨rfl, rfl, rfl, rfl, rfl, rfl, trivial⟩, hsh.pick [0]⟩
             · intro hj
               by_cases c1925 : (decide (i_20 ≤ i_769)) = true
               · rw [if_pos c1925] at H
                 refine q_t hst (wt_of 49 rfl rfl c1925) rfl (fun _ hsh => x_move hst rfl) ?_; intro a hst
                 refine q_t hst (wt_of 49 rfl rfl c1925) rfl (fun _ hsh => x_move hst rfl) ?_; intro a hst
                 obtain ⟨x1932, hx1932, H⟩ := Option.bind_eq_some_iff.1 H
                 refine q_t hst (wt_of 49 rfl rfl c1925) rfl (fun _ hsh => x_indexAddr hst Try.underlying57 el_9 rfl rfl (hsh.row 0 rfl) hx1932) ?_; intro a hst
                 refine q_t hst (wt_of 49 rfl rfl c1925) rfl (fun _ hsh => x_loadEF (j := 0) (cs := [.string x1932]) hst sc_9 rfl (hsh.row 0 rfl) (Same.refl _ _) hx1932 rfl (fun _ h => h) rfl) ?_; intro a hst
                 refine q_t hst (wt_of 49 rfl rfl c1925) rfl (fun _ hsh => x_move hst rfl) ?_; intro a hst
                 refine q_t hst (wt_of 49 rfl rfl c1925) rfl (fun _ hsh => x_move hst rfl) ?_; intro a hst
                 obtain ⟨x1933, hx1933, H⟩ := Option.bind_eq_some_iff.1 H
                 refine q_t hst (wt_of 49 rfl rfl c1925) rfl (fun _ hsh => x_indexAddr hst Try.underlying57 el_9 rfl rfl (hsh.row 0 rfl) hx1933) ?_; intro a hst
                 refine q_t hst (wt_of 49 rfl rfl c1925) rfl (fun _ hsh => x_loadEF (j := 0) (cs := [.string x1933]) hst sc_9 rfl (hsh.row 0 rfl) (Same.refl _ _) hx1933 rfl (fun _ h => h) rfl) ?_; intro a hst
                 obtain ⟨r1934, hr1934, H⟩ := Option.bind_eq_some_iff.1 H
                 refine q_call hst (wt_of 49 rfl rfl c1925) rfl fn_40 rfl (fun w9 hsh => cmp_Less_string.calls _ x1932 x1933 r1934 hr1934) ?_; intro a hst
                 refine q_t hst (wt_of 49 rfl rfl c1925) rfl (fun _ hsh => x_notB hst rfl) ?_; intro a hst
                 refine q_t hst trivial rfl (fun _ hsh => x_pickT hst rfl c1925 rfl) ?_; intro a hst
                 exact hj _ ⟨(!r1934), H, hst.keep _ ⟨rfl, rfl, rfl, rfl, rfl, rfl, rfl, trivial⟩⟩
               · rw [if_neg c1925] at H
                 replace c1925 := Bool.eq_false_iff.2 c1925
                 refine q_not hst 49 rfl rfl c1925 rfl ?_; intro a hst
                 refine q_not hst 49 rfl rfl c1925 rfl ?_; intro a hst
                 refine q_not hst 49 rfl rfl c1925 rfl ?_; intro a hst
                 refine q_not hst 49 rfl rfl c1925 rfl ?_; intro a hst
                 refine q_not hst 49 rfl rfl c1925 rfl ?_; intro a hst
                 refine q_not hst 49 rfl rfl c1925 rfl ?_; intro a hst
                 refine q_not hst 49 rfl rfl c1925 rfl ?_; intro a hst
                 refine q_not hst 49 rfl rfl c1925 rfl ?_; intro a hst
                 refine q_not hst 49 rfl rfl c1925 rfl ?_; intro a hst
                 refine q_not hst 49 rfl rfl c1925 rfl ?_; intro a hst
                 refine q_t hst trivial rfl (fun _ hsh => x_pickF hst rfl c1925 rfl) ?_; intro a hst
                 exact hj _ ⟨false, H, hst.keep _ ⟨rfl, rfl, rfl, rfl, rfl, rfl, rfl, trivial⟩⟩
    · intro hj
      by_cases c89 : (decide (i_20 ≤ i_21)) = true
      · rw [if_pos c89] at H
        refine q_t hst (wt_of 33 rfl rfl c89) rfl (fun _ hsh => x_move hst rfl) ?_; intro a hst
        refine q_t hst (wt_of 33 rfl rfl c89) rfl (fun _ hsh => x_move hst rfl) ?_; intro a hst
        obtain ⟨x1936, hx1936, H⟩ := Option.bind_eq_some_iff.1 H
        refine q_t hst (wt_of 33 rfl rfl c89) rfl (fun _ hsh => x_indexAddr hst Try.underlying57 el_9 rfl rfl (hsh.row 0 rfl) hx1936) ?_; intro a hst
        refine q_t hst (wt_of 33 rfl rfl c89) rfl (fun _ hsh => x_loadEF (j := 0) (cs := [.string x1936]) hst sc_9 rfl (hsh.row 0 rfl) (Same.refl _ _) hx1936 rfl (fun _ h => h) rfl) ?_; intro a hst
        refine q_t hst (wt_of 33 rfl rfl c89) rfl (fun _ hsh => x_move hst rfl) ?_; intro a hst
        refine q_t hst (wt_of 33 rfl rfl c89) rfl (fun _ hsh => x_move hst rfl) ?_; intro a hst
        obtain ⟨x1937, hx1937, H⟩ := Option.bind_eq_some_iff.1 H
        refine q_t hst (wt_of 33 rfl rfl c89) rfl (fun _ hsh => x_indexAddr hst Try.underlying57 el_9 rfl rfl (hsh.row 0 rfl) hx1937) ?_; intro a hst
        refine q_t hst (wt_of 33 rfl rfl c89) rfl (fun _ hsh => x_loadEF (j := 0) (cs := [.string x1937]) hst sc_9 rfl (hsh.row 0 rfl) (Same.refl _ _) hx1937 rfl (fun _ h => h) rfl) ?_; intro a hst
        obtain ⟨r1938, hr1938, H⟩ := Option.bind_eq_some_iff.1 H
        refine q_call hst (wt_of 33 rfl rfl c89) rfl fn_40 rfl (fun w9 hsh => cmp_Less_string.calls _ x1936 x1937 r1938 hr1938) ?_; intro a hst
        refine q_t hst trivial rfl (fun _ hsh => x_pickT hst rfl c89 rfl) ?_; intro a hst
        exact hj _ ⟨r1938, H, hst.keep _ ⟨rfl, rfl, rfl, rfl, rfl, rfl, rfl, trivial⟩⟩
      · rw [if_neg c89] at H
        replace c89 := Bool.eq_false_iff.2 c89
        refine q_not hst 33 rfl rfl c89 rfl ?_; intro a hst
        refine q_not hst 33 rfl rfl c89 rfl ?_; intro a hst
        refine q_not hst 33 rfl rfl c89 rfl ?_; intro a hst
        refine q_not hst 33 rfl rfl c89 rfl ?_; intro a hst
        refine q_not hst 33 rfl rfl c89 rfl ?_; intro a hst
        refine q_not hst 33 rfl rfl c89 rfl ?_; intro a hst
        refine q_not hst 33 rfl rfl c89 rfl ?_; intro a hst
        refine q_not hst 33 rfl rfl c89 rfl ?_; intro a hst
        refine q_not hst 33 rfl rfl c89 rfl ?_; intro a hst
        refine q_t hst trivial rfl (fun _ hsh => x_pickF hst rfl c89 rfl) ?_; intro a hst
        exact hj _ ⟨false, H, hst.keep _ ⟨rfl, rfl, rfl, rfl, rfl, rfl, rfl, trivial⟩⟩

set_option maxHeartbeats 4000000 in
set_option maxRecDepth 100000 in
theorem slices_pdqsortOrdered_string.calls (k : Nat) : ∀ (w : World) (GG : Nat → Prop) (va0 : Value) (a0 : (List ByteArray)) (a1 : Int) (a2 : Int) (a3 : Int) (hsep : Sep GG w [Row Kd.str 9 va0 a0]) (r : (List ByteArray)) (h : slices_pdqsortOrdered_string k a0 a1 a2 a3 = some r),
    Calls Try.prog 31 ([va0, .int .i64 a1, .int .i64 a2, .int .i64 a3] : List Value).toArray w fun e w' => e = .returned (.tuple #[]) ∧ SH GG w w' [Row Kd.str 9 va0 r] := by
 induction k with
 | zero =>
  intros
  rename_i h
  rw [slices_pdqsortOrdered_string] at h
  cases h
 | succ k ih =>
  intro w GG va0 a0 a1 a2 a3 hsep r h
  have H := h
  clear h
  rw [slices_pdqsortOrdered_string] at H
  refine calls_enter Try.func31 rfl rfl ?_
  intro a hst
  have hsh := SH.start hsep
  refine wq_seq ?_
  refine wq_region_lit (.inl rfl) ?_
  refine r_t hst trivial rfl (x_assign hst rfl) ?_; intro a hst
  refine wpL_nil ?_
  refine then_normal ?_
  refine wq_seq ?_
  refine wq_region_lit (.inl rfl) ?_
  refine r_t hst trivial rfl (x_assign hst rfl) ?_; intro a hst
  refine wpL_nil ?_
  refine then_normal ?_
  refine wq_block ?_
  refine wq_loop_fuel (fun k_60 a w' => ∃ (l_28 : (List ByteArray)), ∃ (i_29 : Int), ∃ (i_30 : Int), ∃ (i_31 : Int), ∃ (b_32 : Bool), ∃ (b_33 : Bool), slices_pdqsortOrdered_string.l0 (fun x0 x1 x2 x3 => slices_pdqsortOrdered_string k x0 x1 x2 x3) k_60 l_28 i_29 i_30 i_31 b_32 b_33 = some r ∧ ST [] Try.f31.ntmps a [(0, va0), (1, .int .i64 i_29), (2, .int .i64 i_30), (3, .int .i64 i_31), (8, .bool b_32), (9, .bool b_33)] ∧ SH GG w w' [Row Kd.str 9 va0 l_28]) k ?_ ?_
  · exact ⟨a0, a1, a2, a3, true, true, H, hst.keep _ ⟨rfl, rfl, rfl, rfl, rfl, rfl, trivial⟩, hsh.pick [0]⟩
  · rintro k_60 a W_34 ⟨l_28, i_29, i_30, i_31, b_32, b_33, H, hst, hsh⟩
    cases k_60 with
    | zero => rw [slices_pdqsortOrdered_string.l0] at H; cases H
    | succ k_60 =>
     rw [slices_pdqsortOrdered_string.l0] at H
     refine wq_block ?_
     refine wq_seq ?_
     refine wq_region_lit (.inl rfl) ?_
     refine r_t hst trivial rfl (x_move hst rfl) ?_; intro a hst
     refine r_t hst trivial rfl (x_move hst rfl) ?_; intro a hst
     refine r_t hst trivial rfl (x_arI (r := w64 (i_30 - i_29)) hst rfl rfl rfl) ?_; intro a hst
     refine r_t hst trivial rfl (x_assign hst rfl) ?_; intro a hst
     refine wpL_nil ?_
     refine then_normal ?_
     refine wq_seq ?_
     refine wq_seq ?_
     refine wq_region_lit (.inl rfl) ?_
     refine r_t hst trivial rfl (x_move hst rfl) ?_; intro a hst
     refine r_t hst trivial rfl (x_cmpI (b := decide ((w64 (i_30 - i_29)) ≤ 12)) hst rfl rfl rfl) ?_; intro a hst
     refine wpL_nil ?_
     refine then_normal ?_
     by_cases c177 : (decide ((w64 (i_30 - i_29)) ≤ 12)) = true
     · rw [if_pos c177] at H
       refine wq_condT hst rfl c177 ?_
       refine wq_seq ?_
       refine wq_region_lit (.inl rfl) ?_
       refine r_t hst trivial rfl (x_move hst rfl) ?_; intro a hst
       refine r_t hst trivial rfl (x_move hst rfl) ?_; intro a hst
       refine r_t hst trivial rfl (x_move hst rfl) ?_; intro a hst
       replace hsh := hsh.pick [0]
       obtain ⟨GG180, hsp, hG, hbx, hfx, hk⟩ := SH.callD (L1 := [Row Kd.str 9 va0 l_28]) (L2 := []) hsh
       obtain ⟨r178, hr178, H⟩ := Option.bind_eq_some_iff.1 H
       refine r_callD hst trivial rfl fn_34 rfl (slices_insertionSortOrdered_string.calls k_60 _ GG180 _ l_28 i_29 i_30 hsp r178 hr178) ?_
       rintro e w179 ⟨rfl, hc⟩
       replace hsh := hk _ _ hc
       clear hc
       refine ⟨_, rfl, fun a hst => ?_⟩
       refine wpL_nil ?_
       refine then_normal ?_
       refine wq_ret ?_
       refine then_ret ?_
       refine block_ret ?_
       refine then_ret ?_
       refine block_ret ?_
       obtain rfl := Option.some.inj H
       exact ret0 hst rfl ⟨rfl, hsh.pick [0]⟩
     · rw [if_neg c177] at H
       replace c177 := Bool.eq_false_iff.2 c177
       refine wq_condF hst rfl c177 ?_
       refine wq_skip ?_
       refine then_normal ?_
       refine wq_seq ?_
       refine wq_seq ?_
       refine wq_region_lit (.inl rfl) ?_
       refine r_t hst trivial rfl (x_move hst rfl) ?_; intro a hst
       refine r_t hst trivial rfl (x_cmpI (b := (i_31 == 0)) hst rfl rfl rfl) ?_; intro a hst
       refine wpL_nil ?_
       refine then_normal ?_
       by_cases c185 : (i_31 == 0) = true
       · rw [if_pos c185] at H
         refine wq_condT hst rfl c185 ?_
         refine wq_seq ?_
         refine wq_region_lit (.inl rfl) ?_
         refine r_t hst trivial rfl (x_move hst rfl) ?_; intro a hst
         refine r_t hst trivial rfl (x_move hst rfl) ?_; intro a hst
         refine r_t hst trivial rfl (x_move hst rfl) ?_; intro a hst
         replace hsh := hsh.pick [0]
         obtain ⟨GG188, hsp, hG, hbx, hfx, hk⟩ := SH.callD (L1 := [Row Kd.str 9 va0 l_28]) (L2 := []) hsh
         obtain ⟨r186, hr186, H⟩ := Option.bind_eq_some_iff.1 H
         refine r_callD hst trivial rfl fn_35 rfl (slices_heapSortOrdered_string.calls k_60 _ GG188 _ l_28 i_29 i_30 hsp r186 hr186) ?_
         rintro e w187 ⟨rfl, hc⟩
         replace hsh := hk _ _ hc
         clear hc
         refine ⟨_, rfl, fun a hst => ?_⟩
         refine wpL_nil ?_
         refine then_normal ?_
         refine wq_ret ?_
         refine then_ret ?_
         refine block_ret ?_
         refine then_ret ?_
         refine block_ret ?_
         obtain rfl := Option.some.inj H
         exact ret0 hst rfl ⟨rfl, hsh.pick [0]⟩
       · rw [if_neg c185] at H
         replace c185 := Bool.eq_false_iff.2 c185
         refine wq_condF hst rfl c185 ?_
         refine wq_skip ?_
         refine then_normal ?_
         obtain ⟨J_64, hJ_64, H⟩ := Jn.elim H
         refine wq_cut (fun a w' => ∃ (l_61 : (List ByteArray)), ∃ (i_62 : Int), J_64 l_61 i_62 = some r ∧ ST [] Try.f31.ntmps a [(0, va0), (1, .int .i64 i_29), (2, .int .i64 i_30), (3, .int .i64 i_62), (8, .bool b_32), (9, .bool b_33), (10, .int .i64 (w64 (i_30 - i_29)))] ∧ SH GG w w' [Row Kd.str 9 va0 l_61]) ?_ ?_
         · rintro a W_63 ⟨l_61, i_62, H, hst, hsh⟩
           subst hJ_64
           dsimp only at H
           refine wq_seq ?_
           refine wq_region_lit (.inl rfl) ?_
           refine r_t hst trivial rfl (x_move hst rfl) ?_; intro a hst
           refine r_t hst trivial rfl (x_move hst rfl) ?_; intro a hst
           refine r_t hst trivial rfl (x_move hst rfl) ?_; intro a hst
           obtain ⟨r193, hr193, H⟩ := Option.bind_eq_some_iff.1 H
           refine r_callD hst trivial rfl fn_37 rfl (slices_choosePivotOrdered_string.calls _ _ _ _ (Same.refl _ _) _ (hsh.row 0 rfl) i_29 i_30 r193 hr193) ?_
           rintro e w194 ⟨rfl, hc⟩
           replace hsh := hsh.call0 hc
           clear hc
           refine ⟨_, rfl, fun a hst => ?_⟩
           refine r_t hst trivial rfl (x_move hst rfl) ?_; intro a hst
           refine r_t hst trivial rfl (x_extract hst rfl rfl) ?_; intro a hst
           refine r_t hst trivial rfl (x_extract hst rfl rfl) ?_; intro a hst
           refine r_t hst trivial rfl (x_assign hst rfl) ?_; intro a hst
           refine r_t hst trivial rfl (x_assign hst rfl) ?_; intro a hst
           refine wpL_nil ?_
           refine then_normal ?_
           obtain ⟨J_69, hJ_69, H⟩ := Jn.elim H
           refine wq_cut (fun a w' => ∃ (l_65 : (List ByteArray)), ∃ (i_66 : Int), ∃ (i_67 : Int), J_69 l_65 i_66 i_67 = some r ∧ ST [] Try.f31.ntmps a [(0, va0), (1, .int .i64 i_29), (2, .int .i64 i_30), (3, .int .i64 i_62), (8, .bool b_32), (9, .bool b_33), (10, .int .i64 (w64 (i_30 - i_29))), (11, .int .i64 i_66), (12, .int .i64 i_67)] ∧ SH GG w w' [Row Kd.str 9 va0 l_65]) ?_ ?_
           · rintro a W_68 ⟨l_65, i_66, i_67, H, hst, hsh⟩
             subst hJ_69
             dsimp only at H
             obtain ⟨J_72, hJ_72, H⟩ := Jn.elim H
             refine wq_cut (fun a w' => ∃ (l_70 : (List ByteArray)), J_72 l_70 = some r ∧ ST [] Try.f31.ntmps a [(0, va0), (1, .int .i64 i_29), (2, .int .i64 i_30), (3, .int .i64 i_62), (8, .bool b_32), (9, .bool b_33), (10, .int .i64 (w64 (i_30 - i_29))), (11, .int .i64 i_66)] ∧ SH GG w w' [Row Kd.str 9 va0 l_70]) ?_ ?_
             · rintro a W_71 ⟨l_70, H, hst, hsh⟩
               subst hJ_72
               dsimp only at H
               refine wq_seq ?_
               refine wq_seq ?_
               refine wq_region_q (.inl rfl) (fun w' => SH GG w w' [Row Kd.str 9 va0 l_70]) (shut_sh _ _ _) hsh.drew fo (by kernel_rfl) ?_
               refine q_t hst trivial rfl (fun _ hsh => x_move hst rfl) ?_; intro a hst
               refine q_t hst trivial rfl (fun _ hsh => x_cmpI (b := decide (0 < i_29)) hst rfl rfl rfl) ?_; intro a hst
               refine q_t hst trivial rfl (fun _ hsh => x_move hst rfl) ?_; intro a hst
               obtain ⟨J_77, hJ_77, H⟩ := Jn.elim H
               refine q_join 15 (fun a => ∃ (b_76 : Bool), J_77 b_76 = some r ∧ ST [] Try.f31.ntmps a [(0, va0), (1, .int .i64 i_29), (2, .int .i64 i_30), (3, .int .i64 i_62), (8, .bool b_32), (9, .bool b_33), (10, .int .i64 (w64 (i_30 - i_29))), (11, .int .i64 i_66), (87, .bool b_76)]) ?_ ?_
               · rintro a ⟨b_76, H, hst⟩
                 subst hJ_77
                 dsimp only at H
                 refine q_nil ?_
                 intro w225 hsh
                 refine then_normal ?_
                 by_cases c226 : b_76 = true
                 · rw [if_pos c226] at H
                   refine wq_condT hst rfl c226 ?_
                   refine wq_seq ?_
                   refine wq_region_lit (.inl rfl) ?_
                   refine r_t hst trivial rfl (x_move hst rfl) ?_; intro a hst
                   refine r_t hst trivial rfl (x_move hst rfl) ?_; intro a hst
                   refine r_t hst trivial rfl (x_move hst rfl) ?_; intro a hst
                   refine r_t hst trivial rfl (x_move hst rfl) ?_; intro a hst
                   replace hsh := hsh.pick [0]
                   obtain ⟨GG229, hsp, hG, hbx, hfx, hk⟩ := SH.callD (L1 := [Row Kd.str 9 va0 l_70]) (L2 := []) hsh
                   obtain ⟨r227, hr227, H⟩ := Option.bind_eq_some_iff.1 H
                   refine r_callD hst trivial rfl fn_41 rfl (slices_partitionEqualOrdered_string.calls k_60 _ GG229 _ l_70 i_29 i_30 i_66 hsp r227 hr227) ?_
                   rintro e w228 ⟨rfl, hc⟩
                   replace hsh := hk _ _ hc
                   clear hc
                   refine ⟨_, rfl, fun a hst => ?_⟩
                   refine r_t hst trivial rfl (x_assign hst rfl) ?_; intro a hst
                   refine wpL_nil ?_
                   refine then_normal ?_
                   refine wq_seq ?_
                   refine wq_region_lit (.inl rfl) ?_
                   refine r_t hst trivial rfl (x_move hst rfl) ?_; intro a hst
                   refine r_t hst trivial rfl (x_assign hst rfl) ?_; intro a hst
                   refine wpL_nil ?_
                   refine then_normal ?_
                   refine wq_exit ?_
                   refine then_exit ?_
                   refine block_hit ?_
                   refine then_normal ?_
                   exact ⟨k_60, Nat.lt_succ_self _, r227.2, r227.1, i_30, i_62, b_32, b_33, H, hst.keep _ ⟨rfl, rfl, rfl, rfl, rfl, rfl, trivial⟩, hsh.pick [0]⟩
                 · rw [if_neg c226] at H
                   replace c226 := Bool.eq_false_iff.2 c226
                   refine wq_condF hst rfl c226 ?_
                   refine wq_skip ?_
                   refine then_normal ?_
                   refine wq_seq ?_
                   refine wq_region_lit (.inl rfl) ?_
                   refine r_t hst trivial rfl (x_move hst rfl) ?_; intro a hst
                   refine r_t hst trivial rfl (x_move hst rfl) ?_; intro a hst
                   refine r_t hst trivial rfl (x_move hst rfl) ?_; intro a hst
                   refine r_t hst trivial rfl (x_move hst rfl) ?_; intro a hst
                   replace hsh := hsh.pick [0]
                   obtain ⟨GG232, hsp, hG, hbx, hfx, hk⟩ := SH.callD (L1 := [Row Kd.str 9 va0 l_70]) (L2 := []) hsh
                   obtain ⟨r230, hr230, H⟩ := Option.bind_eq_some_iff.1 H
                   refine r_callD hst trivial rfl fn_42 rfl (slices_partitionOrdered_string.calls k_60 _ GG232 _ l_70 i_29 i_30 i_66 hsp r230 hr230) ?_
                   rintro e w231 ⟨rfl, hc⟩
                   replace hsh := hk _ _ hc
                   clear hc
                   refine ⟨_, rfl, fun a hst => ?_⟩
                   refine r_t hst trivial rfl (x_move hst rfl) ?_; intro a hst
                   refine r_t hst trivial rfl (x_extract hst rfl rfl) ?_; intro a hst
                   refine r_t hst trivial rfl (x_extract hst rfl rfl) ?_; intro a hst
                   refine r_t hst trivial rfl (x_assign hst rfl) ?_; intro a hst
                   refine r_t hst trivial rfl (x_assign hst rfl) ?_; intro a hst
                   refine wpL_nil ?_
                   refine then_normal ?_
                   refine wq_seq ?_
                   refine wq_region_lit (.inl rfl) ?_
                   refine r_t hst trivial rfl (x_move hst rfl) ?_; intro a hst
                   refine r_t hst trivial rfl (x_assign hst rfl) ?_; intro a hst
                   refine wpL_nil ?_
                   refine then_normal ?_
                   refine wq_seq ?_
                   refine wq_region_lit (.inl rfl) ?_
                   refine r_t hst trivial rfl (x_move hst rfl) ?_; intro a hst
                   refine r_t hst trivial rfl (x_move hst rfl) ?_; intro a hst
                   refine r_t hst trivial rfl (x_arI (r := w64 (r230.1 - i_29)) hst rfl rfl rfl) ?_; intro a hst
                   refine r_t hst trivial rfl (x_move hst rfl) ?_; intro a hst
                   refine r_t hst trivial rfl (x_move hst rfl) ?_; intro a hst
                   refine r_t hst trivial rfl (x_arI (r := w64 (i_30 - r230.1)) hst rfl rfl rfl) ?_; intro a hst
                   refine r_t hst trivial rfl (x_assign hst rfl) ?_; intro a hst
                   refine r_t hst trivial rfl (x_assign hst rfl) ?_; intro a hst
                   refine wpL_nil ?_
                   refine then_normal ?_
                   refine wq_seq ?_
                   refine wq_region_lit (.inl rfl) ?_
                   refine r_t hst trivial rfl (x_move hst rfl) ?_; intro a hst
                   refine r_t hst trivial rfl (x_quo hst rfl rfl (by decide)) ?_; intro a hst
                   refine r_t hst trivial rfl (x_assign hst rfl) ?_; intro a hst
                   refine wpL_nil ?_
                   refine then_normal ?_
                   refine wq_seq ?_
                   refine wq_region_lit (.inl rfl) ?_
                   refine r_t hst trivial rfl (x_move hst rfl) ?_; intro a hst
                   refine r_t hst trivial rfl (x_move hst rfl) ?_; intro a hst
                   refine r_t hst trivial rfl (x_cmpI (b := decide ((w64 (r230.1 - i_29)) < (w64 (i_30 - r230.1)))) hst rfl rfl rfl) ?_; intro a hst
                   refine wpL_nil ?_
                   refine then_normal ?_
                   by_cases c233 : (decide ((w64 (r230.1 - i_29)) < (w64 (i_30 - r230.1)))) = true
                   · rw [if_pos c233] at H
                     refine wq_condT hst rfl c233 ?_
                     refine wq_seq ?_
                     refine wq_region_lit (.inl rfl) ?_
                     refine r_t hst trivial rfl (x_move hst rfl) ?_; intro a hst
                     refine r_t hst trivial rfl (x_move hst rfl) ?_; intro a hst
                     refine r_t hst trivial rfl (x_cmpI (b := decide ((w64 (Int.tdiv (w64 (i_30 - i_29)) 8)) ≤ (w64 (r230.1 - i_29)))) hst rfl rfl rfl) ?_; intro a hst
                     refine r_t hst trivial rfl (x_assign hst rfl) ?_; intro a hst
                     refine wpL_nil ?_
                     refine then_normal ?_
                     refine wq_seq ?_
                     refine wq_region_lit (.inl rfl) ?_
                     refine r_t hst trivial rfl (x_move hst rfl) ?_; intro a hst
                     refine r_t hst trivial rfl (x_move hst rfl) ?_; intro a hst
                     refine r_t hst trivial rfl (x_move hst rfl) ?_; intro a hst
                     refine r_t hst trivial rfl (x_move hst rfl) ?_; intro a hst
                     replace hsh := hsh.pick [0]
                     obtain ⟨GG236, hsp, hG, hbx, hfx, hk⟩ := SH.callD (L1 := [Row Kd.str 9 va0 r230.2.2]) (L2 := []) hsh
                     obtain ⟨r234, hr234, H⟩ := Option.bind_eq_some_iff.1 H
                     refine r_callD hst trivial rfl fn_31 rfl (ih _ GG236 _ r230.2.2 i_29 r230.1 i_62 hsp r234 hr234) ?_
                     rintro e w235 ⟨rfl, hc⟩
                     replace hsh := hk _ _ hc
                     clear hc
                     refine ⟨_, rfl, fun a hst => ?_⟩
                     refine wpL_nil ?_
                     refine then_normal ?_
                     refine wq_region_lit (.inl rfl) ?_
                     refine r_t hst trivial rfl (x_move hst rfl) ?_; intro a hst
                     refine r_t hst trivial rfl (x_arI (r := w64 (r230.1 + 1)) hst rfl rfl rfl) ?_; intro a hst
                     refine r_t hst trivial rfl (x_assign hst rfl) ?_; intro a hst
                     refine wpL_nil ?_
                     refine block_normal ?_
                     refine then_normal ?_
                     exact ⟨k_60, Nat.lt_succ_self _, r234, (w64 (r230.1 + 1)), i_30, i_62, (decide ((w64 (Int.tdiv (w64 (i_30 - i_29)) 8)) ≤ (w64 (r230.1 - i_29)))), r230.2.1, H, hst.keep _ ⟨rfl, rfl, rfl, rfl, rfl, rfl, trivial⟩, hsh.pick [0]⟩
                   · rw [if_neg c233] at H
                     replace c233 := Bool.eq_false_iff.2 c233
                     refine wq_condF hst rfl c233 ?_
                     refine wq_seq ?_
                     refine wq_region_lit (.inl rfl) ?_
                     refine r_t hst trivial rfl (x_move hst rfl) ?_; intro a hst
                     refine r_t hst trivial rfl (x_move hst rfl) ?_; intro a hst
                     refine r_t hst trivial rfl (x_cmpI (b := decide ((w64 (Int.tdiv (w64 (i_30 - i_29)) 8)) ≤ (w64 (i_30 - r230.1)))) hst rfl rfl rfl) ?_; intro a hst
                     refine r_t hst trivial rfl (x_assign hst rfl) ?_; intro a hst
                     refine wpL_nil ?_
                     refine then_normal ?_
                     refine wq_seq ?_
                     refine wq_region_lit (.inl rfl) ?_
                     refine r_t hst trivial rfl (x_move hst rfl) ?_; intro a hst
                     refine r_t hst trivial rfl (x_move hst rfl) ?_; intro a hst
                     refine r_t hst trivial rfl (x_arI (r := w64 (r230.1 + 1)) hst rfl rfl rfl) ?_; intro a hst
                     refine r_t hst trivial rfl (x_move hst rfl) ?_; intro a hst
                     refine r_t hst trivial rfl (x_move hst rfl) ?_; intro a hst
                     replace hsh := hsh.pick [0]
                     obtain ⟨GG239, hsp, hG, hbx, hfx, hk⟩ := SH.callD (L1 := [Row Kd.str 9 va0 r230.2.2]) (L2 := []) hsh
                     obtain ⟨r237, hr237, H⟩ := Option.bind_eq_some_iff.1 H
                     refine r_callD hst trivial rfl fn_31 rfl (ih _ GG239 _ r230.2.2 (w64 (r230.1 + 1)) i_30 i_62 hsp r237 hr237) ?_
                     rintro e w238 ⟨rfl, hc⟩
                     replace hsh := hk _ _ hc
                     clear hc
                     refine ⟨_, rfl, fun a hst => ?_⟩
                     refine wpL_nil ?_
                     refine then_normal ?_
                     refine wq_region_lit (.inl rfl) ?_
                     refine r_t hst trivial rfl (x_move hst rfl) ?_; intro a hst
                     refine r_t hst trivial rfl (x_assign hst rfl) ?_; intro a hst
                     refine wpL_nil ?_
                     refine block_normal ?_
                     refine then_normal ?_
                     exact ⟨k_60, Nat.lt_succ_self _, r237, i_29, r230.1, i_62, (decide ((w64 (Int.tdiv (w64 (i_30 - i_29)) 8)) ≤ (w64 (i_30 - r230.1)))), r230.2.1, H, hst.keep _ ⟨rfl, rfl, rfl, rfl, rfl, rfl, trivial⟩, hsh.pick [0]⟩
               · intro hj
                 by_cases c220 : (decide (0 < i_29)) = true
                 · rw [if_pos c220] at H
                   refine q_t hst (wt_of 75 rfl rfl c220) rfl (fun _ hsh => x_move hst rfl) ?_; intro a hst
                   refine q_t hst (wt_of 75 rfl rfl c220) rfl (fun _ hsh => x_move hst rfl) ?_; intro a hst
                   refine q_t hst (wt_of 75 rfl rfl c220) rfl (fun _ hsh => x_arI (r := w64 (i_29 - 1)) hst rfl rfl rfl) ?_; intro a hst
                   obtain ⟨x240, hx240, H⟩ := Option.bind_eq_some_iff.1 H
                   refine q_t hst (wt_of 75 rfl rfl c220) rfl (fun _ hsh => x_indexAddr hst Try.underlying57 el_9 rfl rfl (hsh.row 0 rfl) hx240) ?_; intro a hst
                   refine q_t hst (wt_of 75 rfl rfl c220) rfl (fun _ hsh => x_loadEF (j := 0) (cs := [.string x240]) hst sc_9 rfl (hsh.row 0 rfl) (Same.refl _ _) hx240 rfl (fun _ h => h) rfl) ?_; intro a hst
                   refine q_t hst (wt_of 75 rfl rfl c220) rfl (fun _ hsh => x_move hst rfl) ?_; intro a hst
                   refine q_t hst (wt_of 75 rfl rfl c220) rfl (fun _ hsh => x_move hst rfl) ?_; intro a hst
                   obtain ⟨x241, hx241, H⟩ := Option.bind_eq_some_iff.1 H
                   refine q_t hst (wt_of 75 rfl rfl c220) rfl (fun _ hsh => x_indexAddr hst Try.underlying57 el_9 rfl rfl (hsh.row 0 rfl) hx241) ?_; intro a hst
                   refine q_t hst (wt_of 75 rfl rfl c220) rfl (fun _ hsh => x_loadEF (j := 0) (cs := [.string x241]) hst sc_9 rfl (hsh.row 0 rfl) (Same.refl _ _) hx241 rfl (fun _ h => h) rfl) ?_; intro a hst
                   obtain ⟨r242, hr242, H⟩ := Option.bind_eq_some_iff.1 H
                   refine q_call hst (wt_of 75 rfl rfl c220) rfl fn_40 rfl (fun w9 hsh => cmp_Less_string.calls _ x240 x241 r242 hr242) ?_; intro a hst
                   refine q_t hst (wt_of 75 rfl rfl c220) rfl (fun _ hsh => x_notB hst rfl) ?_; intro a hst
                   refine q_t hst trivial rfl (fun _ hsh => x_pickT hst rfl c220 rfl) ?_; intro a hst
                   exact hj _ ⟨(!r242), H, hst.keep _ ⟨rfl, rfl, rfl, rfl, rfl, rfl, rfl, rfl, rfl, trivial⟩⟩
                 · rw [if_neg c220] at H
                   replace c220 := Bool.eq_false_iff.2 c220
                   refine q_not hst 75 rfl rfl c220 rfl ?_; intro a hst
                   refine q_not hst 75 rfl rfl c220 rfl ?_; intro a hst
                   refine q_not hst 75 rfl rfl c220 rfl ?_; intro a hst
                   refine q_not hst 75 rfl rfl c220 rfl ?_; intro a hst
                   refine q_not hst 75 rfl rfl c220 rfl ?_; intro a hst
                   refine q_not hst 75 rfl rfl c220 rfl ?_; intro a hst
                   refine q_not hst 75 rfl rfl c220 rfl ?_; intro a hst
                   refine q_not hst 75 rfl rfl c220 rfl ?_; intro a hst
                   refine q_not hst 75 rfl rfl c220 rfl ?_; intro a hst
                   refine q_not hst 75 rfl rfl c220 rfl ?_; intro a hst
                   refine q_not hst 75 rfl rfl c220 rfl ?_; intro a hst
                   refine q_t hst trivial rfl (fun _ hsh => x_pickF hst rfl c220 rfl) ?_; intro a hst
                   exact hj _ ⟨false, H, hst.keep _ ⟨rfl, rfl, rfl, rfl, rfl, rfl, rfl, rfl, rfl, trivial⟩⟩
             · refine wq_seq ?_
               refine wq_region_lit (.inl rfl) ?_
               refine r_t hst trivial rfl (x_move hst rfl) ?_; intro a hst
               refine r_t hst trivial rfl (x_move hst rfl) ?_; intro a hst
               refine wl_join0 (Δ := []) (N := Try.f31.ntmps) 4 [(0, va0), (1, .int .i64 i_29), (2, .int .i64 i_30), (3, .int .i64 i_62), (8, .bool b_32), (9, .bool b_33), (10, .int .i64 (w64 (i_30 - i_29))), (11, .int .i64 i_66), (12, .int .i64 i_67), (64, .bool (b_32 && b_33))] ?_ ?_
               · intro a hst
                 refine r_t hst trivial rfl (x_move hst rfl) ?_; intro a hst
                 refine wl_join0 (Δ := []) (N := Try.f31.ntmps) 8 [(0, va0), (1, .int .i64 i_29), (2, .int .i64 i_30), (3, .int .i64 i_62), (8, .bool b_32), (9, .bool b_33), (10, .int .i64 (w64 (i_30 - i_29))), (11, .int .i64 i_66), (68, .bool ((b_32 && b_33) && (i_67 == 1)))] ?_ ?_
                 · intro a hst
                   refine wpL_nil ?_
                   refine then_normal ?_
                   by_cases c246 : ((b_32 && b_33) && (i_67 == 1)) = true
                   · rw [if_pos c246] at H
                     refine wq_condT hst rfl c246 ?_
                     refine wq_seq ?_
                     refine wq_region_lit (.inl rfl) ?_
                     refine r_t hst trivial rfl (x_move hst rfl) ?_; intro a hst
                     refine r_t hst trivial rfl (x_move hst rfl) ?_; intro a hst
                     refine r_t hst trivial rfl (x_move hst rfl) ?_; intro a hst
                     replace hsh := hsh.pick [0]
                     obtain ⟨GG249, hsp, hG, hbx, hfx, hk⟩ := SH.callD (L1 := [Row Kd.str 9 va0 l_65]) (L2 := []) hsh
                     obtain ⟨r247, hr247, H⟩ := Option.bind_eq_some_iff.1 H
                     refine r_callD hst trivial rfl fn_39 rfl (slices_partialInsertionSortOrdered_string.calls k_60 _ GG249 _ l_65 i_29 i_30 hsp r247 hr247) ?_
                     rintro e w248 ⟨rfl, hc⟩
                     replace hsh := hk _ _ hc
                     clear hc
                     refine ⟨_, rfl, fun a hst => ?_⟩
                     refine wpL_nil ?_
                     refine then_normal ?_
                     by_cases c250 : r247.1 = true
                     · rw [if_pos c250] at H
                       refine wq_condT hst rfl c250 ?_
                       refine wq_ret ?_
                       refine then_ret ?_
                       refine block_ret ?_
                       refine then_ret ?_
                       refine block_ret ?_
                       obtain rfl := Option.some.inj H
                       exact ret0 hst rfl ⟨rfl, hsh.pick [0]⟩
                     · rw [if_neg c250] at H
                       replace c250 := Bool.eq_false_iff.2 c250
                       refine wq_condF hst rfl c250 ?_
                       refine wq_skip ?_
                       refine then_normal ?_
                       exact ⟨r247.2, H, hst.keep _ ⟨rfl, rfl, rfl, rfl, rfl, rfl, rfl, rfl, trivial⟩, hsh.pick [0]⟩
                   · rw [if_neg c246] at H
                     replace c246 := Bool.eq_false_iff.2 c246
                     refine wq_condF hst rfl c246 ?_
                     refine wq_skip ?_
                     refine then_normal ?_
                     exact ⟨l_65, H, hst.keep _ ⟨rfl, rfl, rfl, rfl, rfl, rfl, rfl, rfl, trivial⟩, hsh.pick [0]⟩
                 · intro hj
                   by_cases c245 : (b_32 && b_33) = true
                   · refine r_t hst (wt_of 65 rfl rfl c245) rfl (x_move hst rfl) ?_; intro a hst
                     refine r_t hst (wt_of 65 rfl rfl c245) rfl (x_cmpI (b := (i_67 == 1)) hst rfl rfl rfl) ?_; intro a hst
                     refine r_t hst trivial rfl (x_andT hst rfl c245 rfl) ?_; intro a hst
                     exact hj _ (hst.keep _ ⟨rfl, rfl, rfl, rfl, rfl, rfl, rfl, rfl, rfl, trivial⟩)
                   · replace c245 := Bool.eq_false_iff.2 c245
                     refine r_not hst 65 rfl rfl c245 rfl ?_; intro a hst
                     refine r_not hst 65 rfl rfl c245 rfl ?_; intro a hst
                     refine r_t hst trivial rfl (x_andF (i_67 == 1) hst rfl c245 rfl) ?_; intro a hst
                     exact hj _ (hst.keep _ ⟨rfl, rfl, rfl, rfl, rfl, rfl, rfl, rfl, rfl, trivial⟩)
               · intro hj
                 by_cases c244 : b_32 = true
                 · refine r_t hst (wt_of 62 rfl rfl c244) rfl (x_move hst rfl) ?_; intro a hst
                   refine r_t hst trivial rfl (x_andT hst rfl c244 rfl) ?_; intro a hst
                   exact hj _ (hst.keep _ ⟨rfl, rfl, rfl, rfl, rfl, rfl, rfl, rfl, rfl, rfl, trivial⟩)
                 · replace c244 := Bool.eq_false_iff.2 c244
                   refine r_not hst 62 rfl rfl c244 rfl ?_; intro a hst
                   refine r_t hst trivial rfl (x_andF b_33 hst rfl c244 rfl) ?_; intro a hst
                   exact hj _ (hst.keep _ ⟨rfl, rfl, rfl, rfl, rfl, rfl, rfl, rfl, rfl, rfl, trivial⟩)
           · refine wq_seq ?_
             refine wq_region_lit (.inl rfl) ?_
             refine r_t hst trivial rfl (x_move hst rfl) ?_; intro a hst
             refine r_t hst trivial rfl (x_cmpI (b := (r193.2 == 2)) hst rfl rfl rfl) ?_; intro a hst
             refine wpL_nil ?_
             refine then_normal ?_
             by_cases c251 : (r193.2 == 2) = true
             · rw [if_pos c251] at H
               refine wq_condT hst rfl c251 ?_
               refine wq_seq ?_
               refine wq_region_lit (.inl rfl) ?_
               refine r_t hst trivial rfl (x_move hst rfl) ?_; intro a hst
               refine r_t hst trivial rfl (x_move hst rfl) ?_; intro a hst
               refine r_t hst trivial rfl (x_move hst rfl) ?_; intro a hst
               replace hsh := hsh.pick [0]
               obtain ⟨GG254, hsp, hG, hbx, hfx, hk⟩ := SH.callD (L1 := [Row Kd.str 9 va0 l_61]) (L2 := []) hsh
               obtain ⟨r252, hr252, H⟩ := Option.bind_eq_some_iff.1 H
               refine r_callD hst trivial rfl fn_38 rfl (slices_reverseRangeOrdered_string.calls k_60 _ GG254 _ l_61 i_29 i_30 hsp r252 hr252) ?_
               rintro e w253 ⟨rfl, hc⟩
               replace hsh := hk _ _ hc
               clear hc
               refine ⟨_, rfl, fun a hst => ?_⟩
               refine wpL_nil ?_
               refine then_normal ?_
               refine wq_seq ?_
               refine wq_region_lit (.inl rfl) ?_
               refine r_t hst trivial rfl (x_move hst rfl) ?_; intro a hst
               refine r_t hst trivial rfl (x_arI (r := w64 (i_30 - 1)) hst rfl rfl rfl) ?_; intro a hst
               refine r_t hst trivial rfl (x_move hst rfl) ?_; intro a hst
               refine r_t hst trivial rfl (x_move hst rfl) ?_; intro a hst
               refine r_t hst trivial rfl (x_arI (r := w64 (r193.1 - i_29)) hst rfl rfl rfl) ?_; intro a hst
               refine r_t hst trivial rfl (x_arI (r := w64 ((w64 (i_30 - 1)) - (w64 (r193.1 - i_29)))) hst rfl rfl rfl) ?_; intro a hst
               refine r_t hst trivial rfl (x_assign hst rfl) ?_; intro a hst
               refine wpL_nil ?_
               refine then_normal ?_
               refine wq_region_lit (.inl rfl) ?_
               refine r_t hst trivial rfl (x_assign hst rfl) ?_; intro a hst
               refine wpL_nil ?_
               refine then_normal ?_
               exact ⟨r252, (w64 ((w64 (i_30 - 1)) - (w64 (r193.1 - i_29)))), 1, H, hst.keep _ ⟨rfl, rfl, rfl, rfl, rfl, rfl, rfl, rfl, rfl, trivial⟩, hsh.pick [0]⟩
             · rw [if_neg c251] at H
               replace c251 := Bool.eq_false_iff.2 c251
               refine wq_condF hst rfl c251 ?_
               refine wq_skip ?_
               refine then_normal ?_
               exact ⟨l_61, r193.1, r193.2, H, hst.keep _ ⟨rfl, rfl, rfl, rfl, rfl, rfl, rfl, rfl, rfl, trivial⟩, hsh.pick [0]⟩
         · refine wq_seq ?_
           refine wq_region_lit (.inl rfl) ?_
           refine r_t hst trivial rfl (x_move hst rfl) ?_; intro a hst
           refine r_t hst trivial rfl (x_notB hst rfl) ?_; intro a hst
           refine wpL_nil ?_
           refine then_normal ?_
           by_cases c255 : (!b_32) = true
           · rw [if_pos c255] at H
             refine wq_condT hst rfl c255 ?_
             refine wq_seq ?_
             refine wq_region_lit (.inl rfl) ?_
             refine r_t hst trivial rfl (x_move hst rfl) ?_; intro a hst
             refine r_t hst trivial rfl (x_move hst rfl) ?_; intro a hst
             refine r_t hst trivial rfl (x_move hst rfl) ?_; intro a hst
             replace hsh := hsh.pick [0]
             obtain ⟨GG258, hsp, hG, hbx, hfx, hk⟩ := SH.callD (L1 := [Row Kd.str 9 va0 l_28]) (L2 := []) hsh
             obtain ⟨r256, hr256, H⟩ := Option.bind_eq_some_iff.1 H
             refine r_callD hst trivial rfl fn_36 rfl (slices_breakPatternsOrdered_string.calls k_60 _ GG258 _ l_28 i_29 i_30 hsp r256 hr256) ?_
             rintro e w257 ⟨rfl, hc⟩
             replace hsh := hk _ _ hc
             clear hc
             refine ⟨_, rfl, fun a hst => ?_⟩
             refine wpL_nil ?_
             refine then_normal ?_
             refine wq_region_lit (.inl rfl) ?_
             refine r_t hst trivial rfl (x_move hst rfl) ?_; intro a hst
             refine r_t hst trivial rfl (x_arI (r := w64 (i_31 - 1)) hst rfl rfl rfl) ?_; intro a hst
             refine r_t hst trivial rfl (x_assign hst rfl) ?_; intro a hst
             refine wpL_nil ?_
             refine then_normal ?_
             exact ⟨r256, (w64 (i_31 - 1)), H, hst.keep _ ⟨rfl, rfl, rfl, rfl, rfl, rfl, rfl, trivial⟩, hsh.pick [0]⟩
           · rw [if_neg c255] at H
             replace c255 := Bool.eq_false_iff.2 c255
             refine wq_condF hst rfl c255 ?_
             refine wq_skip ?_
             refine then_normal ?_
             exact ⟨l_28, i_31, H, hst.keep _ ⟨rfl, rfl, rfl, rfl, rfl, rfl, rfl, trivial⟩, hsh.pick [0]⟩

set_option maxHeartbeats 4000000 in
set_option maxRecDepth 100000 in
theorem slices_Sort_string.calls (k : Nat) (w : World) (GG : Nat → Prop) (va0 : Value) (a0 : (List ByteArray)) (hsep : Sep GG w [Row Kd.str 9 va0 a0]) (r : (List ByteArray)) (h : slices_Sort_string k a0 = some r) :
    Calls Try.prog 27 ([va0] : List Value).toArray w fun e w' => e = .returned (.tuple #[]) ∧ SH GG w w' [Row Kd.str 9 va0 r] := by
 have H := h
 clear h
 unfold slices_Sort_string at H
 refine calls_enter Try.func27 rfl rfl ?_
 intro a hst
 have hsh := SH.start hsep
 refine wq_seq ?_
 refine wq_region_lit (.inl rfl) ?_
 refine r_t hst trivial rfl (x_move hst rfl) ?_; intro a hst
 refine r_t hst trivial rfl (x_lenSl hst Try.underlying57 rfl (hsh.row 0 rfl).slen) ?_; intro a hst
 refine r_t hst trivial rfl (x_assign hst rfl) ?_; intro a hst
 refine wpL_nil ?_
 refine then_normal ?_
 refine wq_region_lit (.inl rfl) ?_
 refine r_t hst trivial rfl (x_move hst rfl) ?_; intro a hst
 refine r_t hst trivial rfl (x_move hst rfl) ?_; intro a hst
 refine r_t hst trivial rfl (x_move hst rfl) ?_; intro a hst
 refine r_t hst trivial rfl (x_convI hst Try.underlying3 Try.underlying67 rfl) ?_; intro a hst
 obtain ⟨r1, hr1, H⟩ := Option.bind_eq_some_iff.1 H
 refine r_callD hst trivial rfl fn_32 rfl (math_bits_Len.calls _ (wu64 (a0.length : Int)) r1 hr1) ?_
 rintro e w2 ⟨rfl, hc⟩
 replace hsh := hsh.call0 hc
 clear hc
 refine ⟨_, rfl, fun a hst => ?_⟩
 replace hsh := hsh.pick [0]
 obtain ⟨GG5, hsp, hG, hbx, hfx, hk⟩ := SH.callD (L1 := [Row Kd.str 9 va0 a0]) (L2 := []) hsh
 obtain ⟨r3, hr3, H⟩ := Option.bind_eq_some_iff.1 H
 refine r_callD hst trivial rfl fn_31 rfl (slices_pdqsortOrdered_string.calls k _ GG5 _ a0 0 (a0.length : Int) r1 hsp r3 hr3) ?_
 rintro e w4 ⟨rfl, hc⟩
 replace hsh := hk _ _ hc
 clear hc
 refine ⟨_, rfl, fun a hst => ?_⟩
 refine wpL_nil ?_
 obtain rfl := Option.some.inj H
 exact end0 hst rfl ⟨rfl, hsh.pick [0]⟩

set_option maxHeartbeats 4000000 in
set_option maxRecDepth 100000 in
theorem slices_Compact_string.calls (k : Nat) (w : World) (GG : Nat → Prop) (va0 : Value) (a0 : (List ByteArray)) (hsep : Sep GG w [Row Kd.str 9 va0 a0]) (r : (List ByteArray)) (h : slices_Compact_string k a0 = some r) :
    Calls Try.prog 28 ([va0] : List Value).toArray w fun e w' => ∃ v0_ : Value, e = .returned (v0_) ∧ SH GG w w' [Row Kd.str 9 v0_ r] := by
 have H := h
 clear h
 unfold slices_Compact_string at H
 refine calls_enter Try.func28 rfl rfl ?_
 intro a hst
 have hsh := SH.start hsep
 refine wq_seq ?_
 refine wq_region_lit (.inl rfl) ?_
 refine r_t hst trivial rfl (x_assign hst rfl) ?_; intro a hst
 refine wpL_nil ?_
 refine then_normal ?_
 refine wq_seq ?_
 refine wq_seq ?_
 refine wq_region_lit (.inl rfl) ?_
 refine r_t hst trivial rfl (x_move hst rfl) ?_; intro a hst
 refine r_t hst trivial rfl (x_lenSl hst Try.underlying57 rfl (hsh.row 0 rfl).slen) ?_; intro a hst
 refine r_t hst trivial rfl (x_cmpI (b := decide ((a0.length : Int) < 2)) hst rfl rfl rfl) ?_; intro a hst
 refine wpL_nil ?_
 refine then_normal ?_
 by_cases c2 : (decide ((a0.length : Int) < 2)) = true
 · rw [if_pos c2] at H
   refine wq_condT hst rfl c2 ?_
   refine wq_seq ?_
   refine wq_region_lit (.inl rfl) ?_
   refine r_t hst trivial rfl (x_move hst rfl) ?_; intro a hst
   refine r_t hst trivial rfl (x_assign hst rfl) ?_; intro a hst
   refine wpL_nil ?_
   refine then_normal ?_
   refine wq_ret ?_
   refine then_ret ?_
   obtain rfl := Option.some.inj H
   exact ret1 hst rfl rfl ⟨va0, rfl, hsh.pick [0]⟩
 · rw [if_neg c2] at H
   replace c2 := Bool.eq_false_iff.2 c2
   refine wq_condF hst rfl c2 ?_
   refine wq_skip ?_
   refine then_normal ?_
   refine wq_seq ?_
   refine wq_seq ?_
   refine wq_region_lit (.inl rfl) ?_
   refine r_t hst trivial rfl (x_assign hst rfl) ?_; intro a hst
   refine wpL_nil ?_
   refine then_normal ?_
   refine wq_block ?_
   refine wq_loop_fuel (fun k_586 a w' => ∃ (i_468 : Int), slices_Compact_string.l0 a0 k_586 i_468 = some r ∧ ST [] Try.f28.ntmps a [(0, va0), (2, (.slice none 0 0)), (3, .int .i64 i_468)] ∧ SH GG w w' [Row Kd.str 9 va0 a0]) k ?_ ?_
   · exact ⟨1, H, hst.keep _ ⟨rfl, rfl, rfl, trivial⟩, hsh.pick [0]⟩
   · rintro k_586 a W_469 ⟨i_468, H, hst, hsh⟩
     cases k_586 with
     | zero => rw [slices_Compact_string.l0] at H; cases H
     | succ k_586 =>
      rw [slices_Compact_string.l0] at H
      refine wq_seq ?_
      refine wq_seq ?_
      refine wq_region_lit (.inl rfl) ?_
      refine r_t hst trivial rfl (x_move hst rfl) ?_; intro a hst
      refine r_t hst trivial rfl (x_move hst rfl) ?_; intro a hst
      refine r_t hst trivial rfl (x_lenSl hst Try.underlying57 rfl (hsh.row 0 rfl).slen) ?_; intro a hst
      refine r_t hst trivial rfl (x_cmpI (b := decide (i_468 < (a0.length : Int))) hst rfl rfl rfl) ?_; intro a hst
      refine wpL_nil ?_
      refine then_normal ?_
      by_cases c1294 : (decide (i_468 < (a0.length : Int))) = true
      · rw [if_pos c1294] at H
        refine wq_condT hst rfl c1294 ?_
        refine wq_skip ?_
        refine then_normal ?_
        obtain ⟨J_644, hJ_644, H⟩ := Jn.elim H
        refine wq_cut (fun a w' => J_644 = some r ∧ ST [] Try.f28.ntmps a [(0, va0), (2, (.slice none 0 0)), (3, .int .i64 i_468)] ∧ SH GG w w' [Row Kd.str 9 va0 a0]) ?_ ?_
        · rintro a W_643 ⟨H, hst, hsh⟩
          subst hJ_644
          refine wq_region_lit (.inl rfl) ?_
          refine r_t hst trivial rfl (x_move hst rfl) ?_; intro a hst
          refine r_t hst trivial rfl (x_arI (r := w64 (i_468 + 1)) hst rfl rfl rfl) ?_; intro a hst
          refine r_t hst trivial rfl (x_assign hst rfl) ?_; intro a hst
          refine wpL_nil ?_
          refine then_normal ?_
          exact ⟨k_586, Nat.lt_succ_self _, (w64 (i_468 + 1)), H, hst.keep _ ⟨rfl, rfl, rfl, trivial⟩, hsh.pick [0]⟩
        · refine wq_block ?_
          refine wq_seq ?_
          refine wq_region_q (.inl rfl) (fun w' => SH GG w w' [Row Kd.str 9 va0 a0]) (shut_sh _ _ _) hsh.drew fo (by kernel_rfl) ?_
          refine q_t hst trivial rfl (fun _ hsh => x_move hst rfl) ?_; intro a hst
          refine q_t hst trivial rfl (fun _ hsh => x_move hst rfl) ?_; intro a hst
          obtain ⟨x1423, hx1423, H⟩ := Option.bind_eq_some_iff.1 H
          refine q_t hst trivial rfl (fun _ hsh => x_indexAddr hst Try.underlying57 el_9 rfl rfl (hsh.row 0 rfl) hx1423) ?_; intro a hst
          refine q_t hst trivial rfl (fun _ hsh => x_loadEF (j := 0) (cs := [.string x1423]) hst sc_9 rfl (hsh.row 0 rfl) (Same.refl _ _) hx1423 rfl (fun _ h => h) rfl) ?_; intro a hst
          refine q_t hst trivial rfl (fun _ hsh => x_move hst rfl) ?_; intro a hst
          refine q_t hst trivial rfl (fun _ hsh => x_move hst rfl) ?_; intro a hst
          refine q_t hst trivial rfl (fun _ hsh => x_arI (r := w64 (i_468 - 1)) hst rfl rfl rfl) ?_; intro a hst
          obtain ⟨x1424, hx1424, H⟩ := Option.bind_eq_some_iff.1 H
          refine q_t hst trivial rfl (fun _ hsh => x_indexAddr hst Try.underlying57 el_9 rfl rfl (hsh.row 0 rfl) hx1424) ?_; intro a hst
          refine q_t hst trivial rfl (fun _ hsh => x_loadEF (j := 0) (cs := [.string x1424]) hst sc_9 rfl (hsh.row 0 rfl) (Same.refl _ _) hx1424 rfl (fun _ h => h) rfl) ?_; intro a hst
          refine q_t hst trivial rfl (fun _ hsh => x_cmpS (b := sEq x1423 x1424) hst rfl rfl rfl) ?_; intro a hst
          refine q_nil ?_
          intro w1425 hsh
          refine then_normal ?_
          by_cases c1426 : (sEq x1423 x1424) = true
          · rw [if_pos c1426] at H
            refine wq_condT hst rfl c1426 ?_
            refine wq_seq ?_
            refine wq_region_lit (.inl rfl) ?_
            refine r_t hst trivial rfl (x_move hst rfl) ?_; intro a hst
            refine r_t hst trivial rfl (x_move hst rfl) ?_; intro a hst
            obtain ⟨l1427, hl1427, H⟩ := Option.bind_eq_some_iff.1 H
            refine r_t hst trivial rfl (x_cutL hst Try.underlying57 el_9 rfl rfl (hsh.row 0 rfl) hl1427) ?_; intro a hst
            refine r_t hst trivial rfl (x_assign hst rfl) ?_; intro a hst
            refine wpL_nil ?_
            refine then_normal ?_
            obtain ⟨J_674, hJ_674, H⟩ := Jn.elim H
            refine wq_cut (fun a w' => ∃ (l_671 : (List ByteArray)), ∃ (i_672 : Int), J_674 l_671 i_672 = some r ∧ ST [] Try.f28.ntmps a [(0, va0), (2, (.slice none 0 0)), (3, .int .i64 i_672)] ∧ SH GG w w' [Row Kd.str 9 va0 l_671]) ?_ ?_
            · rintro a W_673 ⟨l_671, i_672, H, hst, hsh⟩
              subst hJ_674
              dsimp only at H
              refine wq_seq ?_
              refine wq_region_lit (.inl rfl) ?_
              refine r_t hst trivial rfl (x_move hst rfl) ?_; intro a hst
              refine r_t hst trivial rfl (x_move hst rfl) ?_; intro a hst
              obtain ⟨l1488, hl1488, H⟩ := Option.bind_eq_some_iff.1 H
              refine r_t hst trivial rfl (x_cutL hst Try.underlying57 el_9 rfl rfl (hsh.row 0 rfl) hl1488) ?_; intro a hst
              refine r_clear (i := 0) (z := (ByteArray.mk #[])) (zc := [.string (ByteArray.mk #[])]) hst hsh trivial Try.underlying57 el_9 zr_9 (by decide) rfl (fun _ _ => rfl) rfl hl1488 ?_; intro a w1489 hsh hst
              refine wpL_nil ?_
              refine then_normal ?_
              refine wq_seq ?_
              refine wq_region_lit (.inl rfl) ?_
              refine r_t hst trivial rfl (x_move hst rfl) ?_; intro a hst
              refine r_t hst trivial rfl (x_move hst rfl) ?_; intro a hst
              obtain ⟨l1490, hl1490, H⟩ := Option.bind_eq_some_iff.1 H
              refine r_t hst trivial rfl (x_cutH hst Try.underlying57 el_9 rfl rfl (hsh.row 0 rfl) hl1490) ?_; intro a hst
              refine r_t hst trivial rfl (x_assign hst rfl) ?_; intro a hst
              refine wpL_nil ?_
              refine then_normal ?_
              refine wq_ret ?_
              refine block_ret ?_
              refine then_ret ?_
              refine then_ret ?_
              refine block_ret ?_
              refine then_ret ?_
              obtain rfl := Option.some.inj H
              replace hsh := hsh.cutRow 0 rfl hl1490
              exact ret1 hst rfl rfl ⟨(cutV va0 (Int.toNat 0) (Int.toNat i_672) Kd.str.sz), rfl, hsh.pick [0]⟩
            · refine wq_seq ?_
              refine wq_region_lit (.inl rfl) ?_
              refine r_t hst trivial rfl (x_assign hst rfl) ?_; intro a hst
              refine wpL_nil ?_
              refine then_normal ?_
              refine wq_block ?_
              refine wq_loop_fuel (fun k_696 a w' => ∃ (l_684 : (List ByteArray)), ∃ (i_685 : Int), ∃ (i_686 : Int), slices_Compact_string.l1 a0 i_468 J_674 k_696 l_684 i_685 i_686 = some r ∧ ST [] Try.f28.ntmps a [(0, va0), (2, (.slice none 0 0)), (3, .int .i64 i_685), (4, (cutV va0 (Int.toNat i_468) (Int.toNat (a0.length : Int)) Kd.str.sz)), (5, .int .i64 i_686)] ∧ SH GG w w' [Row Kd.str 9 va0 l_684]) k_586 ?_ ?_
              · exact ⟨a0, i_468, 1, H, hst.keep _ ⟨rfl, rfl, rfl, rfl, rfl, trivial⟩, hsh.pick [0]⟩
              · rintro k_696 a W_687 ⟨l_684, i_685, i_686, H, hst, hsh⟩
                cases k_696 with
                | zero => rw [slices_Compact_string.l1] at H; cases H
                | succ k_696 =>
                 rw [slices_Compact_string.l1] at H
                 refine wq_seq ?_
                 refine wq_seq ?_
                 refine wq_region_lit (.inl rfl) ?_
                 refine r_t hst trivial rfl (x_move hst rfl) ?_; intro a hst
                 refine r_t hst trivial rfl (x_move hst rfl) ?_; intro a hst
                 obtain ⟨l1533, hl1533, H⟩ := Option.bind_eq_some_iff.1 H
                 refine r_t hst trivial rfl (x_lenSl hst Try.underlying57 rfl ((hsh.row 0 rfl).cut (by decide) hl1533).slen) ?_; intro a hst
                 refine r_t hst trivial rfl (x_cmpI (b := decide (i_686 < (l1533.length : Int))) hst rfl rfl rfl) ?_; intro a hst
                 refine wpL_nil ?_
                 refine then_normal ?_
                 by_cases c1534 : (decide (i_686 < (l1533.length : Int))) = true
                 · rw [if_pos c1534] at H
                   refine wq_condT hst rfl c1534 ?_
                   refine wq_skip ?_
                   refine then_normal ?_
                   obtain ⟨J_700, hJ_700, H⟩ := Jn.elim H
                   refine wq_cut (fun a w' => ∃ (l_697 : (List ByteArray)), ∃ (i_698 : Int), J_700 l_697 i_698 = some r ∧ ST [] Try.f28.ntmps a [(0, va0), (2, (.slice none 0 0)), (3, .int .i64 i_698), (4, (cutV va0 (Int.toNat i_468) (Int.toNat (a0.length : Int)) Kd.str.sz)), (5, .int .i64 i_686)] ∧ SH GG w w' [Row Kd.str 9 va0 l_697]) ?_ ?_
                   · rintro a W_699 ⟨l_697, i_698, H, hst, hsh⟩
                     subst hJ_700
                     dsimp only at H
                     refine wq_region_lit (.inl rfl) ?_
                     refine r_t hst trivial rfl (x_move hst rfl) ?_; intro a hst
                     refine r_t hst trivial rfl (x_arI (r := w64 (i_686 + 1)) hst rfl rfl rfl) ?_; intro a hst
                     refine r_t hst trivial rfl (x_assign hst rfl) ?_; intro a hst
                     refine wpL_nil ?_
                     refine then_normal ?_
                     exact ⟨k_696, Nat.lt_succ_self _, l_697, i_698, (w64 (i_686 + 1)), H, hst.keep _ ⟨rfl, rfl, rfl, rfl, rfl, trivial⟩, hsh.pick [0]⟩
                   · refine wq_block ?_
                     refine wq_seq ?_
                     refine wq_region_q (.inl rfl) (fun w' => SH GG w w' [Row Kd.str 9 va0 l_684]) (shut_sh _ _ _) hsh.drew fo (by kernel_rfl) ?_
                     refine q_t hst trivial rfl (fun _ hsh => x_move hst rfl) ?_; intro a hst
                     refine q_t hst trivial rfl (fun _ hsh => x_move hst rfl) ?_; intro a hst
                     obtain ⟨x1543, hx1543, H⟩ := Option.bind_eq_some_iff.1 H
                     refine q_t hst trivial rfl (fun _ hsh => x_indexAddr hst Try.underlying57 el_9 rfl rfl ((hsh.row 0 rfl).cut (by decide) hl1533) hx1543) ?_; intro a hst
                     refine q_t hst trivial rfl (fun _ hsh => x_loadEF (j := 0) (cs := [.string x1543]) hst sc_9 rfl ((hsh.row 0 rfl).cut (by decide) hl1533) (Same.refl _ _) hx1543 rfl (fun _ h => h) rfl) ?_; intro a hst
                     refine q_t hst trivial rfl (fun _ hsh => x_move hst rfl) ?_; intro a hst
                     refine q_t hst trivial rfl (fun _ hsh => x_move hst rfl) ?_; intro a hst
                     refine q_t hst trivial rfl (fun _ hsh => x_arI (r := w64 (i_686 - 1)) hst rfl rfl rfl) ?_; intro a hst
                     obtain ⟨x1544, hx1544, H⟩ := Option.bind_eq_some_iff.1 H
                     refine q_t hst trivial rfl (fun _ hsh => x_indexAddr hst Try.underlying57 el_9 rfl rfl ((hsh.row 0 rfl).cut (by decide) hl1533) hx1544) ?_; intro a hst
                     refine q_t hst trivial rfl (fun _ hsh => x_loadEF (j := 0) (cs := [.string x1544]) hst sc_9 rfl ((hsh.row 0 rfl).cut (by decide) hl1533) (Same.refl _ _) hx1544 rfl (fun _ h => h) rfl) ?_; intro a hst
                     refine q_t hst trivial rfl (fun _ hsh => x_cmpS (b := (!sEq x1543 x1544)) hst rfl rfl rfl) ?_; intro a hst
                     refine q_nil ?_
                     intro w1545 hsh
                     refine then_normal ?_
                     by_cases c1546 : (!sEq x1543 x1544) = true
                     · rw [if_pos c1546] at H
                       refine wq_condT hst rfl c1546 ?_
                       refine wq_seq ?_
                       refine wq_region_lit (.inl rfl) ?_
                       refine r_t hst trivial rfl (x_move hst rfl) ?_; intro a hst
                       refine r_t hst trivial rfl (x_move hst rfl) ?_; intro a hst
                       refine r_t hst trivial rfl (x_move hst rfl) ?_; intro a hst
                       refine r_t hst trivial rfl (x_move hst rfl) ?_; intro a hst
                       obtain ⟨x1547, hx1547, H⟩ := Option.bind_eq_some_iff.1 H
                       refine r_t hst trivial rfl (x_indexAddr hst Try.underlying57 el_9 rfl rfl ((hsh.row 0 rfl).cut (by decide) hl1533) hx1547) ?_; intro a hst
                       refine r_t hst trivial rfl (x_loadEF (j := 0) (cs := [.string x1547]) hst sc_9 rfl ((hsh.row 0 rfl).cut (by decide) hl1533) (Same.refl _ _) hx1547 rfl (fun _ h => h) rfl) ?_; intro a hst
                       obtain ⟨x1548, hx1548, H⟩ := Option.bind_eq_some_iff.1 H
                       refine r_t hst trivial rfl (x_indexAddr hst Try.underlying57 el_9 rfl rfl (hsh.row 0 rfl) hx1548) ?_; intro a hst
                       obtain ⟨l1549, hl1549, H⟩ := Option.bind_eq_some_iff.1 H
                       refine r_storeE (i := 0) (off := 0) (new := x1547) (cs' := [.string x1547]) hst hsh trivial sc_9 rfl rfl rfl hx1548 rfl (Nat.le_of_ble_eq_true rfl) rfl (fun _ _ _ h => by rw [h]; rfl) (fun _ _ => rfl) ?_; intro a w1550 hsh hst
                       rw [← upd_some hl1549] at hsh
                       refine wpL_nil ?_
                       refine then_normal ?_
                       refine wq_region_lit (.inl rfl) ?_
                       refine r_t hst trivial rfl (x_move hst rfl) ?_; intro a hst
                       refine r_t hst trivial rfl (x_arI (r := w64 (i_685 + 1)) hst rfl rfl rfl) ?_; intro a hst
                       refine r_t hst trivial rfl (x_assign hst rfl) ?_; intro a hst
                       refine wpL_nil ?_
                       refine block_normal ?_
                       refine then_normal ?_
                       exact ⟨l1549, (w64 (i_685 + 1)), H, hst.keep _ ⟨rfl, rfl, rfl, rfl, rfl, trivial⟩, hsh.pick [0]⟩
                     · rw [if_neg c1546] at H
                       replace c1546 := Bool.eq_false_iff.2 c1546
                       refine wq_condF hst rfl c1546 ?_
                       refine wq_skip ?_
                       refine block_normal ?_
                       refine then_normal ?_
                       exact ⟨l_684, i_685, H, hst.keep _ ⟨rfl, rfl, rfl, rfl, rfl, trivial⟩, hsh.pick [0]⟩
                 · rw [if_neg c1534] at H
                   replace c1534 := Bool.eq_false_iff.2 c1534
                   refine wq_condF hst rfl c1534 ?_
                   refine wq_exit ?_
                   refine then_exit ?_
                   refine then_exit ?_
                   refine block_hit ?_
                   refine then_normal ?_
                   exact ⟨l_684, i_685, H, hst.keep _ ⟨rfl, rfl, rfl, trivial⟩, hsh.pick [0]⟩
          · rw [if_neg c1426] at H
            replace c1426 := Bool.eq_false_iff.2 c1426
            refine wq_condF hst rfl c1426 ?_
            refine wq_skip ?_
            refine block_normal ?_
            refine then_normal ?_
            exact ⟨H, hst.keep _ ⟨rfl, rfl, rfl, trivial⟩, hsh.pick [0]⟩
      · rw [if_neg c1294] at H
        replace c1294 := Bool.eq_false_iff.2 c1294
        refine wq_condF hst rfl c1294 ?_
        refine wq_exit ?_
        refine then_exit ?_
        refine then_exit ?_
        refine block_hit ?_
        refine then_normal ?_
        refine wq_seq ?_
        refine wq_region_lit (.inl rfl) ?_
        refine r_t hst trivial rfl (x_move hst rfl) ?_; intro a hst
        refine r_t hst trivial rfl (x_assign hst rfl) ?_; intro a hst
        refine wpL_nil ?_
        refine then_normal ?_
        refine wq_ret ?_
        obtain rfl := Option.some.inj H
        exact ret1 hst rfl rfl ⟨va0, rfl, hsh.pick [0]⟩

set_option maxHeartbeats 4000000 in
set_option maxRecDepth 100000 in
theorem tomb_unlike_string.calls (k : Nat) (w : World) (GG : Nat → Prop) (va0 : Value) (a0 : (List ByteArray)) (hsep : Sep GG w [Row Kd.str 9 va0 a0]) (r : (List ByteArray)) (h : tomb_unlike_string k a0 = some r) :
    Calls Try.prog 20 ([va0] : List Value).toArray w fun e w' => ∃ v0_ : Value, e = .returned (v0_) ∧ SH GG w w' [Row Kd.str 9 v0_ r] := by
 have H := h
 clear h
 unfold tomb_unlike_string at H
 refine calls_enter Try.func20 rfl rfl ?_
 intro a hst
 have hsh := SH.start hsep
 refine wq_seq ?_
 refine wq_region_lit (.inl rfl) ?_
 refine r_t hst trivial rfl (x_assign hst rfl) ?_; intro a hst
 refine wpL_nil ?_
 refine then_normal ?_
 refine wq_seq ?_
 refine wq_region_lit (.inl rfl) ?_
 refine r_t hst trivial rfl (x_move hst rfl) ?_; intro a hst
 replace hsh := hsh.pick [0]
 obtain ⟨GG3, hsp, hG, hbx, hfx, hk⟩ := SH.callD (L1 := [Row Kd.str 9 va0 a0]) (L2 := []) hsh
 obtain ⟨r1, hr1, H⟩ := Option.bind_eq_some_iff.1 H
 refine r_callD hst trivial rfl fn_27 rfl (slices_Sort_string.calls k _ GG3 _ a0 hsp r1 hr1) ?_
 rintro e w2 ⟨rfl, hc⟩
 replace hsh := hk _ _ hc
 clear hc
 refine ⟨_, rfl, fun a hst => ?_⟩
 refine wpL_nil ?_
 refine then_normal ?_
 refine wq_seq ?_
 refine wq_region_lit (.inl rfl) ?_
 refine r_t hst trivial rfl (x_move hst rfl) ?_; intro a hst
 replace hsh := hsh.pick [0]
 obtain ⟨GG6, hsp, hG, hbx, hfx, hk⟩ := SH.callD (L1 := [Row Kd.str 9 va0 r1]) (L2 := []) hsh
 obtain ⟨r4, hr4, H⟩ := Option.bind_eq_some_iff.1 H
 refine r_callD hst trivial rfl fn_28 rfl (slices_Compact_string.calls k _ GG6 _ r1 hsp r4 hr4) ?_
 rintro e w5 ⟨v7, rfl, hc⟩
 replace hsh := hk _ _ hc
 clear hc
 refine ⟨_, rfl, fun a hst => ?_⟩
 refine r_t hst trivial rfl (x_assign hst rfl) ?_; intro a hst
 refine wpL_nil ?_
 refine then_normal ?_
 refine wq_ret ?_
 obtain rfl := Option.some.inj H
 exact ret1 hst rfl rfl ⟨v7, rfl, hsh.pick [0]⟩

set_option maxHeartbeats 4000000 in
set_option maxRecDepth 100000 in
theorem cmp_isNaN_uint64.calls (w : World) (a0 : Int) (r : Bool) (h : cmp_isNaN_uint64 a0 = some r) :
    Calls Try.prog 63 ([.int .u64 a0] : List Value).toArray w fun e w' => e = .returned (.bool r) ∧ SH (fun _ => False) w w' [] := by
 have H := h
 clear h
 unfold cmp_isNaN_uint64 at H
 refine calls_enter Try.func63 rfl rfl ?_
 intro a hst
 have hsh := SH.zero (fun _ => False) w
 refine wq_seq ?_
 refine wq_region_lit (.inl rfl) ?_
 refine r_t hst trivial rfl (x_assign hst rfl) ?_; intro a hst
 refine wpL_nil ?_
 refine then_normal ?_
 refine wq_seq ?_
 refine wq_region_lit (.inl rfl) ?_
 refine r_t hst trivial rfl (x_move hst rfl) ?_; intro a hst
 refine r_t hst trivial rfl (x_move hst rfl) ?_; intro a hst
 refine r_t hst trivial rfl (x_cmpI (b := (a0 != a0)) hst rfl rfl rfl) ?_; intro a hst
 refine r_t hst trivial rfl (x_assign hst rfl) ?_; intro a hst
 refine wpL_nil ?_
 refine then_normal ?_
 refine wq_ret ?_
 obtain rfl := Option.some.inj H
 exact ret1 hst rfl rfl ⟨rfl, hsh.pick []⟩

set_option maxHeartbeats 4000000 in
set_option maxRecDepth 100000 in
theorem cmp_Less_uint64.calls (w : World) (a0 : Int) (a1 : Int) (r : Bool) (h : cmp_Less_uint64 a0 a1 = some r) :
    Calls Try.prog 51 ([.int .u64 a0, .int .u64 a1] : List Value).toArray w fun e w' => e = .returned (.bool r) ∧ SH (fun _ => False) w w' [] := by
 have H := h
 clear h
 unfold cmp_Less_uint64 at H
 refine calls_enter Try.func51 rfl rfl ?_
 intro a hst
 have hsh := SH.zero (fun _ => False) w
 refine wq_seq ?_
 refine wq_region_lit (.inl rfl) ?_
 refine r_t hst trivial rfl (x_assign hst rfl) ?_; intro a hst
 refine wpL_nil ?_
 refine then_normal ?_
 refine wq_seq ?_
 refine wq_region_lit (.inl rfl) ?_
 refine r_t hst trivial rfl (x_move hst rfl) ?_; intro a hst
 obtain ⟨r1, hr1, H⟩ := Option.bind_eq_some_iff.1 H
 refine r_callD hst trivial rfl fn_63 rfl (cmp_isNaN_uint64.calls _ a0 r1 hr1) ?_
 rintro e w2 ⟨rfl, hc⟩
 replace hsh := hsh.call0 hc
 clear hc
 refine ⟨_, rfl, fun a hst => ?_⟩
 refine r_t hst trivial rfl (x_move hst rfl) ?_; intro a hst
 obtain ⟨J_2, hJ_2, H⟩ := Jn.elim H
 refine wl_join 7 (fun a w' => ∃ (b_1 : Bool), J_2 b_1 = some r ∧ ST [] Try.f51.ntmps a [(0, .int .u64 a0), (1, .int .u64 a1), (4, .bool false), (11, .bool b_1)] ∧ SH (fun _ => False) w w' []) ?_ ?_
 · rintro a W_3 ⟨b_1, H, hst, hsh⟩
   subst hJ_2
   dsimp only at H
   refine r_t hst trivial rfl (x_move hst rfl) ?_; intro a hst
   refine wl_join0 (Δ := []) (N := Try.f51.ntmps) 12 [(4, .bool false), (16, .bool (b_1 || (decide (a0 < a1))))] ?_ ?_
   · intro a hst
     refine r_t hst trivial rfl (x_assign hst rfl) ?_; intro a hst
     refine wpL_nil ?_
     refine then_normal ?_
     refine wq_ret ?_
     obtain rfl := Option.some.inj H
     exact ret1 hst rfl rfl ⟨rfl, hsh.pick []⟩
   · intro hj
     by_cases c6 : b_1 = true
     · refine r_not hst 12 rfl rfl c6 rfl ?_; intro a hst
       refine r_not hst 12 rfl rfl c6 rfl ?_; intro a hst
       refine r_not hst 12 rfl rfl c6 rfl ?_; intro a hst
       refine r_t hst trivial rfl (x_orT (decide (a0 < a1)) hst rfl c6 rfl) ?_; intro a hst
       exact hj _ (hst.keep _ ⟨rfl, rfl, trivial⟩)
     · replace c6 := Bool.eq_false_iff.2 c6
       refine r_t hst (wt_of 12 rfl rfl c6) rfl (x_move hst rfl) ?_; intro a hst
       refine r_t hst (wt_of 12 rfl rfl c6) rfl (x_move hst rfl) ?_; intro a hst
       refine r_t hst (wt_of 12 rfl rfl c6) rfl (x_cmpI (b := decide (a0 < a1)) hst rfl rfl rfl) ?_; intro a hst
       refine r_t hst trivial rfl (x_orF hst rfl c6 rfl) ?_; intro a hst
       exact hj _ (hst.keep _ ⟨rfl, rfl, trivial⟩)
 · intro hj
   by_cases c3 : r1 = true
   · rw [if_pos c3] at H
     refine r_t hst (wt_of 7 rfl rfl c3) rfl (x_move hst rfl) ?_; intro a hst
     obtain ⟨r7, hr7, H⟩ := Option.bind_eq_some_iff.1 H
     refine r_callD hst (wt_of 7 rfl rfl c3) rfl fn_63 rfl (cmp_isNaN_uint64.calls _ a1 r7 hr7) ?_
     rintro e w8 ⟨rfl, hc⟩
     replace hsh := hsh.call0 hc
     clear hc
     refine ⟨_, rfl, fun a hst => ?_⟩
     refine r_t hst (wt_of 7 rfl rfl c3) rfl (x_notB hst rfl) ?_; intro a hst
     refine r_t hst trivial rfl (x_pickT hst rfl c3 rfl) ?_; intro a hst
     exact hj _ _ ⟨(!r7), H, hst.keep _ ⟨rfl, rfl, rfl, rfl, trivial⟩, hsh.pick []⟩
   · rw [if_neg c3] at H
     replace c3 := Bool.eq_false_iff.2 c3
     refine r_not hst 7 rfl rfl c3 rfl ?_; intro a hst
     refine r_not hst 7 rfl rfl c3 rfl ?_; intro a hst
     refine r_not hst 7 rfl rfl c3 rfl ?_; intro a hst
     refine r_t hst trivial rfl (x_pickF hst rfl c3 rfl) ?_; intro a hst
     exact hj _ _ ⟨false, H, hst.keep _ ⟨rfl, rfl, rfl, rfl, trivial⟩, hsh.pick []⟩

set_option maxHeartbeats 4000000 in
set_option maxRecDepth 100000 in
theorem slices_insertionSortOrdered_uint64.calls (k : Nat) (w : World) (GG : Nat → Prop) (va0 : Value) (a0 : (List Int)) (a1 : Int) (a2 : Int) (hsep : Sep GG w [Row (Kd.int .u64) 23 va0 a0]) (r : (List Int)) (h : slices_insertionSortOrdered_uint64 k a0 a1 a2 = some r) :
    Calls Try.prog 45 ([va0, .int .i64 a1, .int .i64 a2] : List Value).toArray w fun e w' => e = .returned (.tuple #[]) ∧ SH GG w w' [Row (Kd.int .u64) 23 va0 r] := by
 have H := h
 clear h
 unfold slices_insertionSortOrdered_uint64 at H
 refine calls_enter Try.func45 rfl rfl ?_
 intro a hst
 have hsh := SH.start hsep
 refine wq_seq ?_
 refine wq_region_lit (.inl rfl) ?_
 refine r_t hst trivial rfl (x_move hst rfl) ?_; intro a hst
 refine r_t hst trivial rfl (x_arI (r := w64 (a1 + 1)) hst rfl rfl rfl) ?_; intro a hst
 refine r_t hst trivial rfl (x_assign hst rfl) ?_; intro a hst
 refine wpL_nil ?_
 refine then_normal ?_
 refine wq_block ?_
 refine wq_loop_fuel (fun k_134 a w' => ∃ (l_67 : (List Int)), ∃ (i_68 : Int), slices_insertionSortOrdered_uint64.l0 a1 a2 k_134 l_67 i_68 = some r ∧ ST [] Try.f45.ntmps a [(0, va0), (1, .int .i64 a1), (2, .int .i64 a2), (6, .int .i64 i_68)] ∧ SH GG w w' [Row (Kd.int .u64) 23 va0 l_67]) k ?_ ?_
 · exact ⟨a0, (w64 (a1 + 1)), H, hst.keep _ ⟨rfl, rfl, rfl, rfl, trivial⟩, hsh.pick [0]⟩
 · rintro k_134 a W_69 ⟨l_67, i_68, H, hst, hsh⟩
   cases k_134 with
   | zero => rw [slices_insertionSortOrdered_uint64.l0] at H; cases H
   | succ k_134 =>
    rw [slices_insertionSortOrdered_uint64.l0] at H
    refine wq_seq ?_
    refine wq_seq ?_
    refine wq_region_lit (.inl rfl) ?_
    refine r_t hst trivial rfl (x_move hst rfl) ?_; intro a hst
    refine r_t hst trivial rfl (x_move hst rfl) ?_; intro a hst
    refine r_t hst trivial rfl (x_cmpI (b := decide (i_68 < a2)) hst rfl rfl rfl) ?_; intro a hst
    refine wpL_nil ?_
    refine then_normal ?_
    by_cases c534 : (decide (i_68 < a2)) = true
    · rw [if_pos c534] at H
      refine wq_condT hst rfl c534 ?_
      refine wq_skip ?_
      refine then_normal ?_
      obtain ⟨J_166, hJ_166, H⟩ := Jn.elim H
      refine wq_cut (fun a w' => ∃ (l_164 : (List Int)), J_166 l_164 = some r ∧ ST [] Try.f45.ntmps a [(0, va0), (1, .int .i64 a1), (2, .int .i64 a2), (6, .int .i64 i_68)] ∧ SH GG w w' [Row (Kd.int .u64) 23 va0 l_164]) ?_ ?_
      · rintro a W_165 ⟨l_164, H, hst, hsh⟩
        subst hJ_166
        dsimp only at H
        refine wq_region_lit (.inl rfl) ?_
        refine r_t hst trivial rfl (x_move hst rfl) ?_; intro a hst
        refine r_t hst trivial rfl (x_arI (r := w64 (i_68 + 1)) hst rfl rfl rfl) ?_; intro a hst
        refine r_t hst trivial rfl (x_assign hst rfl) ?_; intro a hst
        refine wpL_nil ?_
        refine then_normal ?_
        exact ⟨k_134, Nat.lt_succ_self _, l_164, (w64 (i_68 + 1)), H, hst.keep _ ⟨rfl, rfl, rfl, rfl, trivial⟩, hsh.pick [0]⟩
      · refine wq_block ?_
        refine wq_seq ?_
        refine wq_region_lit (.inl rfl) ?_
        refine r_t hst trivial rfl (x_move hst rfl) ?_; intro a hst
        refine r_t hst trivial rfl (x_assign hst rfl) ?_; intro a hst
        refine wpL_nil ?_
        refine then_normal ?_
        refine wq_block ?_
        refine wq_loop_fuel (fun k_189 a w' => ∃ (l_177 : (List Int)), ∃ (i_178 : Int), slices_insertionSortOrdered_uint64.l1 a1 J_166 k_189 l_177 i_178 = some r ∧ ST [] Try.f45.ntmps a [(0, va0), (1, .int .i64 a1), (2, .int .i64 a2), (6, .int .i64 i_68), (7, .int .i64 i_178)] ∧ SH GG w w' [Row (Kd.int .u64) 23 va0 l_177]) k_134 ?_ ?_
        · exact ⟨l_67, i_68, H, hst.keep _ ⟨rfl, rfl, rfl, rfl, rfl, trivial⟩, hsh.pick [0]⟩
        · rintro k_189 a W_179 ⟨l_177, i_178, H, hst, hsh⟩
          cases k_189 with
          | zero => rw [slices_insertionSortOrdered_uint64.l1] at H; cases H
          | succ k_189 =>
           rw [slices_insertionSortOrdered_uint64.l1] at H
           refine wq_seq ?_
           refine wq_seq ?_
           refine wq_region_q (.inl rfl) (fun w' => SH GG w w' [Row (Kd.int .u64) 23 va0 l_177]) (shut_sh _ _ _) hsh.drew fo (by kernel_rfl) ?_
           refine q_t hst trivial rfl (fun _ hsh => x_move hst rfl) ?_; intro a hst
           refine q_t hst trivial rfl (fun _ hsh => x_move hst rfl) ?_; intro a hst
           refine q_t hst trivial rfl (fun _ hsh => x_cmpI (b := decide (a1 < i_178)) hst rfl rfl rfl) ?_; intro a hst
           refine q_t hst trivial rfl (fun _ hsh => x_move hst rfl) ?_; intro a hst
           obtain ⟨J_194, hJ_194, H⟩ := Jn.elim H
           refine q_join 15 (fun a => ∃ (b_193 : Bool), J_194 b_193 = some r ∧ ST [] Try.f45.ntmps a [(0, va0), (1, .int .i64 a1), (2, .int .i64 a2), (6, .int .i64 i_68), (7, .int .i64 i_178), (30, .bool b_193)]) ?_ ?_
           · rintro a ⟨b_193, H, hst⟩
             subst hJ_194
             dsimp only at H
             refine q_nil ?_
             intro w771 hsh
             refine then_normal ?_
             by_cases c772 : b_193 = true
             · rw [if_pos c772] at H
               refine wq_condT hst rfl c772 ?_
               refine wq_skip ?_
               refine then_normal ?_
               refine wq_seq ?_
               refine wq_block ?_
               have hw783_0 := hsh.row 0 rfl
               refine wq_region_t (.inl rfl) (.fin [(3, 0), (3, 1), (3, 2), (3, 3), (3, 4), (3, 5), (3, 6), (3, 7), (3, 8), (0, 9), (3, 10), (3, 11), (3, 12), (0, 13), (3, 14), (2, 15), (0, 16), (2, 17)]) (fun w' => SH GG w w' [Row (Kd.int .u64) 23 va0 l_177]) (fun w' => SH GG w w' [Row (Kd.int .u64) 23 va0 l_177]) (shut_sh _ _ _) (shut_sh _ _ _) (sub_sh [0] rfl) hsh.drew fo (by kernel_rfl) ?_
               refine t_fin ?_
               refine m_p hst trivial rfl (fun _ => x_move hst rfl) ?_; intro a hst
               refine m_p hst trivial rfl (fun _ => x_move hst rfl) ?_; intro a hst
               refine m_p hst trivial rfl (fun _ => x_move hst rfl) ?_; intro a hst
               refine m_p hst trivial rfl (fun _ => x_move hst rfl) ?_; intro a hst
               refine m_p hst trivial rfl (fun _ => x_arI (r := w64 (i_178 - 1)) hst rfl rfl rfl) ?_; intro a hst
               refine m_p hst trivial rfl (fun _ => x_move hst rfl) ?_; intro a hst
               refine m_p hst trivial rfl (fun _ => x_move hst rfl) ?_; intro a hst
               refine m_p hst trivial rfl (fun _ => x_arI (r := w64 (i_178 - 1)) hst rfl rfl rfl) ?_; intro a hst
               obtain ⟨x784, hx784, H⟩ := Option.bind_eq_some_iff.1 H
               refine m_p hst trivial rfl (fun _ => x_indexAddr hst Try.underlying35 el_23 rfl rfl hw783_0 hx784) ?_; intro a hst
               refine m_t hst trivial rfl (fun _ hsh => x_loadEF (j := 0) (cs := [.int .u64 x784]) hst sc_23 rfl (hsh.row 0 rfl) (Same.refl _ _) hx784 rfl (fun _ h => h) rfl) ?_; intro a hst
               refine m_p hst trivial rfl (fun _ => x_move hst rfl) ?_; intro a hst
               refine m_p hst trivial rfl (fun _ => x_move hst rfl) ?_; intro a hst
               obtain ⟨x785, hx785, H⟩ := Option.bind_eq_some_iff.1 H
               refine m_p hst trivial rfl (fun _ => x_indexAddr hst Try.underlying35 el_23 rfl rfl hw783_0 hx785) ?_; intro a hst
               refine m_t hst trivial rfl (fun _ hsh => x_loadEF (j := 0) (cs := [.int .u64 x785]) hst sc_23 rfl (hsh.row 0 rfl) (Same.refl _ _) hx785 rfl (fun _ h => h) rfl) ?_; intro a hst
               obtain ⟨x786, hx786, H⟩ := Option.bind_eq_some_iff.1 H
               refine m_p hst trivial rfl (fun _ => x_indexAddr hst Try.underlying35 el_23 rfl rfl hw783_0 hx786) ?_; intro a hst
               refine m_loud (.inr rfl) ?_
               intro w787 hsh
               obtain ⟨l788, hl788, H⟩ := Option.bind_eq_some_iff.1 H
               refine r_storeE (i := 0) (off := 0) (new := x784) (cs' := [.int .u64 x784]) hst hsh trivial sc_23 rfl rfl rfl hx786 rfl (Nat.le_of_ble_eq_true rfl) rfl (fun _ _ _ h => by rw [h]; rfl) (fun _ _ => rfl) ?_; intro a w789 hsh hst
               rw [← upd_some hl788] at hsh
               refine m_turn hsh ?_
               obtain ⟨x790, hx790, H⟩ := Option.bind_eq_some_iff.1 H
               refine m_t hst trivial rfl (fun _ hsh => x_indexAddr hst Try.underlying35 el_23 rfl rfl (hsh.row 0 rfl) hx790) ?_; intro a hst
               refine m_loud (.inr rfl) ?_
               intro w791 hsh
               obtain ⟨l792, hl792, H⟩ := Option.bind_eq_some_iff.1 H
               refine r_storeE (i := 0) (off := 0) (new := x785) (cs' := [.int .u64 x785]) hst hsh trivial sc_23 rfl rfl rfl hx790 rfl (Nat.le_of_ble_eq_true rfl) rfl (fun _ _ _ h => by rw [h]; rfl) (fun _ _ => rfl) ?_; intro a w793 hsh hst
               rw [← upd_some hl792] at hsh
               refine m_turn hsh ?_
               refine m_nil ?_
               intro w794 hsh
               refine qn_normal ?_
               refine block_normal ?_
               refine then_normal ?_
               refine wq_region_lit (.inl rfl) ?_
               refine r_t hst trivial rfl (x_move hst rfl) ?_; intro a hst
               refine r_t hst trivial rfl (x_arI (r := w64 (i_178 - 1)) hst rfl rfl rfl) ?_; intro a hst
               refine r_t hst trivial rfl (x_assign hst rfl) ?_; intro a hst
               refine wpL_nil ?_
               refine then_normal ?_
               exact ⟨k_189, Nat.lt_succ_self _, l792, (w64 (i_178 - 1)), H, hst.keep _ ⟨rfl, rfl, rfl, rfl, rfl, trivial⟩, hsh.pick [0]⟩
             · rw [if_neg c772] at H
               replace c772 := Bool.eq_false_iff.2 c772
               refine wq_condF hst rfl c772 ?_
               refine wq_exit ?_
               refine then_exit ?_
               refine then_exit ?_
               refine block_hit ?_
               refine block_normal ?_
               refine then_normal ?_
               exact ⟨l_177, H, hst.keep _ ⟨rfl, rfl, rfl, rfl, trivial⟩, hsh.pick [0]⟩
           · intro hj
             by_cases c766 : (decide (a1 < i_178)) = true
             · rw [if_pos c766] at H
               refine q_t hst (wt_of 19 rfl rfl c766) rfl (fun _ hsh => x_move hst rfl) ?_; intro a hst
               refine q_t hst (wt_of 19 rfl rfl c766) rfl (fun _ hsh => x_move hst rfl) ?_; intro a hst
               obtain ⟨x795, hx795, H⟩ := Option.bind_eq_some_iff.1 H
               refine q_t hst (wt_of 19 rfl rfl c766) rfl (fun _ hsh => x_indexAddr hst Try.underlying35 el_23 rfl rfl (hsh.row 0 rfl) hx795) ?_; intro a hst
               refine q_t hst (wt_of 19 rfl rfl c766) rfl (fun _ hsh => x_loadEF (j := 0) (cs := [.int .u64 x795]) hst sc_23 rfl (hsh.row 0 rfl) (Same.refl _ _) hx795 rfl (fun _ h => h) rfl) ?_; intro a hst
               refine q_t hst (wt_of 19 rfl rfl c766) rfl (fun _ hsh => x_move hst rfl) ?_; intro a hst
               refine q_t hst (wt_of 19 rfl rfl c766) rfl (fun _ hsh => x_move hst rfl) ?_; intro a hst
               refine q_t hst (wt_of 19 rfl rfl c766) rfl (fun _ hsh => x_arI (r := w64 (i_178 - 1)) hst rfl rfl rfl) ?_; intro a hst
               obtain ⟨x796, hx796, H⟩ := Option.bind_eq_some_iff.1 H
               refine q_t hst (wt_of 19 rfl rfl c766) rfl (fun _ hsh => x_indexAddr hst Try.underlying35 el_23 rfl rfl (hsh.row 0 rfl) hx796) ?_; intro a hst
               refine q_t hst (wt_of 19 rfl rfl c766) rfl (fun _ hsh => x_loadEF (j := 0) (cs := [.int .u64 x796]) hst sc_23 rfl (hsh.row 0 rfl) (Same.refl _ _) hx796 rfl (fun _ h => h) rfl) ?_; intro a hst
               obtain ⟨r797, hr797, H⟩ := Option.bind_eq_some_iff.1 H
               refine q_call hst (wt_of 19 rfl rfl c766) rfl fn_51 rfl (fun w9 hsh => cmp_Less_uint64.calls _ x795 x796 r797 hr797) ?_; intro a hst
               refine q_t hst trivial rfl (fun _ hsh => x_pickT hst rfl c766 rfl) ?_; intro a hst
               exact hj _ ⟨r797, H, hst.keep _ ⟨rfl, rfl, rfl, rfl, rfl, rfl, trivial⟩⟩
             · rw [if_neg c766] at H
               replace c766 := Bool.eq_false_iff.2 c766
               refine q_not hst 19 rfl rfl c766 rfl ?_; intro a hst
               refine q_not hst 19 rfl rfl c766 rfl ?_; intro a hst
               refine q_not hst 19 rfl rfl c766 rfl ?_; intro a hst
               refine q_not hst 19 rfl rfl c766 rfl ?_; intro a hst
               refine q_not hst 19 rfl rfl c766 rfl ?_; intro a hst
               refine q_not hst 19 rfl rfl c766 rfl ?_; intro a hst
               refine q_not hst 19 rfl rfl c766 rfl ?_; intro a hst
               refine q_not hst 19 rfl rfl c766 rfl ?_; intro a hst
               refine q_not hst 19 rfl rfl c766 rfl ?_; intro a hst
               refine q_not hst 19 rfl rfl c766 rfl ?_; intro a hst
               refine q_t hst trivial rfl (fun _ hsh => x_pickF hst rfl c766 rfl) ?_; intro a hst
               exact hj _ ⟨false, H, hst.keep _ ⟨rfl, rfl, rfl, rfl, rfl, rfl, trivial⟩⟩
    · rw [if_neg c534] at H
      replace c534 := Bool.eq_false_iff.2 c534
      refine wq_condF hst rfl c534 ?_
      refine wq_exit ?_
      refine then_exit ?_
      refine then_exit ?_
      refine block_hit ?_
      obtain rfl := Option.some.inj H
      exact end0 hst rfl ⟨rfl, hsh.pick [0]⟩

set_option maxHeartbeats 4000000 in
set_option maxRecDepth 100000 in
theorem slices_siftDownOrdered_uint64.calls (k : Nat) (w : World) (GG : Nat → Prop) (va0 : Value) (a0 : (List Int)) (a1 : Int) (a2 : Int) (a3 : Int) (hsep : Sep GG w [Row (Kd.int .u64) 23 va0 a0]) (r : (List Int)) (h : slices_siftDownOrdered_uint64 k a0 a1 a2 a3 = some r) :
    Calls Try.prog 60 ([va0, .int .i64 a1, .int .i64 a2, .int .i64 a3] : List Value).toArray w fun e w' => e = .returned (.tuple #[]) ∧ SH GG w w' [Row (Kd.int .u64) 23 va0 r] := by
 have H := h
 clear h
 unfold slices_siftDownOrdered_uint64 at H
 refine calls_enter Try.func60 rfl rfl ?_
 intro a hst
 have hsh := SH.start hsep
 refine wq_seq ?_
 refine wq_region_lit (.inl rfl) ?_
 refine r_t hst trivial rfl (x_move hst rfl) ?_; intro a hst
 refine r_t hst trivial rfl (x_assign hst rfl) ?_; intro a hst
 refine wpL_nil ?_
 refine then_normal ?_
 refine wq_block ?_
 refine wq_loop_fuel (fun k_32 a w' => ∃ (l_16 : (List Int)), ∃ (i_17 : Int), slices_siftDownOrdered_uint64.l0 a2 a3 k_32 l_16 i_17 = some r ∧ ST [] Try.f60.ntmps a [(0, va0), (2, .int .i64 a2), (3, .int .i64 a3), (8, .int .i64 i_17)] ∧ SH GG w w' [Row (Kd.int .u64) 23 va0 l_16]) k ?_ ?_
 · exact ⟨a0, a1, H, hst.keep _ ⟨rfl, rfl, rfl, rfl, trivial⟩, hsh.pick [0]⟩
 · rintro k_32 a W_18 ⟨l_16, i_17, H, hst, hsh⟩
   cases k_32 with
   | zero => rw [slices_siftDownOrdered_uint64.l0] at H; cases H
   | succ k_32 =>
    rw [slices_siftDownOrdered_uint64.l0] at H
    refine wq_block ?_
    refine wq_seq ?_
    refine wq_region_lit (.inl rfl) ?_
    refine r_t hst trivial rfl (x_move hst rfl) ?_; intro a hst
    refine r_t hst trivial rfl (x_arI (r := w64 (2 * i_17)) hst rfl rfl rfl) ?_; intro a hst
    refine r_t hst trivial rfl (x_arI (r := w64 ((w64 (2 * i_17)) + 1)) hst rfl rfl rfl) ?_; intro a hst
    refine r_t hst trivial rfl (x_assign hst rfl) ?_; intro a hst
    refine wpL_nil ?_
    refine then_normal ?_
    refine wq_seq ?_
    refine wq_seq ?_
    refine wq_region_lit (.inl rfl) ?_
    refine r_t hst trivial rfl (x_move hst rfl) ?_; intro a hst
    refine r_t hst trivial rfl (x_move hst rfl) ?_; intro a hst
    refine r_t hst trivial rfl (x_cmpI (b := decide (a2 ≤ (w64 ((w64 (2 * i_17)) + 1)))) hst rfl rfl rfl) ?_; intro a hst
    refine wpL_nil ?_
    refine then_normal ?_
    by_cases c96 : (decide (a2 ≤ (w64 ((w64 (2 * i_17)) + 1)))) = true
    · rw [if_pos c96] at H
      refine wq_condT hst rfl c96 ?_
      refine wq_exit ?_
      refine then_exit ?_
      refine block_miss rfl ?_
      refine then_exit ?_
      refine block_hit ?_
      obtain rfl := Option.some.inj H
      exact end0 hst rfl ⟨rfl, hsh.pick [0]⟩
    · rw [if_neg c96] at H
      replace c96 := Bool.eq_false_iff.2 c96
      refine wq_condF hst rfl c96 ?_
      refine wq_skip ?_
      refine then_normal ?_
      obtain ⟨J_38, hJ_38, H⟩ := Jn.elim H
      refine wq_cut (fun a w' => ∃ (i_36 : Int), J_38 i_36 = some r ∧ ST [] Try.f60.ntmps a [(0, va0), (2, .int .i64 a2), (3, .int .i64 a3), (8, .int .i64 i_17), (9, .int .i64 i_36)] ∧ SH GG w w' [Row (Kd.int .u64) 23 va0 l_16]) ?_ ?_
      · rintro a W_37 ⟨i_36, H, hst, hsh⟩
        subst hJ_38
        dsimp only at H
        refine wq_seq ?_
        refine wq_seq ?_
        refine wq_region_q (.inl rfl) (fun w' => SH GG w w' [Row (Kd.int .u64) 23 va0 l_16]) (shut_sh _ _ _) hsh.drew fo (by kernel_rfl) ?_
        refine q_t hst trivial rfl (fun _ hsh => x_move hst rfl) ?_; intro a hst
        refine q_t hst trivial rfl (fun _ hsh => x_move hst rfl) ?_; intro a hst
        refine q_t hst trivial rfl (fun _ hsh => x_move hst rfl) ?_; intro a hst
        refine q_t hst trivial rfl (fun _ hsh => x_arI (r := w64 (a3 + i_17)) hst rfl rfl rfl) ?_; intro a hst
        obtain ⟨x114, hx114, H⟩ := Option.bind_eq_some_iff.1 H
        refine q_t hst trivial rfl (fun _ hsh => x_indexAddr hst Try.underlying35 el_23 rfl rfl (hsh.row 0 rfl) hx114) ?_; intro a hst
        refine q_t hst trivial rfl (fun _ hsh => x_loadEF (j := 0) (cs := [.int .u64 x114]) hst sc_23 rfl (hsh.row 0 rfl) (Same.refl _ _) hx114 rfl (fun _ h => h) rfl) ?_; intro a hst
        refine q_t hst trivial rfl (fun _ hsh => x_move hst rfl) ?_; intro a hst
        refine q_t hst trivial rfl (fun _ hsh => x_move hst rfl) ?_; intro a hst
        refine q_t hst trivial rfl (fun _ hsh => x_move hst rfl) ?_; intro a hst
        refine q_t hst trivial rfl (fun _ hsh => x_arI (r := w64 (a3 + i_36)) hst rfl rfl rfl) ?_; intro a hst
        obtain ⟨x115, hx115, H⟩ := Option.bind_eq_some_iff.1 H
        refine q_t hst trivial rfl (fun _ hsh => x_indexAddr hst Try.underlying35 el_23 rfl rfl (hsh.row 0 rfl) hx115) ?_; intro a hst
        refine q_t hst trivial rfl (fun _ hsh => x_loadEF (j := 0) (cs := [.int .u64 x115]) hst sc_23 rfl (hsh.row 0 rfl) (Same.refl _ _) hx115 rfl (fun _ h => h) rfl) ?_; intro a hst
        obtain ⟨r116, hr116, H⟩ := Option.bind_eq_some_iff.1 H
        refine q_call hst trivial rfl fn_51 rfl (fun w9 hsh => cmp_Less_uint64.calls _ x114 x115 r116 hr116) ?_; intro a hst
        refine q_t hst trivial rfl (fun _ hsh => x_notB hst rfl) ?_; intro a hst
        refine q_nil ?_
        intro w118 hsh
        refine then_normal ?_
        by_cases c119 : (!r116) = true
        · rw [if_pos c119] at H
          refine wq_condT hst rfl c119 ?_
          refine wq_ret ?_
          refine then_ret ?_
          refine block_ret ?_
          refine then_ret ?_
          refine block_ret ?_
          obtain rfl := Option.some.inj H
          exact ret0 hst rfl ⟨rfl, hsh.pick [0]⟩
        · rw [if_neg c119] at H
          replace c119 := Bool.eq_false_iff.2 c119
          refine wq_condF hst rfl c119 ?_
          refine wq_skip ?_
          refine then_normal ?_
          refine wq_seq ?_
          have hw119_0 := hsh.row 0 rfl
          refine wq_region_t (.inl rfl) (.fin [(3, 0), (3, 1), (3, 2), (3, 3), (3, 4), (3, 5), (3, 6), (3, 7), (3, 8), (3, 9), (3, 10), (3, 11), (3, 12), (0, 13), (3, 14), (3, 15), (3, 16), (3, 17), (3, 18), (0, 19), (3, 20), (2, 21), (0, 22), (2, 23)]) (fun w' => SH GG w w' [Row (Kd.int .u64) 23 va0 l_16]) (fun w' => SH GG w w' [Row (Kd.int .u64) 23 va0 l_16]) (shut_sh _ _ _) (shut_sh _ _ _) (sub_sh [0] rfl) hsh.drew fo (by kernel_rfl) ?_
          refine t_fin ?_
          refine m_p hst trivial rfl (fun _ => x_move hst rfl) ?_; intro a hst
          refine m_p hst trivial rfl (fun _ => x_move hst rfl) ?_; intro a hst
          refine m_p hst trivial rfl (fun _ => x_move hst rfl) ?_; intro a hst
          refine m_p hst trivial rfl (fun _ => x_arI (r := w64 (a3 + i_17)) hst rfl rfl rfl) ?_; intro a hst
          refine m_p hst trivial rfl (fun _ => x_move hst rfl) ?_; intro a hst
          refine m_p hst trivial rfl (fun _ => x_move hst rfl) ?_; intro a hst
          refine m_p hst trivial rfl (fun _ => x_move hst rfl) ?_; intro a hst
          refine m_p hst trivial rfl (fun _ => x_arI (r := w64 (a3 + i_36)) hst rfl rfl rfl) ?_; intro a hst
          refine m_p hst trivial rfl (fun _ => x_move hst rfl) ?_; intro a hst
          refine m_p hst trivial rfl (fun _ => x_move hst rfl) ?_; intro a hst
          refine m_p hst trivial rfl (fun _ => x_move hst rfl) ?_; intro a hst
          refine m_p hst trivial rfl (fun _ => x_arI (r := w64 (a3 + i_36)) hst rfl rfl rfl) ?_; intro a hst
          obtain ⟨x120, hx120, H⟩ := Option.bind_eq_some_iff.1 H
          refine m_p hst trivial rfl (fun _ => x_indexAddr hst Try.underlying35 el_23 rfl rfl hw119_0 hx120) ?_; intro a hst
          refine m_t hst trivial rfl (fun _ hsh => x_loadEF (j := 0) (cs := [.int .u64 x120]) hst sc_23 rfl (hsh.row 0 rfl) (Same.refl _ _) hx120 rfl (fun _ h => h) rfl) ?_; intro a hst
          refine m_p hst trivial rfl (fun _ => x_move hst rfl) ?_; intro a hst
          refine m_p hst trivial rfl (fun _ => x_move hst rfl) ?_; intro a hst
          refine m_p hst trivial rfl (fun _ => x_move hst rfl) ?_; intro a hst
          refine m_p hst trivial rfl (fun _ => x_arI (r := w64 (a3 + i_17)) hst rfl rfl rfl) ?_; intro a hst
          obtain ⟨x121, hx121, H⟩ := Option.bind_eq_some_iff.1 H
          refine m_p hst trivial rfl (fun _ => x_indexAddr hst Try.underlying35 el_23 rfl rfl hw119_0 hx121) ?_; intro a hst
          refine m_t hst trivial rfl (fun _ hsh => x_loadEF (j := 0) (cs := [.int .u64 x121]) hst sc_23 rfl (hsh.row 0 rfl) (Same.refl _ _) hx121 rfl (fun _ h => h) rfl) ?_; intro a hst
          obtain ⟨x122, hx122, H⟩ := Option.bind_eq_some_iff.1 H
          refine m_p hst trivial rfl (fun _ => x_indexAddr hst Try.underlying35 el_23 rfl rfl hw119_0 hx122) ?_; intro a hst
          refine m_loud (.inr rfl) ?_
          intro w123 hsh
          obtain ⟨l124, hl124, H⟩ := Option.bind_eq_some_iff.1 H
          refine r_storeE (i := 0) (off := 0) (new := x120) (cs' := [.int .u64 x120]) hst hsh trivial sc_23 rfl rfl rfl hx122 rfl (Nat.le_of_ble_eq_true rfl) rfl (fun _ _ _ h => by rw [h]; rfl) (fun _ _ => rfl) ?_; intro a w125 hsh hst
          rw [← upd_some hl124] at hsh
          refine m_turn hsh ?_
          obtain ⟨x126, hx126, H⟩ := Option.bind_eq_some_iff.1 H
          refine m_t hst trivial rfl (fun _ hsh => x_indexAddr hst Try.underlying35 el_23 rfl rfl (hsh.row 0 rfl) hx126) ?_; intro a hst
          refine m_loud (.inr rfl) ?_
          intro w127 hsh
          obtain ⟨l128, hl128, H⟩ := Option.bind_eq_some_iff.1 H
          refine r_storeE (i := 0) (off := 0) (new := x121) (cs' := [.int .u64 x121]) hst hsh trivial sc_23 rfl rfl rfl hx126 rfl (Nat.le_of_ble_eq_true rfl) rfl (fun _ _ _ h => by rw [h]; rfl) (fun _ _ => rfl) ?_; intro a w129 hsh hst
          rw [← upd_some hl128] at hsh
          refine m_turn hsh ?_
          refine m_nil ?_
          intro w130 hsh
          refine qn_normal ?_
          refine then_normal ?_
          refine wq_region_lit (.inl rfl) ?_
          refine r_t hst trivial rfl (x_move hst rfl) ?_; intro a hst
          refine r_t hst trivial rfl (x_assign hst rfl) ?_; intro a hst
          refine wpL_nil ?_
          refine block_normal ?_
          refine then_normal ?_
          exact ⟨k_32, Nat.lt_succ_self _, l128, i_36, H, hst.keep _ ⟨rfl, rfl, rfl, rfl, trivial⟩, hsh.pick [0]⟩
      · refine wq_seq ?_
        refine wq_region_q (.inl rfl) (fun w' => SH GG w w' [Row (Kd.int .u64) 23 va0 l_16]) (shut_sh _ _ _) hsh.drew fo (by kernel_rfl) ?_
        refine q_t hst trivial rfl (fun _ hsh => x_move hst rfl) ?_; intro a hst
        refine q_t hst trivial rfl (fun _ hsh => x_arI (r := w64 ((w64 ((w64 (2 * i_17)) + 1)) + 1)) hst rfl rfl rfl) ?_; intro a hst
        refine q_t hst trivial rfl (fun _ hsh => x_move hst rfl) ?_; intro a hst
        refine q_t hst trivial rfl (fun _ hsh => x_cmpI (b := decide ((w64 ((w64 ((w64 (2 * i_17)) + 1)) + 1)) < a2)) hst rfl rfl rfl) ?_; intro a hst
        refine q_t hst trivial rfl (fun _ hsh => x_move hst rfl) ?_; intro a hst
        obtain ⟨J_40, hJ_40, H⟩ := Jn.elim H
        refine q_join 20 (fun a => ∃ (b_39 : Bool), J_40 b_39 = some r ∧ ST [] Try.f60.ntmps a [(0, va0), (2, .int .i64 a2), (3, .int .i64 a3), (8, .int .i64 i_17), (9, .int .i64 (w64 ((w64 (2 * i_17)) + 1))), (36, .bool b_39)]) ?_ ?_
        · rintro a ⟨b_39, H, hst⟩
          subst hJ_40
          dsimp only at H
          refine q_nil ?_
          intro w136 hsh
          refine then_normal ?_
          by_cases c137 : b_39 = true
          · rw [if_pos c137] at H
            refine wq_condT hst rfl c137 ?_
            refine wq_region_lit (.inl rfl) ?_
            refine r_t hst trivial rfl (x_move hst rfl) ?_; intro a hst
            refine r_t hst trivial rfl (x_arI (r := w64 ((w64 ((w64 (2 * i_17)) + 1)) + 1)) hst rfl rfl rfl) ?_; intro a hst
            refine r_t hst trivial rfl (x_assign hst rfl) ?_; intro a hst
            refine wpL_nil ?_
            refine then_normal ?_
            exact ⟨(w64 ((w64 ((w64 (2 * i_17)) + 1)) + 1)), H, hst.keep _ ⟨rfl, rfl, rfl, rfl, rfl, trivial⟩, hsh.pick [0]⟩
          · rw [if_neg c137] at H
            replace c137 := Bool.eq_false_iff.2 c137
            refine wq_condF hst rfl c137 ?_
            refine wq_skip ?_
            refine then_normal ?_
            exact ⟨(w64 ((w64 (2 * i_17)) + 1)), H, hst.keep _ ⟨rfl, rfl, rfl, rfl, rfl, trivial⟩, hsh.pick [0]⟩
        · intro hj
          by_cases c131 : (decide ((w64 ((w64 ((w64 (2 * i_17)) + 1)) + 1)) < a2)) = true
          · rw [if_pos c131] at H
            refine q_t hst (wt_of 21 rfl rfl c131) rfl (fun _ hsh => x_move hst rfl) ?_; intro a hst
            refine q_t hst (wt_of 21 rfl rfl c131) rfl (fun _ hsh => x_move hst rfl) ?_; intro a hst
            refine q_t hst (wt_of 21 rfl rfl c131) rfl (fun _ hsh => x_move hst rfl) ?_; intro a hst
            refine q_t hst (wt_of 21 rfl rfl c131) rfl (fun _ hsh => x_arI (r := w64 (a3 + (w64 ((w64 (2 * i_17)) + 1)))) hst rfl rfl rfl) ?_; intro a hst
            obtain ⟨x138, hx138, H⟩ := Option.bind_eq_some_iff.1 H
            refine q_t hst (wt_of 21 rfl rfl c131) rfl (fun _ hsh => x_indexAddr hst Try.underlying35 el_23 rfl rfl (hsh.row 0 rfl) hx138) ?_; intro a hst
            refine q_t hst (wt_of 21 rfl rfl c131) rfl (fun _ hsh => x_loadEF (j := 0) (cs := [.int .u64 x138]) hst sc_23 rfl (hsh.row 0 rfl) (Same.refl _ _) hx138 rfl (fun _ h => h) rfl) ?_; intro a hst
            refine q_t hst (wt_of 21 rfl rfl c131) rfl (fun _ hsh => x_move hst rfl) ?_; intro a hst
            refine q_t hst (wt_of 21 rfl rfl c131) rfl (fun _ hsh => x_move hst rfl) ?_; intro a hst
            refine q_t hst (wt_of 21 rfl rfl c131) rfl (fun _ hsh => x_move hst rfl) ?_; intro a hst
            refine q_t hst (wt_of 21 rfl rfl c131) rfl (fun _ hsh => x_arI (r := w64 (a3 + (w64 ((w64 (2 * i_17)) + 1)))) hst rfl rfl rfl) ?_; intro a hst
            refine q_t hst (wt_of 21 rfl rfl c131) rfl (fun _ hsh => x_arI (r := w64 ((w64 (a3 + (w64 ((w64 (2 * i_17)) + 1)))) + 1)) hst rfl rfl rfl) ?_; intro a hst
            obtain ⟨x139, hx139, H⟩ := Option.bind_eq_some_iff.1 H
            refine q_t hst (wt_of 21 rfl rfl c131) rfl (fun _ hsh => x_indexAddr hst Try.underlying35 el_23 rfl rfl (hsh.row 0 rfl) hx139) ?_; intro a hst
            refine q_t hst (wt_of 21 rfl rfl c131) rfl (fun _ hsh => x_loadEF (j := 0) (cs := [.int .u64 x139]) hst sc_23 rfl (hsh.row 0 rfl) (Same.refl _ _) hx139 rfl (fun _ h => h) rfl) ?_; intro a hst
            obtain ⟨r140, hr140, H⟩ := Option.bind_eq_some_iff.1 H
            refine q_call hst (wt_of 21 rfl rfl c131) rfl fn_51 rfl (fun w9 hsh => cmp_Less_uint64.calls _ x138 x139 r140 hr140) ?_; intro a hst
            refine q_t hst trivial rfl (fun _ hsh => x_pickT hst rfl c131 rfl) ?_; intro a hst
            exact hj _ ⟨r140, H, hst.keep _ ⟨rfl, rfl, rfl, rfl, rfl, rfl, trivial⟩⟩
          · rw [if_neg c131] at H
            replace c131 := Bool.eq_false_iff.2 c131
            refine q_not hst 21 rfl rfl c131 rfl ?_; intro a hst
            refine q_not hst 21 rfl rfl c131 rfl ?_; intro a hst
            refine q_not hst 21 rfl rfl c131 rfl ?_; intro a hst
            refine q_not hst 21 rfl rfl c131 rfl ?_; intro a hst
            refine q_not hst 21 rfl rfl c131 rfl ?_; intro a hst
            refine q_not hst 21 rfl rfl c131 rfl ?_; intro a hst
            refine q_not hst 21 rfl rfl c131 rfl ?_; intro a hst
            refine q_not hst 21 rfl rfl c131 rfl ?_; intro a hst
            refine q_not hst 21 rfl rfl c131 rfl ?_; intro a hst
            refine q_not hst 21 rfl rfl c131 rfl ?_; intro a hst
            refine q_not hst 21 rfl rfl c131 rfl ?_; intro a hst
            refine q_not hst 21 rfl rfl c131 rfl ?_; intro a hst
            refine q_not hst 21 rfl rfl c131 rfl ?_; intro a hst
            refine q_not hst 21 rfl rfl c131 rfl ?_; intro a hst
            refine q_t hst trivial rfl (fun _ hsh => x_pickF hst rfl c131 rfl) ?_; intro a hst
            exact hj _ ⟨false, H, hst.keep _ ⟨rfl, rfl, rfl, rfl, rfl, rfl, trivial⟩⟩

set_option maxHeartbeats 4000000 in
set_option maxRecDepth 100000 in
theorem slices_heapSortOrdered_uint64.calls (k : Nat) (w : World) (GG : Nat → Prop) (va0 : Value) (a0 : (List Int)) (a1 : Int) (a2 : Int) (hsep : Sep GG w [Row (Kd.int .u64) 23 va0 a0]) (r : (List Int)) (h : slices_heapSortOrdered_uint64 k a0 a1 a2 = some r) :
    Calls Try.prog 46 ([va0, .int .i64 a1, .int .i64 a2] : List Value).toArray w fun e w' => e = .returned (.tuple #[]) ∧ SH GG w w' [Row (Kd.int .u64) 23 va0 r] := by
 have H := h
 clear h
 unfold slices_heapSortOrdered_uint64 at H
 refine calls_enter Try.func46 rfl rfl ?_
 intro a hst
 have hsh := SH.start hsep
 refine wq_seq ?_
 refine wq_region_lit (.inl rfl) ?_
 refine r_t hst trivial rfl (x_move hst rfl) ?_; intro a hst
 refine r_t hst trivial rfl (x_assign hst rfl) ?_; intro a hst
 refine wpL_nil ?_
 refine then_normal ?_
 refine wq_seq ?_
 refine wq_region_lit (.inl rfl) ?_
 refine r_t hst trivial rfl (x_assign hst rfl) ?_; intro a hst
 refine wpL_nil ?_
 refine then_normal ?_
 refine wq_seq ?_
 refine wq_region_lit (.inl rfl) ?_
 refine r_t hst trivial rfl (x_move hst rfl) ?_; intro a hst
 refine r_t hst trivial rfl (x_move hst rfl) ?_; intro a hst
 refine r_t hst trivial rfl (x_arI (r := w64 (a2 - a1)) hst rfl rfl rfl) ?_; intro a hst
 refine r_t hst trivial rfl (x_assign hst rfl) ?_; intro a hst
 refine wpL_nil ?_
 refine then_normal ?_
 refine wq_seq ?_
 refine wq_seq ?_
 refine wq_region_lit (.inl rfl) ?_
 refine r_t hst trivial rfl (x_move hst rfl) ?_; intro a hst
 refine r_t hst trivial rfl (x_arI (r := w64 ((w64 (a2 - a1)) - 1)) hst rfl rfl rfl) ?_; intro a hst
 refine r_t hst trivial rfl (x_quo hst rfl rfl (by decide)) ?_; intro a hst
 refine r_t hst trivial rfl (x_assign hst rfl) ?_; intro a hst
 refine wpL_nil ?_
 refine then_normal ?_
 refine wq_block ?_
 refine wq_loop_fuel (fun k_32 a w' => ∃ (l_24 : (List Int)), ∃ (i_25 : Int), ∃ (i_26 : Int), slices_heapSortOrdered_uint64.l0 a1 k_32 l_24 i_25 i_26 = some r ∧ ST [] Try.f46.ntmps a [(0, va0), (6, .int .i64 a1), (7, .int .i64 0), (8, .int .i64 i_25), (9, .int .i64 i_26)] ∧ SH GG w w' [Row (Kd.int .u64) 23 va0 l_24]) k ?_ ?_
 · exact ⟨a0, (w64 (a2 - a1)), (w64 (Int.tdiv (w64 ((w64 (a2 - a1)) - 1)) 2)), H, hst.keep _ ⟨rfl, rfl, rfl, rfl, rfl, trivial⟩, hsh.pick [0]⟩
 · rintro k_32 a W_27 ⟨l_24, i_25, i_26, H, hst, hsh⟩
   cases k_32 with
   | zero => rw [slices_heapSortOrdered_uint64.l0] at H; cases H
   | succ k_32 =>
    rw [slices_heapSortOrdered_uint64.l0] at H
    refine wq_seq ?_
    refine wq_seq ?_
    refine wq_region_lit (.inl rfl) ?_
    refine r_t hst trivial rfl (x_move hst rfl) ?_; intro a hst
    refine r_t hst trivial rfl (x_cmpI (b := decide (0 ≤ i_26)) hst rfl rfl rfl) ?_; intro a hst
    refine wpL_nil ?_
    refine then_normal ?_
    by_cases c42 : (decide (0 ≤ i_26)) = true
    · rw [if_pos c42] at H
      refine wq_condT hst rfl c42 ?_
      refine wq_skip ?_
      refine then_normal ?_
      refine wq_seq ?_
      refine wq_block ?_
      refine wq_region_lit (.inl rfl) ?_
      refine r_t hst trivial rfl (x_move hst rfl) ?_; intro a hst
      refine r_t hst trivial rfl (x_move hst rfl) ?_; intro a hst
      refine r_t hst trivial rfl (x_move hst rfl) ?_; intro a hst
      refine r_t hst trivial rfl (x_move hst rfl) ?_; intro a hst
      replace hsh := hsh.pick [0]
      obtain ⟨GG48, hsp, hG, hbx, hfx, hk⟩ := SH.callD (L1 := [Row (Kd.int .u64) 23 va0 l_24]) (L2 := []) hsh
      obtain ⟨r46, hr46, H⟩ := Option.bind_eq_some_iff.1 H
      refine r_callD hst trivial rfl fn_60 rfl (slices_siftDownOrdered_uint64.calls k_32 _ GG48 _ l_24 i_26 i_25 a1 hsp r46 hr46) ?_
      rintro e w47 ⟨rfl, hc⟩
      replace hsh := hk _ _ hc
      clear hc
      refine ⟨_, rfl, fun a hst => ?_⟩
      refine wpL_nil ?_
      refine block_normal ?_
      refine then_normal ?_
      refine wq_region_lit (.inl rfl) ?_
      refine r_t hst trivial rfl (x_move hst rfl) ?_; intro a hst
      refine r_t hst trivial rfl (x_arI (r := w64 (i_26 - 1)) hst rfl rfl rfl) ?_; intro a hst
      refine r_t hst trivial rfl (x_assign hst rfl) ?_; intro a hst
      refine wpL_nil ?_
      refine then_normal ?_
      exact ⟨k_32, Nat.lt_succ_self _, r46, i_25, (w64 (i_26 - 1)), H, hst.keep _ ⟨rfl, rfl, rfl, rfl, rfl, trivial⟩, hsh.pick [0]⟩
    · rw [if_neg c42] at H
      replace c42 := Bool.eq_false_iff.2 c42
      refine wq_condF hst rfl c42 ?_
      refine wq_exit ?_
      refine then_exit ?_
      refine then_exit ?_
      refine block_hit ?_
      refine then_normal ?_
      refine wq_seq ?_
      refine wq_region_lit (.inl rfl) ?_
      refine r_t hst trivial rfl (x_move hst rfl) ?_; intro a hst
      refine r_t hst trivial rfl (x_arI (r := w64 (i_25 - 1)) hst rfl rfl rfl) ?_; intro a hst
      refine r_t hst trivial rfl (x_assign hst rfl) ?_; intro a hst
      refine wpL_nil ?_
      refine then_normal ?_
      refine wq_block ?_
      refine wq_loop_fuel (fun k_44 a w' => ∃ (l_38 : (List Int)), ∃ (i_39 : Int), slices_heapSortOrdered_uint64.l1 a1 k_44 l_38 i_39 = some r ∧ ST [] Try.f46.ntmps a [(0, va0), (6, .int .i64 a1), (7, .int .i64 0), (10, .int .i64 i_39)] ∧ SH GG w w' [Row (Kd.int .u64) 23 va0 l_38]) k_32 ?_ ?_
      · exact ⟨l_24, (w64 (i_25 - 1)), H, hst.keep _ ⟨rfl, rfl, rfl, rfl, trivial⟩, hsh.pick [0]⟩
      · rintro k_44 a W_40 ⟨l_38, i_39, H, hst, hsh⟩
        cases k_44 with
        | zero => rw [slices_heapSortOrdered_uint64.l1] at H; cases H
        | succ k_44 =>
         rw [slices_heapSortOrdered_uint64.l1] at H
         refine wq_seq ?_
         refine wq_seq ?_
         refine wq_region_lit (.inl rfl) ?_
         refine r_t hst trivial rfl (x_move hst rfl) ?_; intro a hst
         refine r_t hst trivial rfl (x_cmpI (b := decide (0 ≤ i_39)) hst rfl rfl rfl) ?_; intro a hst
         refine wpL_nil ?_
         refine then_normal ?_
         by_cases c110 : (decide (0 ≤ i_39)) = true
         · rw [if_pos c110] at H
           refine wq_condT hst rfl c110 ?_
           refine wq_skip ?_
           refine then_normal ?_
           refine wq_seq ?_
           refine wq_block ?_
           refine wq_seq ?_
           have hw124_0 := hsh.row 0 rfl
           refine wq_region_t (.inl rfl) (.fin [(3, 0), (3, 1), (3, 2), (3, 3), (3, 4), (3, 5), (3, 6), (3, 7), (3, 8), (3, 9), (3, 10), (0, 11), (3, 12), (3, 13), (3, 14), (0, 15), (3, 16), (2, 17), (0, 18), (2, 19)]) (fun w' => SH GG w w' [Row (Kd.int .u64) 23 va0 l_38]) (fun w' => SH GG w w' [Row (Kd.int .u64) 23 va0 l_38]) (shut_sh _ _ _) (shut_sh _ _ _) (sub_sh [0] rfl) hsh.drew fo (by kernel_rfl) ?_
           refine t_fin ?_
           refine m_p hst trivial rfl (fun _ => x_move hst rfl) ?_; intro a hst
           refine m_p hst trivial rfl (fun _ => x_move hst rfl) ?_; intro a hst
           refine m_p hst trivial rfl (fun _ => x_move hst rfl) ?_; intro a hst
           refine m_p hst trivial rfl (fun _ => x_move hst rfl) ?_; intro a hst
           refine m_p hst trivial rfl (fun _ => x_move hst rfl) ?_; intro a hst
           refine m_p hst trivial rfl (fun _ => x_arI (r := w64 (a1 + i_39)) hst rfl rfl rfl) ?_; intro a hst
           refine m_p hst trivial rfl (fun _ => x_move hst rfl) ?_; intro a hst
           refine m_p hst trivial rfl (fun _ => x_move hst rfl) ?_; intro a hst
           refine m_p hst trivial rfl (fun _ => x_move hst rfl) ?_; intro a hst
           refine m_p hst trivial rfl (fun _ => x_arI (r := w64 (a1 + i_39)) hst rfl rfl rfl) ?_; intro a hst
           obtain ⟨x125, hx125, H⟩ := Option.bind_eq_some_iff.1 H
           refine m_p hst trivial rfl (fun _ => x_indexAddr hst Try.underlying35 el_23 rfl rfl hw124_0 hx125) ?_; intro a hst
           refine m_t hst trivial rfl (fun _ hsh => x_loadEF (j := 0) (cs := [.int .u64 x125]) hst sc_23 rfl (hsh.row 0 rfl) (Same.refl _ _) hx125 rfl (fun _ h => h) rfl) ?_; intro a hst
           refine m_p hst trivial rfl (fun _ => x_move hst rfl) ?_; intro a hst
           refine m_p hst trivial rfl (fun _ => x_move hst rfl) ?_; intro a hst
           obtain ⟨x126, hx126, H⟩ := Option.bind_eq_some_iff.1 H
           refine m_p hst trivial rfl (fun _ => x_indexAddr hst Try.underlying35 el_23 rfl rfl hw124_0 hx126) ?_; intro a hst
           refine m_t hst trivial rfl (fun _ hsh => x_loadEF (j := 0) (cs := [.int .u64 x126]) hst sc_23 rfl (hsh.row 0 rfl) (Same.refl _ _) hx126 rfl (fun _ h => h) rfl) ?_; intro a hst
           obtain ⟨x127, hx127, H⟩ := Option.bind_eq_some_iff.1 H
           refine m_p hst trivial rfl (fun _ => x_indexAddr hst Try.underlying35 el_23 rfl rfl hw124_0 hx127) ?_; intro a hst
           refine m_loud (.inr rfl) ?_
           intro w128 hsh
           obtain ⟨l129, hl129, H⟩ := Option.bind_eq_some_iff.1 H
           refine r_storeE (i := 0) (off := 0) (new := x125) (cs' := [.int .u64 x125]) hst hsh trivial sc_23 rfl rfl rfl hx127 rfl (Nat.le_of_ble_eq_true rfl) rfl (fun _ _ _ h => by rw [h]; rfl) (fun _ _ => rfl) ?_; intro a w130 hsh hst
           rw [← upd_some hl129] at hsh
           refine m_turn hsh ?_
           obtain ⟨x131, hx131, H⟩ := Option.bind_eq_some_iff.1 H
           refine m_t hst trivial rfl (fun _ hsh => x_indexAddr hst Try.underlying35 el_23 rfl rfl (hsh.row 0 rfl) hx131) ?_; intro a hst
           refine m_loud (.inr rfl) ?_
           intro w132 hsh
           obtain ⟨l133, hl133, H⟩ := Option.bind_eq_some_iff.1 H
           refine r_storeE (i := 0) (off := 0) (new := x126) (cs' := [.int .u64 x126]) hst hsh trivial sc_23 rfl rfl rfl hx131 rfl (Nat.le_of_ble_eq_true rfl) rfl (fun _ _ _ h => by rw [h]; rfl) (fun _ _ => rfl) ?_; intro a w134 hsh hst
           rw [← upd_some hl133] at hsh
           refine m_turn hsh ?_
           refine m_nil ?_
           intro w135 hsh
           refine qn_normal ?_
           refine then_normal ?_
           refine wq_region_lit (.inl rfl) ?_
           refine r_t hst trivial rfl (x_move hst rfl) ?_; intro a hst
           refine r_t hst trivial rfl (x_move hst rfl) ?_; intro a hst
           refine r_t hst trivial rfl (x_move hst rfl) ?_; intro a hst
           refine r_t hst trivial rfl (x_move hst rfl) ?_; intro a hst
           replace hsh := hsh.pick [0]
           obtain ⟨GG138, hsp, hG, hbx, hfx, hk⟩ := SH.callD (L1 := [Row (Kd.int .u64) 23 va0 l133]) (L2 := []) hsh
           obtain ⟨r136, hr136, H⟩ := Option.bind_eq_some_iff.1 H
           refine r_callD hst trivial rfl fn_60 rfl (slices_siftDownOrdered_uint64.calls k_44 _ GG138 _ l133 0 i_39 a1 hsp r136 hr136) ?_
           rintro e w137 ⟨rfl, hc⟩
           replace hsh := hk _ _ hc
           clear hc
           refine ⟨_, rfl, fun a hst => ?_⟩
           refine wpL_nil ?_
           refine block_normal ?_
           refine then_normal ?_
           refine wq_region_lit (.inl rfl) ?_
           refine r_t hst trivial rfl (x_move hst rfl) ?_; intro a hst
           refine r_t hst trivial rfl (x_arI (r := w64 (i_39 - 1)) hst rfl rfl rfl) ?_; intro a hst
           refine r_t hst trivial rfl (x_assign hst rfl) ?_; intro a hst
           refine wpL_nil ?_
           refine then_normal ?_
           exact ⟨k_44, Nat.lt_succ_self _, r136, (w64 (i_39 - 1)), H, hst.keep _ ⟨rfl, rfl, rfl, rfl, trivial⟩, hsh.pick [0]⟩
         · rw [if_neg c110] at H
           replace c110 := Bool.eq_false_iff.2 c110
           refine wq_condF hst rfl c110 ?_
           refine wq_exit ?_
           refine then_exit ?_
           refine then_exit ?_
           refine block_hit ?_
           obtain rfl := Option.some.inj H
           exact end0 hst rfl ⟨rfl, hsh.pick [0]⟩

set_option maxHeartbeats 4000000 in
set_option maxRecDepth 100000 in
theorem slices_breakPatternsOrdered_uint64.calls (k : Nat) (w : World) (GG : Nat → Prop) (va0 : Value) (a0 : (List Int)) (a1 : Int) (a2 : Int) (hsep : Sep GG w [Row (Kd.int .u64) 23 va0 a0]) (r : (List Int)) (h : slices_breakPatternsOrdered_uint64 k a0 a1 a2 = some r) :
    Calls Try.prog 47 ([va0, .int .i64 a1, .int .i64 a2] : List Value).toArray w fun e w' => e = .returned (.tuple #[]) ∧ SH GG w w' [Row (Kd.int .u64) 23 va0 r] := by
 have H := h
 clear h
 unfold slices_breakPatternsOrdered_uint64 at H
 refine calls_enter Try.func47 rfl rfl ?_
 intro a hst
 have hsh := SH.start hsep
 refine wq_seq ?_
 refine wq_region_lit (.inl rfl) ?_
 refine r_t hst trivial rfl (x_move hst rfl) ?_; intro a hst
 refine r_t hst trivial rfl (x_move hst rfl) ?_; intro a hst
 refine r_t hst trivial rfl (x_arI (r := w64 (a2 - a1)) hst rfl rfl rfl) ?_; intro a hst
 refine r_t hst trivial rfl (x_assign hst rfl) ?_; intro a hst
 refine wpL_nil ?_
 refine then_normal ?_
 refine wq_seq ?_
 refine wq_region_lit (.inl rfl) ?_
 refine r_t hst trivial rfl (x_move hst rfl) ?_; intro a hst
 refine r_t hst trivial rfl (x_cmpI (b := decide (8 ≤ (w64 (a2 - a1)))) hst rfl rfl rfl) ?_; intro a hst
 refine wpL_nil ?_
 refine then_normal ?_
 by_cases c1 : (decide (8 ≤ (w64 (a2 - a1)))) = true
 · rw [if_pos c1] at H
   refine wq_condT hst rfl c1 ?_
   refine wq_seq ?_
   refine wq_region_lit (.inl rfl) ?_
   refine r_t hst trivial rfl (x_move hst rfl) ?_; intro a hst
   refine r_t hst trivial rfl (x_convI hst Try.underlying3 Try.underlying87 rfl) ?_; intro a hst
   refine r_alloc hst hsh trivial rfl zr_87 ?_
   intro g2 a w3 hgg2 hsh hst
   refine r_storeB (i := 0) (cs' := [.int .u64 (wu64 (w64 (a2 - a1)))]) hst hsh trivial sc_87 rfl rfl rfl rfl rfl rfl ?_; intro a w4 hsh hst
   refine wpL_nil ?_
   refine then_normal ?_
   refine wq_seq ?_
   refine wq_region_lit (.inl rfl) ?_
   refine r_t hst trivial rfl (x_move hst rfl) ?_; intro a hst
   obtain ⟨r5, hr5, H⟩ := Option.bind_eq_some_iff.1 H
   refine r_callD hst trivial rfl fn_55 rfl (slices_nextPowerOfTwo.calls _ (w64 (a2 - a1)) r5 hr5) ?_
   rintro e w6 ⟨rfl, hc⟩
   replace hsh := hsh.call0 hc
   clear hc
   refine ⟨_, rfl, fun a hst => ?_⟩
   refine r_t hst trivial rfl (x_assign hst rfl) ?_; intro a hst
   refine wpL_nil ?_
   refine then_normal ?_
   refine wq_seq ?_
   refine wq_region_lit (.inl rfl) ?_
   refine r_t hst trivial rfl (x_move hst rfl) ?_; intro a hst
   refine r_t hst trivial rfl (x_move hst rfl) ?_; intro a hst
   refine r_t hst trivial rfl (x_quo hst rfl rfl (by decide)) ?_; intro a hst
   refine r_t hst trivial rfl (x_arI (r := w64 ((w64 (Int.tdiv (w64 (a2 - a1)) 4)) * 2)) hst rfl rfl rfl) ?_; intro a hst
   refine r_t hst trivial rfl (x_arI (r := w64 (a1 + (w64 ((w64 (Int.tdiv (w64 (a2 - a1)) 4)) * 2)))) hst rfl rfl rfl) ?_; intro a hst
   refine r_t hst trivial rfl (x_arI (r := w64 ((w64 (a1 + (w64 ((w64 (Int.tdiv (w64 (a2 - a1)) 4)) * 2)))) - 1)) hst rfl rfl rfl) ?_; intro a hst
   refine r_t hst trivial rfl (x_assign hst rfl) ?_; intro a hst
   refine wpL_nil ?_
   refine then_normal ?_
   refine wq_block ?_
   refine wq_loop_fuel (fun k_32 a w' => ∃ (l_16 : (List Int)), ∃ (i_17 : Int), ∃ (i_18 : Int), ∃ (i_19 : Int), slices_breakPatternsOrdered_uint64.l0 a1 r5 k_32 l_16 i_17 i_18 i_19 = some r ∧ ST [] Try.f47.ntmps a [(0, va0), (1, .int .i64 a1), (6, .int .i64 i_17), (7, .pointer (some ⟨g2, 0, none⟩)), (8, .int .u64 r5), (9, .int .i64 i_19)] ∧ SH GG w w' [Row (Kd.int .u64) 23 va0 l_16, Box g2 [.int .u64 i_18] 87]) k ?_ ?_
   · exact ⟨a0, (w64 (a2 - a1)), (wu64 (w64 (a2 - a1))), (w64 ((w64 (a1 + (w64 ((w64 (Int.tdiv (w64 (a2 - a1)) 4)) * 2)))) - 1)), H, hst.keep _ ⟨rfl, rfl, rfl, rfl, rfl, rfl, trivial⟩, hsh.pick [1, 0]⟩
   · rintro k_32 a W_20 ⟨l_16, i_17, i_18, i_19, H, hst, hsh⟩
     cases k_32 with
     | zero => rw [slices_breakPatternsOrdered_uint64.l0] at H; cases H
     | succ k_32 =>
      rw [slices_breakPatternsOrdered_uint64.l0] at H
      refine wq_seq ?_
      refine wq_seq ?_
      refine wq_region_lit (.inl rfl) ?_
      refine r_t hst trivial rfl (x_move hst rfl) ?_; intro a hst
      refine r_t hst trivial rfl (x_move hst rfl) ?_; intro a hst
      refine r_t hst trivial rfl (x_move hst rfl) ?_; intro a hst
      refine r_t hst trivial rfl (x_quo hst rfl rfl (by decide)) ?_; intro a hst
      refine r_t hst trivial rfl (x_arI (r := w64 ((w64 (Int.tdiv i_17 4)) * 2)) hst rfl rfl rfl) ?_; intro a hst
      refine r_t hst trivial rfl (x_arI (r := w64 (a1 + (w64 ((w64 (Int.tdiv i_17 4)) * 2)))) hst rfl rfl rfl) ?_; intro a hst
      refine r_t hst trivial rfl (x_arI (r := w64 ((w64 (a1 + (w64 ((w64 (Int.tdiv i_17 4)) * 2)))) + 1)) hst rfl rfl rfl) ?_; intro a hst
      refine r_t hst trivial rfl (x_cmpI (b := decide (i_19 ≤ (w64 ((w64 (a1 + (w64 ((w64 (Int.tdiv i_17 4)) * 2)))) + 1)))) hst rfl rfl rfl) ?_; intro a hst
      refine wpL_nil ?_
      refine then_normal ?_
      by_cases c76 : (decide (i_19 ≤ (w64 ((w64 (a1 + (w64 ((w64 (Int.tdiv i_17 4)) * 2)))) + 1)))) = true
      · rw [if_pos c76] at H
        refine wq_condT hst rfl c76 ?_
        refine wq_skip ?_
        refine then_normal ?_
        refine wq_seq ?_
        refine wq_block ?_
        refine wq_seq ?_
        refine wq_region_lit (.inl rfl) ?_
        replace hsh := hsh.pick [1, 0]
        obtain ⟨GG95, hsp, hG, hbx, hfx, hk⟩ := SH.callD (L1 := [Box g2 [.int .u64 i_18] 87]) (L2 := [Row (Kd.int .u64) 23 va0 l_16]) hsh
        obtain ⟨r93, hr93, H⟩ := Option.bind_eq_some_iff.1 H
        refine r_callD hst trivial rfl fn_56 rfl (slices_xorshift_Next.calls _ GG95 g2 i_18 hsp r93 hr93) ?_
        rintro e w94 ⟨rfl, hc⟩
        replace hsh := hk _ _ hc
        clear hc
        refine ⟨_, rfl, fun a hst => ?_⟩
        refine r_t hst trivial rfl (x_move hst rfl) ?_; intro a hst
        refine r_t hst trivial rfl (x_arI (r := wu64 (r5 - 1)) hst rfl rfl rfl) ?_; intro a hst
        refine r_t hst trivial rfl (x_arI (r := (bits .and .u64 r93.1 (wu64 (r5 - 1)))) hst rfl rfl rfl) ?_; intro a hst
        refine r_t hst trivial rfl (x_convI hst Try.underlying67 Try.underlying3 rfl) ?_; intro a hst
        refine r_t hst trivial rfl (x_assign hst rfl) ?_; intro a hst
        refine wpL_nil ?_
        refine then_normal ?_
        obtain ⟨J_38, hJ_38, H⟩ := Jn.elim H
        refine wq_cut (fun a w' => ∃ (i_36 : Int), J_38 i_36 = some r ∧ ST [] Try.f47.ntmps a [(0, va0), (1, .int .i64 a1), (6, .int .i64 i_17), (7, .pointer (some ⟨g2, 0, none⟩)), (8, .int .u64 r5), (9, .int .i64 i_19), (10, .int .i64 i_36)] ∧ SH GG w w' [Row (Kd.int .u64) 23 va0 l_16, Box g2 [.int .u64 r93.2] 87]) ?_ ?_
        · rintro a W_37 ⟨i_36, H, hst, hsh⟩
          subst hJ_38
          dsimp only at H
          have hw96_0 := hsh.row 0 rfl
          refine wq_region_t (.inl rfl) (.fin [(3, 0), (3, 1), (3, 2), (3, 3), (3, 4), (3, 5), (3, 6), (3, 7), (3, 8), (3, 9), (3, 10), (0, 11), (3, 12), (3, 13), (3, 14), (0, 15), (3, 16), (2, 17), (0, 18), (2, 19)]) (fun w' => SH GG w w' [Row (Kd.int .u64) 23 va0 l_16, Box g2 [.int .u64 r93.2] 87]) (fun w' => SH GG w w' [Row (Kd.int .u64) 23 va0 l_16, Box g2 [.int .u64 r93.2] 87]) (shut_sh _ _ _) (shut_sh _ _ _) (sub_sh [0, 0] rfl) hsh.drew fo (by kernel_rfl) ?_
          refine t_fin ?_
          refine m_p hst trivial rfl (fun _ => x_move hst rfl) ?_; intro a hst
          refine m_p hst trivial rfl (fun _ => x_move hst rfl) ?_; intro a hst
          refine m_p hst trivial rfl (fun _ => x_move hst rfl) ?_; intro a hst
          refine m_p hst trivial rfl (fun _ => x_move hst rfl) ?_; intro a hst
          refine m_p hst trivial rfl (fun _ => x_move hst rfl) ?_; intro a hst
          refine m_p hst trivial rfl (fun _ => x_arI (r := w64 (a1 + i_36)) hst rfl rfl rfl) ?_; intro a hst
          refine m_p hst trivial rfl (fun _ => x_move hst rfl) ?_; intro a hst
          refine m_p hst trivial rfl (fun _ => x_move hst rfl) ?_; intro a hst
          refine m_p hst trivial rfl (fun _ => x_move hst rfl) ?_; intro a hst
          refine m_p hst trivial rfl (fun _ => x_arI (r := w64 (a1 + i_36)) hst rfl rfl rfl) ?_; intro a hst
          obtain ⟨x97, hx97, H⟩ := Option.bind_eq_some_iff.1 H
          refine m_p hst trivial rfl (fun _ => x_indexAddr hst Try.underlying35 el_23 rfl rfl hw96_0 hx97) ?_; intro a hst
          refine m_t hst trivial rfl (fun _ hsh => x_loadEF (j := 0) (cs := [.int .u64 x97]) hst sc_23 rfl (hsh.row 0 rfl) (Same.refl _ _) hx97 rfl (fun _ h => h) rfl) ?_; intro a hst
          refine m_p hst trivial rfl (fun _ => x_move hst rfl) ?_; intro a hst
          refine m_p hst trivial rfl (fun _ => x_move hst rfl) ?_; intro a hst
          obtain ⟨x98, hx98, H⟩ := Option.bind_eq_some_iff.1 H
          refine m_p hst trivial rfl (fun _ => x_indexAddr hst Try.underlying35 el_23 rfl rfl hw96_0 hx98) ?_; intro a hst
          refine m_t hst trivial rfl (fun _ hsh => x_loadEF (j := 0) (cs := [.int .u64 x98]) hst sc_23 rfl (hsh.row 0 rfl) (Same.refl _ _) hx98 rfl (fun _ h => h) rfl) ?_; intro a hst
          obtain ⟨x99, hx99, H⟩ := Option.bind_eq_some_iff.1 H
          refine m_p hst trivial rfl (fun _ => x_indexAddr hst Try.underlying35 el_23 rfl rfl hw96_0 hx99) ?_; intro a hst
          refine m_loud (.inr rfl) ?_
          intro w100 hsh
          obtain ⟨l101, hl101, H⟩ := Option.bind_eq_some_iff.1 H
          refine r_storeE (i := 0) (off := 0) (new := x97) (cs' := [.int .u64 x97]) hst hsh trivial sc_23 rfl rfl rfl hx99 rfl (Nat.le_of_ble_eq_true rfl) rfl (fun _ _ _ h => by rw [h]; rfl) (fun _ _ => rfl) ?_; intro a w102 hsh hst
          rw [← upd_some hl101] at hsh
          refine m_turn hsh ?_
          obtain ⟨x103, hx103, H⟩ := Option.bind_eq_some_iff.1 H
          refine m_t hst trivial rfl (fun _ hsh => x_indexAddr hst Try.underlying35 el_23 rfl rfl (hsh.row 0 rfl) hx103) ?_; intro a hst
          refine m_loud (.inr rfl) ?_
          intro w104 hsh
          obtain ⟨l105, hl105, H⟩ := Option.bind_eq_some_iff.1 H
          refine r_storeE (i := 0) (off := 0) (new := x98) (cs' := [.int .u64 x98]) hst hsh trivial sc_23 rfl rfl rfl hx103 rfl (Nat.le_of_ble_eq_true rfl) rfl (fun _ _ _ h => by rw [h]; rfl) (fun _ _ => rfl) ?_; intro a w106 hsh hst
          rw [← upd_some hl105] at hsh
          refine m_turn hsh ?_
          refine m_nil ?_
          intro w107 hsh
          refine qn_normal ?_
          refine block_normal ?_
          refine then_normal ?_
          refine wq_region_lit (.inl rfl) ?_
          refine r_t hst trivial rfl (x_move hst rfl) ?_; intro a hst
          refine r_t hst trivial rfl (x_arI (r := w64 (i_19 + 1)) hst rfl rfl rfl) ?_; intro a hst
          refine r_t hst trivial rfl (x_assign hst rfl) ?_; intro a hst
          refine wpL_nil ?_
          refine then_normal ?_
          exact ⟨k_32, Nat.lt_succ_self _, l105, i_17, r93.2, (w64 (i_19 + 1)), H, hst.keep _ ⟨rfl, rfl, rfl, rfl, rfl, rfl, trivial⟩, hsh.pick [0, 0]⟩
        · refine wq_seq ?_
          refine wq_region_lit (.inl rfl) ?_
          refine r_t hst trivial rfl (x_move hst rfl) ?_; intro a hst
          refine r_t hst trivial rfl (x_move hst rfl) ?_; intro a hst
          refine r_t hst trivial rfl (x_cmpI (b := decide (i_17 ≤ (w64 (bits .and .u64 r93.1 (wu64 (r5 - 1)))))) hst rfl rfl rfl) ?_; intro a hst
          refine wpL_nil ?_
          refine then_normal ?_
          by_cases c108 : (decide (i_17 ≤ (w64 (bits .and .u64 r93.1 (wu64 (r5 - 1)))))) = true
          · rw [if_pos c108] at H
            refine wq_condT hst rfl c108 ?_
            refine wq_region_lit (.inl rfl) ?_
            refine r_t hst trivial rfl (x_move hst rfl) ?_; intro a hst
            refine r_t hst trivial rfl (x_move hst rfl) ?_; intro a hst
            refine r_t hst trivial rfl (x_arI (r := w64 ((w64 (bits .and .u64 r93.1 (wu64 (r5 - 1)))) - i_17)) hst rfl rfl rfl) ?_; intro a hst
            refine r_t hst trivial rfl (x_assign hst rfl) ?_; intro a hst
            refine wpL_nil ?_
            refine then_normal ?_
            exact ⟨(w64 ((w64 (bits .and .u64 r93.1 (wu64 (r5 - 1)))) - i_17)), H, hst.keep _ ⟨rfl, rfl, rfl, rfl, rfl, rfl, rfl, trivial⟩, hsh.pick [1, 0]⟩
          · rw [if_neg c108] at H
            replace c108 := Bool.eq_false_iff.2 c108
            refine wq_condF hst rfl c108 ?_
            refine wq_skip ?_
            refine then_normal ?_
            exact ⟨(w64 (bits .and .u64 r93.1 (wu64 (r5 - 1)))), H, hst.keep _ ⟨rfl, rfl, rfl, rfl, rfl, rfl, rfl, trivial⟩, hsh.pick [1, 0]⟩
      · rw [if_neg c76] at H
        replace c76 := Bool.eq_false_iff.2 c76
        refine wq_condF hst rfl c76 ?_
        refine wq_exit ?_
        refine then_exit ?_
        refine then_exit ?_
        refine block_hit ?_
        obtain rfl := Option.some.inj H
        exact end0 hst rfl ⟨rfl, hsh.pick [0]⟩
 · rw [if_neg c1] at H
   replace c1 := Bool.eq_false_iff.2 c1
   refine wq_condF hst rfl c1 ?_
   refine wq_skip ?_
   obtain rfl := Option.some.inj H
   exact end0 hst rfl ⟨rfl, hsh.pick [0]⟩

set_option maxHeartbeats 4000000 in
set_option maxRecDepth 100000 in
theorem slices_order2Ordered_uint64.calls (w : World) (GG : Nat → Prop) (va0 : Value) (Za0 : Nat → Prop) (wra0 : World) (hsa0 : Same Za0 wra0 w) (hda0 : ∀ k, Za0 k → k < wra0.heap.size → ¬ GG k) (a0 : (List Int)) (hra0 : RD (Kd.int .u64) Za0 wra0 va0 a0) (a1 : Int) (a2 : Int) (ga3 : Nat) (a3 : Int) (hsep : Sep GG w [Box ga3 [.int .i64 a3] 3]) (r : (Int × Int × Int)) (h : slices_order2Ordered_uint64 a0 a1 a2 a3 = some r) :
    Calls Try.prog 65 ([va0, .int .i64 a1, .int .i64 a2, .pointer (some ⟨ga3, 0, none⟩)] : List Value).toArray w fun e w' => e = .returned (.tuple #[.int .i64 r.1, .int .i64 r.2.1]) ∧ SH GG w w' [Box ga3 [.int .i64 r.2.2] 3] := by
 have H := h
 clear h
 unfold slices_order2Ordered_uint64 at H
 refine calls_enter Try.func65 rfl rfl ?_
 intro a hst
 have hsh := SH.start hsep
 refine wq_seq ?_
 refine wq_region_lit (.inl rfl) ?_
 refine r_t hst trivial rfl (x_assign hst rfl) ?_; intro a hst
 refine r_t hst trivial rfl (x_assign hst rfl) ?_; intro a hst
 refine wpL_nil ?_
 refine then_normal ?_
 refine wq_seq ?_
 refine wq_seq ?_
 refine wq_region_q (.inl rfl) (fun w' => SH GG w w' [Box ga3 [.int .i64 a3] 3]) (shut_sh _ _ _) hsh.drew fo (by kernel_rfl) ?_
 refine q_t hst trivial rfl (fun _ hsh => x_move hst rfl) ?_; intro a hst
 refine q_t hst trivial rfl (fun _ hsh => x_move hst rfl) ?_; intro a hst
 obtain ⟨x8, hx8, H⟩ := Option.bind_eq_some_iff.1 H
 refine q_t hst trivial rfl (fun _ hsh => x_indexAddr hst Try.underlying35 el_23 rfl rfl hra0 hx8) ?_; intro a hst
 refine q_t hst trivial rfl (fun _ hsh => x_loadEF (j := 0) (cs := [.int .u64 x8]) hst sc_23 rfl hra0 (Same.sh2 hsa0 hda0 hsh) hx8 rfl (fun _ h => h) rfl) ?_; intro a hst
 refine q_t hst trivial rfl (fun _ hsh => x_move hst rfl) ?_; intro a hst
 refine q_t hst trivial rfl (fun _ hsh => x_move hst rfl) ?_; intro a hst
 obtain ⟨x9, hx9, H⟩ := Option.bind_eq_some_iff.1 H
 refine q_t hst trivial rfl (fun _ hsh => x_indexAddr hst Try.underlying35 el_23 rfl rfl hra0 hx9) ?_; intro a hst
 refine q_t hst trivial rfl (fun _ hsh => x_loadEF (j := 0) (cs := [.int .u64 x9]) hst sc_23 rfl hra0 (Same.sh2 hsa0 hda0 hsh) hx9 rfl (fun _ h => h) rfl) ?_; intro a hst
 obtain ⟨r10, hr10, H⟩ := Option.bind_eq_some_iff.1 H
 refine q_call hst trivial rfl fn_51 rfl (fun w9 hsh => cmp_Less_uint64.calls _ x8 x9 r10 hr10) ?_; intro a hst
 refine q_nil ?_
 intro w12 hsh
 refine then_normal ?_
 by_cases c13 : r10 = true
 · rw [if_pos c13] at H
   refine wq_condT hst rfl c13 ?_
   refine wq_seq ?_
   refine wq_region_lit (.inl rfl) ?_
   refine r_t hst trivial rfl (x_move hst rfl) ?_; intro a hst
   refine r_t hst trivial rfl (x_nilCheck hst rfl) ?_; intro a hst
   refine r_t hst trivial rfl (x_loadB (i := 0) hst hsh sc_3 rfl rfl rfl) ?_; intro a hst
   refine r_t hst trivial rfl (x_arI (r := w64 (a3 + 1)) hst rfl rfl rfl) ?_; intro a hst
   refine r_t hst trivial rfl (x_nilCheck hst rfl) ?_; intro a hst
   refine r_storeB (i := 0) (cs' := [.int .i64 (w64 (a3 + 1))]) hst hsh trivial sc_3 rfl rfl rfl rfl rfl rfl ?_; intro a w14 hsh hst
   refine wpL_nil ?_
   refine then_normal ?_
   refine wq_seq ?_
   refine wq_region_lit (.inl rfl) ?_
   refine r_t hst trivial rfl (x_move hst rfl) ?_; intro a hst
   refine r_t hst trivial rfl (x_move hst rfl) ?_; intro a hst
   refine r_t hst trivial rfl (x_assign hst rfl) ?_; intro a hst
   refine r_t hst trivial rfl (x_assign hst rfl) ?_; intro a hst
   refine wpL_nil ?_
   refine then_normal ?_
   refine wq_ret ?_
   refine then_ret ?_
   obtain rfl := Option.some.inj H
   exact ret2 hst rfl rfl rfl ⟨rfl, hsh.pick [0]⟩
 · rw [if_neg c13] at H
   replace c13 := Bool.eq_false_iff.2 c13
   refine wq_condF hst rfl c13 ?_
   refine wq_skip ?_
   refine then_normal ?_
   refine wq_seq ?_
   refine wq_region_lit (.inl rfl) ?_
   refine r_t hst trivial rfl (x_move hst rfl) ?_; intro a hst
   refine r_t hst trivial rfl (x_move hst rfl) ?_; intro a hst
   refine r_t hst trivial rfl (x_assign hst rfl) ?_; intro a hst
   refine r_t hst trivial rfl (x_assign hst rfl) ?_; intro a hst
   refine wpL_nil ?_
   refine then_normal ?_
   refine wq_ret ?_
   obtain rfl := Option.some.inj H
   exact ret2 hst rfl rfl rfl ⟨rfl, hsh.pick [0]⟩

set_option maxHeartbeats 4000000 in
set_option maxRecDepth 100000 in
theorem slices_medianOrdered_uint64.calls (w : World) (GG : Nat → Prop) (va0 : Value) (Za0 : Nat → Prop) (wra0 : World) (hsa0 : Same Za0 wra0 w) (hda0 : ∀ k, Za0 k → k < wra0.heap.size → ¬ GG k) (a0 : (List Int)) (hra0 : RD (Kd.int .u64) Za0 wra0 va0 a0) (a1 : Int) (a2 : Int) (a3 : Int) (ga4 : Nat) (a4 : Int) (hsep : Sep GG w [Box ga4 [.int .i64 a4] 3]) (r : (Int × Int)) (h : slices_medianOrdered_uint64 a0 a1 a2 a3 a4 = some r) :
    Calls Try.prog 62 ([va0, .int .i64 a1, .int .i64 a2, .int .i64 a3, .pointer (some ⟨ga4, 0, none⟩)] : List Value).toArray w fun e w' => e = .returned (.int .i64 r.1) ∧ SH GG w w' [Box ga4 [.int .i64 r.2] 3] := by
 have H := h
 clear h
 unfold slices_medianOrdered_uint64 at H
 refine calls_enter Try.func62 rfl rfl ?_
 intro a hst
 have hsh := SH.start hsep
 refine wq_seq ?_
 refine wq_region_lit (.inl rfl) ?_
 refine r_t hst trivial rfl (x_assign hst rfl) ?_; intro a hst
 refine wpL_nil ?_
 refine then_normal ?_
 refine wq_seq ?_
 refine wq_region_lit (.inl rfl) ?_
 refine r_t hst trivial rfl (x_move hst rfl) ?_; intro a hst
 refine r_t hst trivial rfl (x_move hst rfl) ?_; intro a hst
 refine r_t hst trivial rfl (x_move hst rfl) ?_; intro a hst
 refine r_t hst trivial rfl (x_move hst rfl) ?_; intro a hst
 replace hsh := hsh.pick [0]
 obtain ⟨GG3, hsp, hG, hbx, hfx, hk⟩ := SH.callD (L1 := [Box ga4 [.int .i64 a4] 3]) (L2 := []) hsh
 obtain ⟨r1, hr1, H⟩ := Option.bind_eq_some_iff.1 H
 refine r_callD hst trivial rfl fn_65 rfl (slices_order2Ordered_uint64.calls _ GG3 _ _ _ (Same.sh2 hsa0 hda0 hsh) (disj_own hsa0 hda0 hG) _ hra0 a1 a2 ga4 a4 hsp r1 hr1) ?_
 rintro e w2 ⟨rfl, hc⟩
 replace hsh := hk _ _ hc
 clear hc
 refine ⟨_, rfl, fun a hst => ?_⟩
 refine r_t hst trivial rfl (x_move hst rfl) ?_; intro a hst
 refine r_t hst trivial rfl (x_extract hst rfl rfl) ?_; intro a hst
 refine r_t hst trivial rfl (x_extract hst rfl rfl) ?_; intro a hst
 refine r_t hst trivial rfl (x_assign hst rfl) ?_; intro a hst
 refine r_t hst trivial rfl (x_assign hst rfl) ?_; intro a hst
 refine wpL_nil ?_
 refine then_normal ?_
 refine wq_seq ?_
 refine wq_region_lit (.inl rfl) ?_
 refine r_t hst trivial rfl (x_move hst rfl) ?_; intro a hst
 refine r_t hst trivial rfl (x_move hst rfl) ?_; intro a hst
 refine r_t hst trivial rfl (x_move hst rfl) ?_; intro a hst
 refine r_t hst trivial rfl (x_move hst rfl) ?_; intro a hst
 replace hsh := hsh.pick [0]
 obtain ⟨GG6, hsp, hG, hbx, hfx, hk⟩ := SH.callD (L1 := [Box ga4 [.int .i64 r1.2.2] 3]) (L2 := []) hsh
 obtain ⟨r4, hr4, H⟩ := Option.bind_eq_some_iff.1 H
 refine r_callD hst trivial rfl fn_65 rfl (slices_order2Ordered_uint64.calls _ GG6 _ _ _ (Same.sh2 hsa0 hda0 hsh) (disj_own hsa0 hda0 hG) _ hra0 r1.2.1 a3 ga4 r1.2.2 hsp r4 hr4) ?_
 rintro e w5 ⟨rfl, hc⟩
 replace hsh := hk _ _ hc
 clear hc
 refine ⟨_, rfl, fun a hst => ?_⟩
 refine r_t hst trivial rfl (x_move hst rfl) ?_; intro a hst
 refine r_t hst trivial rfl (x_extract hst rfl rfl) ?_; intro a hst
 refine r_t hst trivial rfl (x_extract hst rfl rfl) ?_; intro a hst
 refine r_t hst trivial rfl (x_assign hst rfl) ?_; intro a hst
 refine r_t hst trivial rfl (x_assign hst rfl) ?_; intro a hst
 refine wpL_nil ?_
 refine then_normal ?_
 refine wq_seq ?_
 refine wq_region_lit (.inl rfl) ?_
 refine r_t hst trivial rfl (x_move hst rfl) ?_; intro a hst
 refine r_t hst trivial rfl (x_move hst rfl) ?_; intro a hst
 refine r_t hst trivial rfl (x_move hst rfl) ?_; intro a hst
 refine r_t hst trivial rfl (x_move hst rfl) ?_; intro a hst
 replace hsh := hsh.pick [0]
 obtain ⟨GG9, hsp, hG, hbx, hfx, hk⟩ := SH.callD (L1 := [Box ga4 [.int .i64 r4.2.2] 3]) (L2 := []) hsh
 obtain ⟨r7, hr7, H⟩ := Option.bind_eq_some_iff.1 H
 refine r_callD hst trivial rfl fn_65 rfl (slices_order2Ordered_uint64.calls _ GG9 _ _ _ (Same.sh2 hsa0 hda0 hsh) (disj_own hsa0 hda0 hG) _ hra0 r1.1 r4.1 ga4 r4.2.2 hsp r7 hr7) ?_
 rintro e w8 ⟨rfl, hc⟩
 replace hsh := hk _ _ hc
 clear hc
 refine ⟨_, rfl, fun a hst => ?_⟩
 refine r_t hst trivial rfl (x_move hst rfl) ?_; intro a hst
 refine r_t hst trivial rfl (x_extract hst rfl rfl) ?_; intro a hst
 refine r_t hst trivial rfl (x_extract hst rfl rfl) ?_; intro a hst
 refine r_t hst trivial rfl (x_assign hst rfl) ?_; intro a hst
 refine r_t hst trivial rfl (x_assign hst rfl) ?_; intro a hst
 refine wpL_nil ?_
 refine then_normal ?_
 refine wq_seq ?_
 refine wq_region_lit (.inl rfl) ?_
 refine r_t hst trivial rfl (x_move hst rfl) ?_; intro a hst
 refine r_t hst trivial rfl (x_assign hst rfl) ?_; intro a hst
 refine wpL_nil ?_
 refine then_normal ?_
 refine wq_ret ?_
 obtain rfl := Option.some.inj H
 exact ret1 hst rfl rfl ⟨rfl, hsh.pick [0]⟩

set_option maxHeartbeats 4000000 in
set_option maxRecDepth 100000 in
theorem slices_medianAdjacentOrdered_uint64.calls (w : World) (GG : Nat → Prop) (va0 : Value) (Za0 : Nat → Prop) (wra0 : World) (hsa0 : Same Za0 wra0 w) (hda0 : ∀ k, Za0 k → k < wra0.heap.size → ¬ GG k) (a0 : (List Int)) (hra0 : RD (Kd.int .u64) Za0 wra0 va0 a0) (a1 : Int) (ga2 : Nat) (a2 : Int) (hsep : Sep GG w [Box ga2 [.int .i64 a2] 3]) (r : (Int × Int)) (h : slices_medianAdjacentOrdered_uint64 a0 a1 a2 = some r) :
    Calls Try.prog 61 ([va0, .int .i64 a1, .pointer (some ⟨ga2, 0, none⟩)] : List Value).toArray w fun e w' => e = .returned (.int .i64 r.1) ∧ SH GG w w' [Box ga2 [.int .i64 r.2] 3] := by
 have H := h
 clear h
 unfold slices_medianAdjacentOrdered_uint64 at H
 refine calls_enter Try.func61 rfl rfl ?_
 intro a hst
 have hsh := SH.start hsep
 refine wq_seq ?_
 refine wq_region_lit (.inl rfl) ?_
 refine r_t hst trivial rfl (x_assign hst rfl) ?_; intro a hst
 refine wpL_nil ?_
 refine then_normal ?_
 refine wq_seq ?_
 refine wq_region_lit (.inl rfl) ?_
 refine r_t hst trivial rfl (x_move hst rfl) ?_; intro a hst
 refine r_t hst trivial rfl (x_move hst rfl) ?_; intro a hst
 refine r_t hst trivial rfl (x_arI (r := w64 (a1 - 1)) hst rfl rfl rfl) ?_; intro a hst
 refine r_t hst trivial rfl (x_move hst rfl) ?_; intro a hst
 refine r_t hst trivial rfl (x_move hst rfl) ?_; intro a hst
 refine r_t hst trivial rfl (x_arI (r := w64 (a1 + 1)) hst rfl rfl rfl) ?_; intro a hst
 refine r_t hst trivial rfl (x_move hst rfl) ?_; intro a hst
 replace hsh := hsh.pick [0]
 obtain ⟨GG3, hsp, hG, hbx, hfx, hk⟩ := SH.callD (L1 := [Box ga2 [.int .i64 a2] 3]) (L2 := []) hsh
 obtain ⟨r1, hr1, H⟩ := Option.bind_eq_some_iff.1 H
 refine r_callD hst trivial rfl fn_62 rfl (slices_medianOrdered_uint64.calls _ GG3 _ _ _ (Same.sh2 hsa0 hda0 hsh) (disj_own hsa0 hda0 hG) _ hra0 (w64 (a1 - 1)) a1 (w64 (a1 + 1)) ga2 a2 hsp r1 hr1) ?_
 rintro e w2 ⟨rfl, hc⟩
 replace hsh := hk _ _ hc
 clear hc
 refine ⟨_, rfl, fun a hst => ?_⟩
 refine r_t hst trivial rfl (x_assign hst rfl) ?_; intro a hst
 refine wpL_nil ?_
 refine then_normal ?_
 refine wq_ret ?_
 obtain rfl := Option.some.inj H
 exact ret1 hst rfl rfl ⟨rfl, hsh.pick [0]⟩

set_option maxHeartbeats 4000000 in
set_option maxRecDepth 100000 in
theorem slices_choosePivotOrdered_uint64.calls (w : World) (va0 : Value) (Za0 : Nat → Prop) (wra0 : World) (hsa0 : Same Za0 wra0 w) (a0 : (List Int)) (hra0 : RD (Kd.int .u64) Za0 wra0 va0 a0) (a1 : Int) (a2 : Int) (r : (Int × Int)) (h : slices_choosePivotOrdered_uint64 a0 a1 a2 = some r) :
    Calls Try.prog 48 ([va0, .int .i64 a1, .int .i64 a2] : List Value).toArray w fun e w' => e = .returned (.tuple #[.int .i64 r.1, .int .i64 r.2]) ∧ SH (fun _ => False) w w' [] := by
 have H := h
 clear h
 unfold slices_choosePivotOrdered_uint64 at H
 refine calls_enter Try.func48 rfl rfl ?_
 intro a hst
 have hsh := SH.zero (fun _ => False) w
 refine wq_seq ?_
 refine wq_region_lit (.inl rfl) ?_
 refine r_t hst trivial rfl (x_assign hst rfl) ?_; intro a hst
 refine r_t hst trivial rfl (x_assign hst rfl) ?_; intro a hst
 refine wpL_nil ?_
 refine then_normal ?_
 refine wq_seq ?_
 refine wq_region_lit (.inl rfl) ?_
 refine r_t hst trivial rfl (x_move hst rfl) ?_; intro a hst
 refine r_t hst trivial rfl (x_move hst rfl) ?_; intro a hst
 refine r_t hst trivial rfl (x_arI (r := w64 (a2 - a1)) hst rfl rfl rfl) ?_; intro a hst
 refine r_t hst trivial rfl (x_assign hst rfl) ?_; intro a hst
 refine wpL_nil ?_
 refine then_normal ?_
 refine wq_seq ?_
 refine wq_region_lit (.inl rfl) ?_
 refine r_alloc hst hsh trivial rfl zr_3 ?_
 intro g1 a w2 hgg1 hsh hst
 refine wpL_nil ?_
 refine then_normal ?_
 refine wq_seq ?_
 refine wq_region_lit (.inl rfl) ?_
 refine r_t hst trivial rfl (x_move hst rfl) ?_; intro a hst
 refine r_t hst trivial rfl (x_move hst rfl) ?_; intro a hst
 refine r_t hst trivial rfl (x_quo hst rfl rfl (by decide)) ?_; intro a hst
 refine r_t hst trivial rfl (x_arI (r := w64 ((w64 (Int.tdiv (w64 (a2 - a1)) 4)) * 1)) hst rfl rfl rfl) ?_; intro a hst
 refine r_t hst trivial rfl (x_arI (r := w64 (a1 + (w64 ((w64 (Int.tdiv (w64 (a2 - a1)) 4)) * 1)))) hst rfl rfl rfl) ?_; intro a hst
 refine r_t hst trivial rfl (x_assign hst rfl) ?_; intro a hst
 refine wpL_nil ?_
 refine then_normal ?_
 refine wq_seq ?_
 refine wq_region_lit (.inl rfl) ?_
 refine r_t hst trivial rfl (x_move hst rfl) ?_; intro a hst
 refine r_t hst trivial rfl (x_move hst rfl) ?_; intro a hst
 refine r_t hst trivial rfl (x_quo hst rfl rfl (by decide)) ?_; intro a hst
 refine r_t hst trivial rfl (x_arI (r := w64 ((w64 (Int.tdiv (w64 (a2 - a1)) 4)) * 2)) hst rfl rfl rfl) ?_; intro a hst
 refine r_t hst trivial rfl (x_arI (r := w64 (a1 + (w64 ((w64 (Int.tdiv (w64 (a2 - a1)) 4)) * 2)))) hst rfl rfl rfl) ?_; intro a hst
 refine r_t hst trivial rfl (x_assign hst rfl) ?_; intro a hst
 refine wpL_nil ?_
 refine then_normal ?_
 refine wq_seq ?_
 refine wq_region_lit (.inl rfl) ?_
 refine r_t hst trivial rfl (x_move hst rfl) ?_; intro a hst
 refine r_t hst trivial rfl (x_move hst rfl) ?_; intro a hst
 refine r_t hst trivial rfl (x_quo hst rfl rfl (by decide)) ?_; intro a hst
 refine r_t hst trivial rfl (x_arI (r := w64 ((w64 (Int.tdiv (w64 (a2 - a1)) 4)) * 3)) hst rfl rfl rfl) ?_; intro a hst
 refine r_t hst trivial rfl (x_arI (r := w64 (a1 + (w64 ((w64 (Int.tdiv (w64 (a2 - a1)) 4)) * 3)))) hst rfl rfl rfl) ?_; intro a hst
 refine r_t hst trivial rfl (x_assign hst rfl) ?_; intro a hst
 refine wpL_nil ?_
 refine then_normal ?_
 obtain ⟨J_10, hJ_10, H⟩ := Jn.elim H
 refine wq_cut (fun a w' => ∃ (i_7 : Int), ∃ (i_8 : Int), J_10 i_7 i_8 = some r ∧ ST [] Try.f48.ntmps a [(6, .int .i64 0), (7, .int .i64 0), (9, .pointer (some ⟨g1, 0, none⟩)), (11, .int .i64 i_8)] ∧ SH (fun _ => False) w w' [Box g1 [.int .i64 i_7] 3]) ?_ ?_
 · rintro a W_9 ⟨i_7, i_8, H, hst, hsh⟩
   subst hJ_10
   dsimp only at H
   refine wq_seq ?_
   refine wq_region_lit (.inl rfl) ?_
   refine r_t hst trivial rfl (x_loadB (i := 0) hst hsh sc_3 rfl rfl rfl) ?_; intro a hst
   refine wpL_nil ?_
   refine then_normal ?_
   refine wq_block ?_
   refine wq_seq ?_
   refine wq_region_lit (.inl rfl) ?_
   refine r_t hst trivial rfl (x_cmpI (b := (i_7 == 0)) hst rfl rfl rfl) ?_; intro a hst
   refine r_t hst trivial rfl (x_assign hst rfl) ?_; intro a hst
   refine wpL_nil ?_
   refine then_normal ?_
   by_cases c27 : (i_7 == 0) = true
   · rw [if_pos c27] at H
     refine wq_condT hst rfl c27 ?_
     refine wq_seq ?_
     refine wq_region_lit (.inl rfl) ?_
     refine r_t hst trivial rfl (x_move hst rfl) ?_; intro a hst
     refine r_t hst trivial rfl (x_assign hst rfl) ?_; intro a hst
     refine r_t hst trivial rfl (x_assign hst rfl) ?_; intro a hst
     refine wpL_nil ?_
     refine then_normal ?_
     refine wq_ret ?_
     refine block_ret ?_
     obtain rfl := Option.some.inj H
     exact ret2 hst rfl rfl rfl ⟨rfl, hsh.pick []⟩
   · rw [if_neg c27] at H
     replace c27 := Bool.eq_false_iff.2 c27
     refine wq_condF hst rfl c27 ?_
     refine wq_seq ?_
     refine wq_region_lit (.inl rfl) ?_
     refine r_t hst trivial rfl (x_cmpI (b := (i_7 == 12)) hst rfl rfl rfl) ?_; intro a hst
     refine r_t hst trivial rfl (x_assign hst rfl) ?_; intro a hst
     refine wpL_nil ?_
     refine then_normal ?_
     by_cases c28 : (i_7 == 12) = true
     · rw [if_pos c28] at H
       refine wq_condT hst rfl c28 ?_
       refine wq_seq ?_
       refine wq_region_lit (.inl rfl) ?_
       refine r_t hst trivial rfl (x_move hst rfl) ?_; intro a hst
       refine r_t hst trivial rfl (x_assign hst rfl) ?_; intro a hst
       refine r_t hst trivial rfl (x_assign hst rfl) ?_; intro a hst
       refine wpL_nil ?_
       refine then_normal ?_
       refine wq_ret ?_
       refine block_ret ?_
       obtain rfl := Option.some.inj H
       exact ret2 hst rfl rfl rfl ⟨rfl, hsh.pick []⟩
     · rw [if_neg c28] at H
       replace c28 := Bool.eq_false_iff.2 c28
       refine wq_condF hst rfl c28 ?_
       refine wq_seq ?_
       refine wq_region_lit (.inl rfl) ?_
       refine r_t hst trivial rfl (x_move hst rfl) ?_; intro a hst
       refine r_t hst trivial rfl (x_assign hst rfl) ?_; intro a hst
       refine r_t hst trivial rfl (x_assign hst rfl) ?_; intro a hst
       refine wpL_nil ?_
       refine then_normal ?_
       refine wq_ret ?_
       refine block_ret ?_
       obtain rfl := Option.some.inj H
       exact ret2 hst rfl rfl rfl ⟨rfl, hsh.pick []⟩
 · refine wq_seq ?_
   refine wq_region_lit (.inl rfl) ?_
   refine r_t hst trivial rfl (x_move hst rfl) ?_; intro a hst
   refine r_t hst trivial rfl (x_cmpI (b := decide (8 ≤ (w64 (a2 - a1)))) hst rfl rfl rfl) ?_; intro a hst
   refine wpL_nil ?_
   refine then_normal ?_
   by_cases c29 : (decide (8 ≤ (w64 (a2 - a1)))) = true
   · rw [if_pos c29] at H
     refine wq_condT hst rfl c29 ?_
     obtain ⟨J_16, hJ_16, H⟩ := Jn.elim H
     refine wq_cut (fun a w' => ∃ (i_11 : Int), ∃ (i_12 : Int), ∃ (i_13 : Int), ∃ (i_14 : Int), J_16 i_11 i_12 i_13 i_14 = some r ∧ ST [] Try.f48.ntmps a [(0, va0), (6, .int .i64 0), (7, .int .i64 0), (9, .pointer (some ⟨g1, 0, none⟩)), (10, .int .i64 i_12), (11, .int .i64 i_13), (12, .int .i64 i_14)] ∧ SH (fun _ => False) w w' [Box g1 [.int .i64 i_11] 3]) ?_ ?_
     · rintro a W_15 ⟨i_11, i_12, i_13, i_14, H, hst, hsh⟩
       subst hJ_16
       dsimp only at H
       refine wq_region_lit (.inl rfl) ?_
       refine r_t hst trivial rfl (x_move hst rfl) ?_; intro a hst
       refine r_t hst trivial rfl (x_move hst rfl) ?_; intro a hst
       refine r_t hst trivial rfl (x_move hst rfl) ?_; intro a hst
       refine r_t hst trivial rfl (x_move hst rfl) ?_; intro a hst
       replace hsh := hsh.pick [0]
       obtain ⟨GG42, hsp, hG, hbx, hfx, hk⟩ := SH.callD (L1 := [Box g1 [.int .i64 i_11] 3]) (L2 := []) hsh
       obtain ⟨r40, hr40, H⟩ := Option.bind_eq_some_iff.1 H
       refine r_callD hst trivial rfl fn_62 rfl (slices_medianOrdered_uint64.calls _ GG42 _ _ _ (Same.sh0 hsa0 hsh) (disj_new hsa0 hG) _ hra0 i_12 i_13 i_14 g1 i_11 hsp r40 hr40) ?_
       rintro e w41 ⟨rfl, hc⟩
       replace hsh := hk _ _ hc
       clear hc
       refine ⟨_, rfl, fun a hst => ?_⟩
       refine r_t hst trivial rfl (x_assign hst rfl) ?_; intro a hst
       refine wpL_nil ?_
       refine then_normal ?_
       exact ⟨r40.2, r40.1, H, hst.keep _ ⟨rfl, rfl, rfl, rfl, trivial⟩, hsh.pick [0]⟩
     · refine wq_seq ?_
       refine wq_region_lit (.inl rfl) ?_
       refine r_t hst trivial rfl (x_move hst rfl) ?_; intro a hst
       refine r_t hst trivial rfl (x_cmpI (b := decide (50 ≤ (w64 (a2 - a1)))) hst rfl rfl rfl) ?_; intro a hst
       refine wpL_nil ?_
       refine then_normal ?_
       by_cases c43 : (decide (50 ≤ (w64 (a2 - a1)))) = true
       · rw [if_pos c43] at H
         refine wq_condT hst rfl c43 ?_
         refine wq_seq ?_
         refine wq_region_lit (.inl rfl) ?_
         refine r_t hst trivial rfl (x_move hst rfl) ?_; intro a hst
         refine r_t hst trivial rfl (x_move hst rfl) ?_; intro a hst
         replace hsh := hsh.pick [0]
         obtain ⟨GG46, hsp, hG, hbx, hfx, hk⟩ := SH.callD (L1 := [Box g1 [.int .i64 0] 3]) (L2 := []) hsh
         obtain ⟨r44, hr44, H⟩ := Option.bind_eq_some_iff.1 H
         refine r_callD hst trivial rfl fn_61 rfl (slices_medianAdjacentOrdered_uint64.calls _ GG46 _ _ _ (Same.sh0 hsa0 hsh) (disj_new hsa0 hG) _ hra0 (w64 (a1 + (w64 ((w64 (Int.tdiv (w64 (a2 - a1)) 4)) * 1)))) g1 0 hsp r44 hr44) ?_
         rintro e w45 ⟨rfl, hc⟩
         replace hsh := hk _ _ hc
         clear hc
         refine ⟨_, rfl, fun a hst => ?_⟩
         refine r_t hst trivial rfl (x_assign hst rfl) ?_; intro a hst
         refine wpL_nil ?_
         refine then_normal ?_
         refine wq_seq ?_
         refine wq_region_lit (.inl rfl) ?_
         refine r_t hst trivial rfl (x_move hst rfl) ?_; intro a hst
         refine r_t hst trivial rfl (x_move hst rfl) ?_; intro a hst
         replace hsh := hsh.pick [0]
         obtain ⟨GG49, hsp, hG, hbx, hfx, hk⟩ := SH.callD (L1 := [Box g1 [.int .i64 r44.2] 3]) (L2 := []) hsh
         obtain ⟨r47, hr47, H⟩ := Option.bind_eq_some_iff.1 H
         refine r_callD hst trivial rfl fn_61 rfl (slices_medianAdjacentOrdered_uint64.calls _ GG49 _ _ _ (Same.sh0 hsa0 hsh) (disj_new hsa0 hG) _ hra0 (w64 (a1 + (w64 ((w64 (Int.tdiv (w64 (a2 - a1)) 4)) * 2)))) g1 r44.2 hsp r47 hr47) ?_
         rintro e w48 ⟨rfl, hc⟩
         replace hsh := hk _ _ hc
         clear hc
         refine ⟨_, rfl, fun a hst => ?_⟩
         refine r_t hst trivial rfl (x_assign hst rfl) ?_; intro a hst
         refine wpL_nil ?_
         refine then_normal ?_
         refine wq_region_lit (.inl rfl) ?_
         refine r_t hst trivial rfl (x_move hst rfl) ?_; intro a hst
         refine r_t hst trivial rfl (x_move hst rfl) ?_; intro a hst
         replace hsh := hsh.pick [0]
         obtain ⟨GG52, hsp, hG, hbx, hfx, hk⟩ := SH.callD (L1 := [Box g1 [.int .i64 r47.2] 3]) (L2 := []) hsh
         obtain ⟨r50, hr50, H⟩ := Option.bind_eq_some_iff.1 H
         refine r_callD hst trivial rfl fn_61 rfl (slices_medianAdjacentOrdered_uint64.calls _ GG52 _ _ _ (Same.sh0 hsa0 hsh) (disj_new hsa0 hG) _ hra0 (w64 (a1 + (w64 ((w64 (Int.tdiv (w64 (a2 - a1)) 4)) * 3)))) g1 r47.2 hsp r50 hr50) ?_
         rintro e w51 ⟨rfl, hc⟩
         replace hsh := hk _ _ hc
         clear hc
         refine ⟨_, rfl, fun a hst => ?_⟩
         refine r_t hst trivial rfl (x_assign hst rfl) ?_; intro a hst
         refine wpL_nil ?_
         refine then_normal ?_
         exact ⟨r50.2, r44.1, r47.1, r50.1, H, hst.keep _ ⟨rfl, rfl, rfl, rfl, rfl, rfl, rfl, trivial⟩, hsh.pick [0]⟩
       · rw [if_neg c43] at H
         replace c43 := Bool.eq_false_iff.2 c43
         refine wq_condF hst rfl c43 ?_
         refine wq_skip ?_
         refine then_normal ?_
         exact ⟨0, (w64 (a1 + (w64 ((w64 (Int.tdiv (w64 (a2 - a1)) 4)) * 1)))), (w64 (a1 + (w64 ((w64 (Int.tdiv (w64 (a2 - a1)) 4)) * 2)))), (w64 (a1 + (w64 ((w64 (Int.tdiv (w64 (a2 - a1)) 4)) * 3)))), H, hst.keep _ ⟨rfl, rfl, rfl, rfl, rfl, rfl, rfl, trivial⟩, hsh.pick [0]⟩
   · rw [if_neg c29] at H
     replace c29 := Bool.eq_false_iff.2 c29
     refine wq_condF hst rfl c29 ?_
     refine wq_skip ?_
     refine then_normal ?_
     exact ⟨0, (w64 (a1 + (w64 ((w64 (Int.tdiv (w64 (a2 - a1)) 4)) * 2)))), H, hst.keep _ ⟨rfl, rfl, rfl, rfl, trivial⟩, hsh.pick [0]⟩

set_option maxHeartbeats 4000000 in
set_option maxRecDepth 100000 in
theorem slices_reverseRangeOrdered_uint64.calls (k : Nat) (w : World) (GG : Nat → Prop) (va0 : Value) (a0 : (List Int)) (a1 : Int) (a2 : Int) (hsep : Sep GG w [Row (Kd.int .u64) 23 va0 a0]) (r : (List Int)) (h : slices_reverseRangeOrdered_uint64 k a0 a1 a2 = some r) :
    Calls Try.prog 49 ([va0, .int .i64 a1, .int .i64 a2] : List Value).toArray w fun e w' => e = .returned (.tuple #[]) ∧ SH GG w w' [Row (Kd.int .u64) 23 va0 r] := by
 have H := h
 clear h
 unfold slices_reverseRangeOrdered_uint64 at H
 refine calls_enter Try.func49 rfl rfl ?_
 intro a hst
 have hsh := SH.start hsep
 refine wq_seq ?_
 refine wq_region_lit (.inl rfl) ?_
 refine r_t hst trivial rfl (x_move hst rfl) ?_; intro a hst
 refine r_t hst trivial rfl (x_assign hst rfl) ?_; intro a hst
 refine wpL_nil ?_
 refine then_normal ?_
 refine wq_seq ?_
 refine wq_region_lit (.inl rfl) ?_
 refine r_t hst trivial rfl (x_move hst rfl) ?_; intro a hst
 refine r_t hst trivial rfl (x_arI (r := w64 (a2 - 1)) hst rfl rfl rfl) ?_; intro a hst
 refine r_t hst trivial rfl (x_assign hst rfl) ?_; intro a hst
 refine wpL_nil ?_
 refine then_normal ?_
 refine wq_block ?_
 refine wq_loop_fuel (fun k_15 a w' => ∃ (l_7 : (List Int)), ∃ (i_8 : Int), ∃ (i_9 : Int), slices_reverseRangeOrdered_uint64.l0 k_15 l_7 i_8 i_9 = some r ∧ ST [] Try.f49.ntmps a [(0, va0), (6, .int .i64 i_8), (7, .int .i64 i_9)] ∧ SH GG w w' [Row (Kd.int .u64) 23 va0 l_7]) k ?_ ?_
 · exact ⟨a0, a1, (w64 (a2 - 1)), H, hst.keep _ ⟨rfl, rfl, rfl, trivial⟩, hsh.pick [0]⟩
 · rintro k_15 a W_10 ⟨l_7, i_8, i_9, H, hst, hsh⟩
   cases k_15 with
   | zero => rw [slices_reverseRangeOrdered_uint64.l0] at H; cases H
   | succ k_15 =>
    rw [slices_reverseRangeOrdered_uint64.l0] at H
    refine wq_seq ?_
    refine wq_seq ?_
    refine wq_region_lit (.inl rfl) ?_
    refine r_t hst trivial rfl (x_move hst rfl) ?_; intro a hst
    refine r_t hst trivial rfl (x_move hst rfl) ?_; intro a hst
    refine r_t hst trivial rfl (x_cmpI (b := decide (i_8 < i_9)) hst rfl rfl rfl) ?_; intro a hst
    refine wpL_nil ?_
    refine then_normal ?_
    by_cases c28 : (decide (i_8 < i_9)) = true
    · rw [if_pos c28] at H
      refine wq_condT hst rfl c28 ?_
      refine wq_skip ?_
      refine then_normal ?_
      refine wq_block ?_
      refine wq_seq ?_
      have hw28_0 := hsh.row 0 rfl
      refine wq_region_t (.inl rfl) (.fin [(3, 0), (3, 1), (3, 2), (3, 3), (3, 4), (3, 5), (3, 6), (0, 7), (3, 8), (3, 9), (3, 10), (0, 11), (3, 12), (2, 13), (0, 14), (2, 15)]) (fun w' => SH GG w w' [Row (Kd.int .u64) 23 va0 l_7]) (fun w' => SH GG w w' [Row (Kd.int .u64) 23 va0 l_7]) (shut_sh _ _ _) (shut_sh _ _ _) (sub_sh [0] rfl) hsh.drew fo (by kernel_rfl) ?_
      refine t_fin ?_
      refine m_p hst trivial rfl (fun _ => x_move hst rfl) ?_; intro a hst
      refine m_p hst trivial rfl (fun _ => x_move hst rfl) ?_; intro a hst
      refine m_p hst trivial rfl (fun _ => x_move hst rfl) ?_; intro a hst
      refine m_p hst trivial rfl (fun _ => x_move hst rfl) ?_; intro a hst
      refine m_p hst trivial rfl (fun _ => x_move hst rfl) ?_; intro a hst
      refine m_p hst trivial rfl (fun _ => x_move hst rfl) ?_; intro a hst
      obtain ⟨x29, hx29, H⟩ := Option.bind_eq_some_iff.1 H
      refine m_p hst trivial rfl (fun _ => x_indexAddr hst Try.underlying35 el_23 rfl rfl hw28_0 hx29) ?_; intro a hst
      refine m_t hst trivial rfl (fun _ hsh => x_loadEF (j := 0) (cs := [.int .u64 x29]) hst sc_23 rfl (hsh.row 0 rfl) (Same.refl _ _) hx29 rfl (fun _ h => h) rfl) ?_; intro a hst
      refine m_p hst trivial rfl (fun _ => x_move hst rfl) ?_; intro a hst
      refine m_p hst trivial rfl (fun _ => x_move hst rfl) ?_; intro a hst
      obtain ⟨x30, hx30, H⟩ := Option.bind_eq_some_iff.1 H
      refine m_p hst trivial rfl (fun _ => x_indexAddr hst Try.underlying35 el_23 rfl rfl hw28_0 hx30) ?_; intro a hst
      refine m_t hst trivial rfl (fun _ hsh => x_loadEF (j := 0) (cs := [.int .u64 x30]) hst sc_23 rfl (hsh.row 0 rfl) (Same.refl _ _) hx30 rfl (fun _ h => h) rfl) ?_; intro a hst
      obtain ⟨x31, hx31, H⟩ := Option.bind_eq_some_iff.1 H
      refine m_p hst trivial rfl (fun _ => x_indexAddr hst Try.underlying35 el_23 rfl rfl hw28_0 hx31) ?_; intro a hst
      refine m_loud (.inr rfl) ?_
      intro w32 hsh
      obtain ⟨l33, hl33, H⟩ := Option.bind_eq_some_iff.1 H
      refine r_storeE (i := 0) (off := 0) (new := x29) (cs' := [.int .u64 x29]) hst hsh trivial sc_23 rfl rfl rfl hx31 rfl (Nat.le_of_ble_eq_true rfl) rfl (fun _ _ _ h => by rw [h]; rfl) (fun _ _ => rfl) ?_; intro a w34 hsh hst
      rw [← upd_some hl33] at hsh
      refine m_turn hsh ?_
      obtain ⟨x35, hx35, H⟩ := Option.bind_eq_some_iff.1 H
      refine m_t hst trivial rfl (fun _ hsh => x_indexAddr hst Try.underlying35 el_23 rfl rfl (hsh.row 0 rfl) hx35) ?_; intro a hst
      refine m_loud (.inr rfl) ?_
      intro w36 hsh
      obtain ⟨l37, hl37, H⟩ := Option.bind_eq_some_iff.1 H
      refine r_storeE (i := 0) (off := 0) (new := x30) (cs' := [.int .u64 x30]) hst hsh trivial sc_23 rfl rfl rfl hx35 rfl (Nat.le_of_ble_eq_true rfl) rfl (fun _ _ _ h => by rw [h]; rfl) (fun _ _ => rfl) ?_; intro a w38 hsh hst
      rw [← upd_some hl37] at hsh
      refine m_turn hsh ?_
      refine m_nil ?_
      intro w39 hsh
      refine qn_normal ?_
      refine then_normal ?_
      refine wq_seq ?_
      refine wq_region_lit (.inl rfl) ?_
      refine r_t hst trivial rfl (x_move hst rfl) ?_; intro a hst
      refine r_t hst trivial rfl (x_arI (r := w64 (i_8 + 1)) hst rfl rfl rfl) ?_; intro a hst
      refine r_t hst trivial rfl (x_assign hst rfl) ?_; intro a hst
      refine wpL_nil ?_
      refine then_normal ?_
      refine wq_region_lit (.inl rfl) ?_
      refine r_t hst trivial rfl (x_move hst rfl) ?_; intro a hst
      refine r_t hst trivial rfl (x_arI (r := w64 (i_9 - 1)) hst rfl rfl rfl) ?_; intro a hst
      refine r_t hst trivial rfl (x_assign hst rfl) ?_; intro a hst
      refine wpL_nil ?_
      refine block_normal ?_
      refine then_normal ?_
      exact ⟨k_15, Nat.lt_succ_self _, l37, (w64 (i_8 + 1)), (w64 (i_9 - 1)), H, hst.keep _ ⟨rfl, rfl, rfl, trivial⟩, hsh.pick [0]⟩
    · rw [if_neg c28] at H
      replace c28 := Bool.eq_false_iff.2 c28
      refine wq_condF hst rfl c28 ?_
      refine wq_exit ?_
      refine then_exit ?_
      refine then_exit ?_
      refine block_hit ?_
      obtain rfl := Option.some.inj H
      exact end0 hst rfl ⟨rfl, hsh.pick [0]⟩
end Go.Proofs.Ytmbhgfigffahbaa.Mo
