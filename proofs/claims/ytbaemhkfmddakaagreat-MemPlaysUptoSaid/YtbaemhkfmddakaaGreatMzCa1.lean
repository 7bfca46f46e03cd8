/- Printed by gen.py: contracts. -/
import Derived.Test.YtbaemhkfmddakaaGreatMzCa0
set_option linter.unusedVariables false
set_option linter.unusedSectionVars false
set_option linter.unusedSimpArgs false
set_option maxRecDepth 100000
set_option maxHeartbeats 4000000
namespace Go.Proofs.YtbaemhkfmddakaaGreat.Mo
open Go Go.Proofs.YtbaemhkfmddakaaGreat.Sy
open Go.Proofs
def lays190_ren : Go.Shelf.Ren := ⟨fun | 190 => 108 | 125 => 113 | 258 => 112 | 128 => 124 | 129 => 125 | 302 => 115 | 303 => 116 | 304 => 117 | 305 => 118 | 306 => 119 | 307 => 120 | 308 => 121 | 309 => 122 | 310 => 123 | 333 => 135 | 329 => 136 | 330 => 137 | 334 => 138 | 335 => 139 | 336 => 140 | 344 => 144 | n => n, fun | 31 => 157 | 9 => 9 | 3 => 3 | 46 => 165 | 0 => 0 | 51 => 177 | 53 => 27 | 4 => 4 | 183 => 169 | 182 => 168 | 131 => 174 | 5 => 5 | 218 => 185 | 222 => 189 | 228 => 194 | 229 => 195 | n => n, fun | n => n⟩
theorem lays190 : Go.Proofs.Lays.n190 Tryz.prog lays190_ren := {
  mixed := by kernel_rfl
  f125 := Tryz.func113.trans (congrArg some (by kernel_rfl))
  f128 := Tryz.func124.trans (congrArg some (by kernel_rfl))
  f129 := Tryz.func125.trans (congrArg some (by kernel_rfl))
  f190 := Tryz.func108.trans (congrArg some (by kernel_rfl))
  f258 := Tryz.func112.trans (congrArg some (by kernel_rfl))
  f302 := Tryz.func115.trans (congrArg some (by kernel_rfl))
  f303 := Tryz.func116.trans (congrArg some (by kernel_rfl))
  f304 := Tryz.func117.trans (congrArg some (by kernel_rfl))
  f305 := Tryz.func118.trans (congrArg some (by kernel_rfl))
  f306 := Tryz.func119.trans (congrArg some (by kernel_rfl))
  f307 := Tryz.func120.trans (congrArg some (by kernel_rfl))
  f308 := Tryz.func121.trans (congrArg some (by kernel_rfl))
  f309 := Tryz.func122.trans (congrArg some (by kernel_rfl))
  f310 := Tryz.func123.trans (congrArg some (by kernel_rfl))
  f329 := Tryz.func136.trans (congrArg some (by kernel_rfl))
  f330 := Tryz.func137.trans (congrArg some (by kernel_rfl))
  f333 := Tryz.func135.trans (congrArg some (by kernel_rfl))
  f334 := Tryz.func138.trans (congrArg some (by kernel_rfl))
  f335 := Tryz.func139.trans (congrArg some (by kernel_rfl))
  f336 := Tryz.func140.trans (congrArg some (by kernel_rfl))
  f344 := Tryz.func144.trans (congrArg some (by kernel_rfl))
  t0 := Tryz.underlying0
  a0 := Tryz.isAgg0
  z0 := Tryz.sizeOf0
  v0 := Tryz.zeroValue0
  t3 := Tryz.underlying3
  a3 := Tryz.isAgg3
  z3 := Tryz.sizeOf3
  v3 := Tryz.zeroValue3
  t4 := Tryz.underlying4
  a4 := Tryz.isAgg4
  z4 := Tryz.sizeOf4
  v4 := Tryz.zeroValue4
  t5 := Tryz.underlying5
  a5 := Tryz.isAgg5
  z5 := Tryz.sizeOf5
  v5 := Tryz.zeroValue5
  t9 := Tryz.underlying9
  a9 := Tryz.isAgg9
  z9 := Tryz.sizeOf9
  v9 := Tryz.zeroValue9
  t31 := Tryz.underlying157
  a31 := Tryz.isAgg157
  z31 := Tryz.sizeOf157
  v31 := Tryz.zeroValue157
  t46 := Tryz.underlying165
  a46 := Tryz.isAgg165
  z46 := Tryz.sizeOf165
  v46 := Tryz.zeroValue165
  t51 := Tryz.underlying177
  a51 := Tryz.isAgg177
  z51 := Tryz.sizeOf177
  v51 := Tryz.zeroValue177
  t53 := Tryz.underlying27
  a53 := Tryz.isAgg27
  z53 := Tryz.sizeOf27
  v53 := Tryz.zeroValue27
  t131 := Tryz.underlying174
  a131 := Tryz.isAgg174
  z131 := Tryz.sizeOf174
  v131 := Tryz.zeroValue174
  t182 := Tryz.underlying168
  a182 := Tryz.isAgg168
  z182 := Tryz.sizeOf168
  v182 := Tryz.zeroValue168
  t183 := Tryz.underlying169
  a183 := Tryz.isAgg169
  z183 := Tryz.sizeOf169
  v183 := Tryz.zeroValue169
  t218 := Tryz.underlying185
  a218 := Tryz.isAgg185
  z218 := Tryz.sizeOf185
  v218 := Tryz.zeroValue185
  t222 := Tryz.underlying189
  a222 := Tryz.isAgg189
  z222 := Tryz.sizeOf189
  v222 := Tryz.zeroValue189
  t228 := Tryz.underlying194
  a228 := Tryz.isAgg194
  z228 := Tryz.sizeOf194
  v228 := Tryz.zeroValue194
  t229 := Tryz.underlying195
  a229 := Tryz.isAgg195
  z229 := Tryz.sizeOf195
  v229 := Tryz.zeroValue195 }
theorem slices_Sort_string.calls (k : Nat) (w : World) (GG : Nat → Prop) (va0 : Value) (a0 : (List ByteArray)) (hsep : Sep GG w [Row Kd.str 9 va0 a0]) (r : (List ByteArray)) (h : slices_Sort_string k a0 = some r) :
    Calls Tryz.prog 108 ([va0] : List Value).toArray w fun e w' => e = .returned (.tuple #[]) ∧ SH GG w w' [Row Kd.str 9 va0 r] := by
 unfold slices_Sort_string at h
 split at h
 · rename_i hl; cases h; exact sort_str lays190 w GG 9 va0 a0 hsep hl
 · cases h
theorem slices_Compact_string.calls (k : Nat) (w : World) (GG : Nat → Prop) (va0 : Value) (a0 : (List ByteArray)) (hsep : Sep GG w [Row Kd.str 9 va0 a0]) (r : (List ByteArray)) (h : slices_Compact_string k a0 = some r) :
    Calls Tryz.prog 109 ([va0] : List Value).toArray w fun e w' => ∃ v0_ : Value, e = .returned (v0_) ∧ SH GG w w' [Row Kd.str 9 v0_ r] := by
 have H := h; clear h
 unfold slices_Compact_string at H
 refine calls_enter Tryz.func109 rfl rfl ?_; intro a t; have s := SH.start hsep; refine ws (.inl rfl) ?_; refine ta t rfl rfl fun a t => wn ?_; refine wS ?_; refine ws (.inl rfl) ?_; refine tm t rfl rfl fun a t => r_t t tv rfl (x_lenSl t Tryz.underlying157 rfl (s.row 0 rfl).slen) fun a t => r_t t tv rfl (x_cmpI (b := decide ((a0.length : Int) < 2)) t rfl rfl rfl) fun a t => wn ?_
 by_cases c2 : (decide ((a0.length : Int) < 2)) = true
 · rw [if_pos c2] at H; refine wT t rfl c2 ?_; refine ws (.inl rfl) ?_; refine tm t rfl rfl fun a t => ta t rfl rfl fun a t => wn ?_; refine wq_ret ?_; refine then_ret ?_; obtain rfl := oi H; exact ret1 t rfl rfl ⟨va0, rfl, s.pick [0]⟩
 · rw [if_neg c2] at H; replace c2 := bfI c2; refine wF t rfl c2 ?_; refine wq_skip ?_; refine tn ?_; refine wS ?_; refine ws (.inl rfl) ?_; refine ta t rfl rfl fun a t => wn ?_; refine wq_block ?_; refine wq_loop_fuel (fun k_586 a w' => ∃ (i_468 : Int), slices_Compact_string.l0 a0 k_586 i_468 = some r ∧ ST [] Tryz.f109.ntmps a [(0, va0), (2, (.slice none 0 0)), (3, .int .i64 i_468)] ∧ SH GG w w' [Row Kd.str 9 va0 a0]) k ?_ ?_
   · exact ⟨1, H, t.keep _ ⟨rfl, rfl, rfl, tv⟩, s.pick [0]⟩
   · rintro k_586 a W_469 ⟨i_468, H, t, s⟩
     cases k_586 with
     | zero => rw [slices_Compact_string.l0] at H; cases H
     | succ k_586 =>
      rw [slices_Compact_string.l0] at H; refine wS ?_; refine ws (.inl rfl) ?_; refine tm t rfl rfl fun a t => tm t rfl rfl fun a t => r_t t tv rfl (x_lenSl t Tryz.underlying157 rfl (s.row 0 rfl).slen) fun a t => r_t t tv rfl (x_cmpI (b := decide (i_468 < (a0.length : Int))) t rfl rfl rfl) fun a t => wn ?_
      by_cases c1295 : (decide (i_468 < (a0.length : Int))) = true
      · rw [if_pos c1295] at H; refine wT t rfl c1295 ?_; refine wq_skip ?_; refine tn ?_; obtain ⟨J_644, hJ_644, H⟩ := Jn.elim H; refine wc (fun a w' => J_644 = some r ∧ ST [] Tryz.f109.ntmps a [(0, va0), (2, (.slice none 0 0)), (3, .int .i64 i_468)] ∧ SH GG w w' [Row Kd.str 9 va0 a0]) ?_ ?_
        · rintro a W_643 ⟨H, t, s⟩; subst hJ_644; refine wR (.inl rfl) ?_; refine tm t rfl rfl fun a t => r_t t tv rfl (x_arI (r := w64 (i_468 + 1)) t rfl rfl rfl) fun a t => ta t rfl rfl fun a t => wn ?_; exact ⟨k_586, Nat.lt_succ_self _, (w64 (i_468 + 1)), H, t.keep _ ⟨rfl, rfl, rfl, tv⟩, s.pick [0]⟩
        · refine wq_block ?_; refine wS ?_; refine wQ (.inl rfl) (fun w' => SH GG w w' [Row Kd.str 9 va0 a0]) (sh _ _ _) s.drew fo (by kernel_rfl) ?_; refine q_t t tv rfl (fun _ s => xm t rfl) fun a t => q_t t tv rfl (fun _ s => xm t rfl) ?_; intro a t; obtain ⟨x1424, hx1424, H⟩ := bsI H; refine q_t t tv rfl (fun _ s => xi t Tryz.underlying157 el_9 rfl rfl (s.row 0 rfl) hx1424) fun a t => q_t t tv rfl (fun _ s => xl (j := 0) (cs := [.string x1424]) t sc_9 rfl (s.row 0 rfl) (Same.refl _ _) hx1424 rfl (fun _ h => h) rfl) fun a t => q_t t tv rfl (fun _ s => xm t rfl) fun a t => q_t t tv rfl (fun _ s => xm t rfl) fun a t => q_t t tv rfl (fun _ s => x_arI (r := w64 (i_468 - 1)) t rfl rfl rfl) ?_; intro a t; obtain ⟨x1425, hx1425, H⟩ := bsI H; refine q_t t tv rfl (fun _ s => xi t Tryz.underlying157 el_9 rfl rfl (s.row 0 rfl) hx1425) fun a t => q_t t tv rfl (fun _ s => xl (j := 0) (cs := [.string x1425]) t sc_9 rfl (s.row 0 rfl) (Same.refl _ _) hx1425 rfl (fun _ h => h) rfl) fun a t => q_t t tv rfl (fun _ s => x_cmpS (b := sEq x1424 x1425) t rfl rfl rfl) fun a t => q_nil ?_; intro w1426 s; refine tn ?_
          by_cases c1427 : (sEq x1424 x1425) = true
          · rw [if_pos c1427] at H; refine wT t rfl c1427 ?_; refine ws (.inl rfl) ?_; refine tm t rfl rfl fun a t => tm t rfl rfl fun a t => ?_; obtain ⟨l1428, hl1428, H⟩ := bsI H; refine r_t t tv rfl (x_cutL t Tryz.underlying157 el_9 rfl rfl (s.row 0 rfl) hl1428) fun a t => ta t rfl rfl fun a t => wn ?_; obtain ⟨J_674, hJ_674, H⟩ := Jn.elim H; refine wc (fun a w' => ∃ (l_671 : (List ByteArray)), ∃ (i_672 : Int), J_674 l_671 i_672 = some r ∧ ST [] Tryz.f109.ntmps a [(0, va0), (2, (.slice none 0 0)), (3, .int .i64 i_672)] ∧ SH GG w w' [Row Kd.str 9 va0 l_671]) ?_ ?_
            · rintro a W_673 ⟨l_671, i_672, H, t, s⟩; subst hJ_674
              dsimp only at H
              refine ws (.inl rfl) ?_; refine tm t rfl rfl fun a t => tm t rfl rfl fun a t => ?_; obtain ⟨l1489, hl1489, H⟩ := bsI H; refine r_t t tv rfl (x_cutL t Tryz.underlying157 el_9 rfl rfl (s.row 0 rfl) hl1489) fun a t => r_clear (i := 0) (z := (ByteArray.mk #[])) (zc := [.string (ByteArray.mk #[])]) t s tv Tryz.underlying157 el_9 zr_9 (by decide) rfl (fun _ _ => rfl) rfl hl1489 ?_; intro a w1490 s t; refine wn ?_; refine ws (.inl rfl) ?_; refine tm t rfl rfl fun a t => tm t rfl rfl fun a t => ?_; obtain ⟨l1491, hl1491, H⟩ := bsI H; refine r_t t tv rfl (x_cutH t Tryz.underlying157 el_9 rfl rfl (s.row 0 rfl) hl1491) fun a t => ta t rfl rfl fun a t => wn ?_; refine wq_ret ?_; refine block_ret ?_; refine then_ret ?_; refine then_ret ?_; refine block_ret ?_; refine then_ret ?_; obtain rfl := oi H; replace s := s.cutRow 0 rfl hl1491; exact ret1 t rfl rfl ⟨(cutV va0 (Int.toNat 0) (Int.toNat i_672) Kd.str.sz), rfl, s.pick [0]⟩
            · refine ws (.inl rfl) ?_; refine ta t rfl rfl fun a t => wn ?_; refine wq_block ?_; refine wq_loop_fuel (fun k_696 a w' => ∃ (l_684 : (List ByteArray)), ∃ (i_685 : Int), ∃ (i_686 : Int), slices_Compact_string.l1 a0 i_468 J_674 k_696 l_684 i_685 i_686 = some r ∧ ST [] Tryz.f109.ntmps a [(0, va0), (2, (.slice none 0 0)), (3, .int .i64 i_685), (4, (cutV va0 (Int.toNat i_468) (Int.toNat (a0.length : Int)) Kd.str.sz)), (5, .int .i64 i_686)] ∧ SH GG w w' [Row Kd.str 9 va0 l_684]) k_586 ?_ ?_
              · exact ⟨a0, i_468, 1, H, t.keep _ ⟨rfl, rfl, rfl, rfl, rfl, tv⟩, s.pick [0]⟩
              · rintro k_696 a W_687 ⟨l_684, i_685, i_686, H, t, s⟩
                cases k_696 with
                | zero => rw [slices_Compact_string.l1] at H; cases H
                | succ k_696 =>
                 rw [slices_Compact_string.l1] at H; refine wS ?_; refine ws (.inl rfl) ?_; refine tm t rfl rfl fun a t => tm t rfl rfl fun a t => ?_; obtain ⟨l1534, hl1534, H⟩ := bsI H; refine r_t t tv rfl (x_lenSl t Tryz.underlying157 rfl ((s.row 0 rfl).cut (by decide) hl1534).slen) fun a t => r_t t tv rfl (x_cmpI (b := decide (i_686 < (l1534.length : Int))) t rfl rfl rfl) fun a t => wn ?_
                 by_cases c1535 : (decide (i_686 < (l1534.length : Int))) = true
                 · rw [if_pos c1535] at H; refine wT t rfl c1535 ?_; refine wq_skip ?_; refine tn ?_; obtain ⟨J_700, hJ_700, H⟩ := Jn.elim H; refine wc (fun a w' => ∃ (l_697 : (List ByteArray)), ∃ (i_698 : Int), J_700 l_697 i_698 = some r ∧ ST [] Tryz.f109.ntmps a [(0, va0), (2, (.slice none 0 0)), (3, .int .i64 i_698), (4, (cutV va0 (Int.toNat i_468) (Int.toNat (a0.length : Int)) Kd.str.sz)), (5, .int .i64 i_686)] ∧ SH GG w w' [Row Kd.str 9 va0 l_697]) ?_ ?_
                   · rintro a W_699 ⟨l_697, i_698, H, t, s⟩; subst hJ_700
                     dsimp only at H
                     refine wR (.inl rfl) ?_; refine tm t rfl rfl fun a t => r_t t tv rfl (x_arI (r := w64 (i_686 + 1)) t rfl rfl rfl) fun a t => ta t rfl rfl fun a t => wn ?_; exact ⟨k_696, Nat.lt_succ_self _, l_697, i_698, (w64 (i_686 + 1)), H, t.keep _ ⟨rfl, rfl, rfl, rfl, rfl, tv⟩, s.pick [0]⟩
                   · refine wq_block ?_; refine wS ?_; refine wQ (.inl rfl) (fun w' => SH GG w w' [Row Kd.str 9 va0 l_684]) (sh _ _ _) s.drew fo (by kernel_rfl) ?_; refine q_t t tv rfl (fun _ s => xm t rfl) fun a t => q_t t tv rfl (fun _ s => xm t rfl) ?_; intro a t; obtain ⟨x1544, hx1544, H⟩ := bsI H; refine q_t t tv rfl (fun _ s => xi t Tryz.underlying157 el_9 rfl rfl ((s.row 0 rfl).cut (by decide) hl1534) hx1544) fun a t => q_t t tv rfl (fun _ s => xl (j := 0) (cs := [.string x1544]) t sc_9 rfl ((s.row 0 rfl).cut (by decide) hl1534) (Same.refl _ _) hx1544 rfl (fun _ h => h) rfl) fun a t => q_t t tv rfl (fun _ s => xm t rfl) fun a t => q_t t tv rfl (fun _ s => xm t rfl) fun a t => q_t t tv rfl (fun _ s => x_arI (r := w64 (i_686 - 1)) t rfl rfl rfl) ?_; intro a t; obtain ⟨x1545, hx1545, H⟩ := bsI H; refine q_t t tv rfl (fun _ s => xi t Tryz.underlying157 el_9 rfl rfl ((s.row 0 rfl).cut (by decide) hl1534) hx1545) fun a t => q_t t tv rfl (fun _ s => xl (j := 0) (cs := [.string x1545]) t sc_9 rfl ((s.row 0 rfl).cut (by decide) hl1534) (Same.refl _ _) hx1545 rfl (fun _ h => h) rfl) fun a t => q_t t tv rfl (fun _ s => x_cmpS (b := (!sEq x1544 x1545)) t rfl rfl rfl) fun a t => q_nil ?_; intro w1546 s; refine tn ?_
                     by_cases c1547 : (!sEq x1544 x1545) = true
                     · rw [if_pos c1547] at H; refine wT t rfl c1547 ?_; refine ws (.inl rfl) ?_; refine tm t rfl rfl fun a t => tm t rfl rfl fun a t => tm t rfl rfl fun a t => tm t rfl rfl fun a t => ?_; obtain ⟨x1548, hx1548, H⟩ := bsI H; refine r_t t tv rfl (xi t Tryz.underlying157 el_9 rfl rfl ((s.row 0 rfl).cut (by decide) hl1534) hx1548) fun a t => r_t t tv rfl (xl (j := 0) (cs := [.string x1548]) t sc_9 rfl ((s.row 0 rfl).cut (by decide) hl1534) (Same.refl _ _) hx1548 rfl (fun _ h => h) rfl) ?_; intro a t; obtain ⟨x1549, hx1549, H⟩ := bsI H; refine r_t t tv rfl (xi t Tryz.underlying157 el_9 rfl rfl (s.row 0 rfl) hx1549) ?_; intro a t; obtain ⟨l1550, hl1550, H⟩ := bsI H; refine xS (i := 0) (off := 0) (new := x1548) (cs' := [.string x1548]) t s tv sc_9 rfl rfl rfl hx1549 rfl (Nat.le_of_ble_eq_true rfl) rfl (fun _ _ _ h => by rw [h]; rfl) (fun _ _ => rfl) ?_; intro a w1551 s t; rw [← upd_some hl1550] at s; refine wn ?_; refine wR (.inl rfl) ?_; refine tm t rfl rfl fun a t => r_t t tv rfl (x_arI (r := w64 (i_685 + 1)) t rfl rfl rfl) fun a t => ta t rfl rfl fun a t => wpL_nil ?_; refine block_normal ?_; refine tn ?_; exact ⟨l1550, (w64 (i_685 + 1)), H, t.keep _ ⟨rfl, rfl, rfl, rfl, rfl, tv⟩, s.pick [0]⟩
                     · rw [if_neg c1547] at H; replace c1547 := bfI c1547; refine wF t rfl c1547 ?_; refine wq_skip ?_; refine block_normal ?_; refine tn ?_; exact ⟨l_684, i_685, H, t.keep _ ⟨rfl, rfl, rfl, rfl, rfl, tv⟩, s.pick [0]⟩
                 · rw [if_neg c1535] at H; replace c1535 := bfI c1535; refine wF t rfl c1535 ?_; refine wq_exit ?_; refine te ?_; refine te ?_; refine block_hit ?_; refine tn ?_; exact ⟨l_684, i_685, H, t.keep _ ⟨rfl, rfl, rfl, tv⟩, s.pick [0]⟩
          · rw [if_neg c1427] at H; replace c1427 := bfI c1427; refine wF t rfl c1427 ?_; refine wq_skip ?_; refine block_normal ?_; refine tn ?_; exact ⟨H, t.keep _ ⟨rfl, rfl, rfl, tv⟩, s.pick [0]⟩
      · rw [if_neg c1295] at H; replace c1295 := bfI c1295; refine wF t rfl c1295 ?_; refine wq_exit ?_; refine te ?_; refine te ?_; refine block_hit ?_; refine tn ?_; refine ws (.inl rfl) ?_; refine tm t rfl rfl fun a t => ta t rfl rfl fun a t => wn ?_; refine wq_ret ?_; obtain rfl := oi H; exact ret1 t rfl rfl ⟨va0, rfl, s.pick [0]⟩

theorem tomb_unlike_string.calls (k : Nat) (w : World) (GG : Nat → Prop) (va0 : Value) (a0 : (List ByteArray)) (hsep : Sep GG w [Row Kd.str 9 va0 a0]) (r : (List ByteArray)) (h : tomb_unlike_string k a0 = some r) :
    Calls Tryz.prog 104 ([va0] : List Value).toArray w fun e w' => ∃ v0_ : Value, e = .returned (v0_) ∧ SH GG w w' [Row Kd.str 9 v0_ r] := by
 have H := h; clear h
 unfold tomb_unlike_string at H
 refine calls_enter Tryz.func104 rfl rfl ?_; intro a t; have s := SH.start hsep; refine ws (.inl rfl) ?_; refine ta t rfl rfl fun a t => wn ?_; refine ws (.inl rfl) ?_; refine tm t rfl rfl fun a t => ?_; replace s := s.pick [0]; obtain ⟨GG3, hsp, hG, hbx, hfx, hk⟩ := SH.callD (L1 := [Row Kd.str 9 va0 a0]) (L2 := []) s; obtain ⟨r1, hr1, H⟩ := bsI H; refine r_callD t tv rfl fn_108 rfl (slices_Sort_string.calls k _ GG3 _ a0 hsp r1 hr1) ?_; rintro e w2 ⟨rfl, hc⟩; replace s := hk _ _ hc; clear hc; refine ⟨_, rfl, fun a t => ?_⟩; refine wn ?_; refine ws (.inl rfl) ?_; refine tm t rfl rfl fun a t => ?_; replace s := s.pick [0]; obtain ⟨GG6, hsp, hG, hbx, hfx, hk⟩ := SH.callD (L1 := [Row Kd.str 9 va0 r1]) (L2 := []) s; obtain ⟨r4, hr4, H⟩ := bsI H; refine r_callD t tv rfl fn_109 rfl (slices_Compact_string.calls k _ GG6 _ r1 hsp r4 hr4) ?_; rintro e w5 ⟨v7, rfl, hc⟩; replace s := hk _ _ hc; clear hc; refine ⟨_, rfl, fun a t => ?_⟩; refine ta t rfl rfl fun a t => wn ?_; refine wq_ret ?_; obtain rfl := oi H; exact ret1 t rfl rfl ⟨v7, rfl, s.pick [0]⟩

theorem cmp_Less_uint64.calls (w : World) (a0 : Int) (a1 : Int) (r : Bool) (h : cmp_Less_uint64 a0 a1 = some r) :
    Calls Tryz.prog 132 ([.int .u64 a0, .int .u64 a1] : List Value).toArray w fun e w' => e = .returned (.bool r) ∧ SH (fun _ => False) w w' [] := by
 have H := h; clear h
 unfold cmp_Less_uint64 at H
 refine calls_enter Tryz.func132 rfl rfl ?_; intro a t; have s := SH.zero (fun _ => False) w; refine ws (.inl rfl) ?_; refine ta t rfl rfl fun a t => wn ?_; refine ws (.inl rfl) ?_; refine tm t rfl rfl fun a t => ?_; obtain ⟨r1, hr1, H⟩ := bsI H; refine r_callD t tv rfl fn_99 rfl (cmp_isNaN_uint64.calls _ a0 r1 hr1) ?_; rintro e w2 ⟨rfl, hc⟩; replace s := s.call0 hc; clear hc; refine ⟨_, rfl, fun a t => ?_⟩; refine tm t rfl rfl fun a t => ?_; obtain ⟨J_2, hJ_2, H⟩ := Jn.elim H; refine wl_join 7 (fun a w' => ∃ (b_1 : Bool), J_2 b_1 = some r ∧ ST [] Tryz.f132.ntmps a [(0, .int .u64 a0), (1, .int .u64 a1), (4, .bool false), (11, .bool b_1)] ∧ SH (fun _ => False) w w' []) ?_ ?_
 · rintro a W_3 ⟨b_1, H, t, s⟩; subst hJ_2
   dsimp only at H
   refine tm t rfl rfl fun a t => wl (Δ := []) (N := Tryz.f132.ntmps) 12 [(4, .bool false), (16, .bool (b_1 || (decide (a0 < a1))))] ?_ ?_
   · intro a t; refine ta t rfl rfl fun a t => wn ?_; refine wq_ret ?_; obtain rfl := oi H; exact ret1 t rfl rfl ⟨rfl, s.pick []⟩
   · intro hj
     by_cases c6 : b_1 = true
     · refine r_not t 12 rfl rfl c6 rfl fun a t => r_not t 12 rfl rfl c6 rfl fun a t => r_not t 12 rfl rfl c6 rfl fun a t => r_t t tv rfl (x_orT (decide (a0 < a1)) t rfl c6 rfl) ?_; intro a t; exact hj _ (t.keep _ ⟨rfl, rfl, tv⟩)
     · replace c6 := bfI c6; refine r_t t (wt_of 12 rfl rfl c6) rfl (xm t rfl) fun a t => r_t t (wt_of 12 rfl rfl c6) rfl (xm t rfl) fun a t => r_t t (wt_of 12 rfl rfl c6) rfl (x_cmpI (b := decide (a0 < a1)) t rfl rfl rfl) fun a t => r_t t tv rfl (x_orF t rfl c6 rfl) ?_; intro a t; exact hj _ (t.keep _ ⟨rfl, rfl, tv⟩)
 · intro hj
   by_cases c3 : r1 = true
   · rw [if_pos c3] at H; refine r_t t (wt_of 7 rfl rfl c3) rfl (xm t rfl) ?_; intro a t; obtain ⟨r7, hr7, H⟩ := bsI H; refine r_callD t (wt_of 7 rfl rfl c3) rfl fn_99 rfl (cmp_isNaN_uint64.calls _ a1 r7 hr7) ?_; rintro e w9 ⟨rfl, hc⟩; replace s := s.call0 hc; clear hc; refine ⟨_, rfl, fun a t => ?_⟩; refine r_t t (wt_of 7 rfl rfl c3) rfl (x_notB t rfl) fun a t => r_t t tv rfl (x_pickT t rfl c3 rfl) ?_; intro a t; exact hj _ _ ⟨(!r7), H, t.keep _ ⟨rfl, rfl, rfl, rfl, tv⟩, s.pick []⟩
   · rw [if_neg c3] at H; replace c3 := bfI c3; refine r_not t 7 rfl rfl c3 rfl fun a t => r_not t 7 rfl rfl c3 rfl fun a t => r_not t 7 rfl rfl c3 rfl fun a t => r_t t tv rfl (x_pickF t rfl c3 rfl) ?_; intro a t; exact hj _ _ ⟨false, H, t.keep _ ⟨rfl, rfl, rfl, rfl, tv⟩, s.pick []⟩

theorem slices_insertionSortOrdered_uint64.calls (k : Nat) (w : World) (GG : Nat → Prop) (va0 : Value) (a0 : (List Int)) (a1 : Int) (a2 : Int) (hsep : Sep GG w [Row (Kd.int .u64) 27 va0 a0]) (r : (List Int)) (h : slices_insertionSortOrdered_uint64 k a0 a1 a2 = some r) :
    Calls Tryz.prog 126 ([va0, .int .i64 a1, .int .i64 a2] : List Value).toArray w fun e w' => e = .returned (.tuple #[]) ∧ SH GG w w' [Row (Kd.int .u64) 27 va0 r] := by
 have H := h; clear h
 unfold slices_insertionSortOrdered_uint64 at H
 refine calls_enter Tryz.func126 rfl rfl ?_; intro a t; have s := SH.start hsep; refine ws (.inl rfl) ?_; refine tm t rfl rfl fun a t => r_t t tv rfl (x_arI (r := w64 (a1 + 1)) t rfl rfl rfl) fun a t => ta t rfl rfl fun a t => wn ?_; refine wq_block ?_; refine wq_loop_fuel (fun k_134 a w' => ∃ (l_67 : (List Int)), ∃ (i_68 : Int), slices_insertionSortOrdered_uint64.l0 a1 a2 k_134 l_67 i_68 = some r ∧ ST [] Tryz.f126.ntmps a [(0, va0), (1, .int .i64 a1), (2, .int .i64 a2), (6, .int .i64 i_68)] ∧ SH GG w w' [Row (Kd.int .u64) 27 va0 l_67]) k ?_ ?_
 · exact ⟨a0, (w64 (a1 + 1)), H, t.keep _ ⟨rfl, rfl, rfl, rfl, tv⟩, s.pick [0]⟩
 · rintro k_134 a W_69 ⟨l_67, i_68, H, t, s⟩
   cases k_134 with
   | zero => rw [slices_insertionSortOrdered_uint64.l0] at H; cases H
   | succ k_134 =>
    rw [slices_insertionSortOrdered_uint64.l0] at H; refine wS ?_; refine ws (.inl rfl) ?_; refine tm t rfl rfl fun a t => tm t rfl rfl fun a t => r_t t tv rfl (x_cmpI (b := decide (i_68 < a2)) t rfl rfl rfl) fun a t => wn ?_
    by_cases c537 : (decide (i_68 < a2)) = true
    · rw [if_pos c537] at H; refine wT t rfl c537 ?_; refine wq_skip ?_; refine tn ?_; obtain ⟨J_166, hJ_166, H⟩ := Jn.elim H; refine wc (fun a w' => ∃ (l_164 : (List Int)), J_166 l_164 = some r ∧ ST [] Tryz.f126.ntmps a [(0, va0), (1, .int .i64 a1), (2, .int .i64 a2), (6, .int .i64 i_68)] ∧ SH GG w w' [Row (Kd.int .u64) 27 va0 l_164]) ?_ ?_
      · rintro a W_165 ⟨l_164, H, t, s⟩; subst hJ_166
        dsimp only at H
        refine wR (.inl rfl) ?_; refine tm t rfl rfl fun a t => r_t t tv rfl (x_arI (r := w64 (i_68 + 1)) t rfl rfl rfl) fun a t => ta t rfl rfl fun a t => wn ?_; exact ⟨k_134, Nat.lt_succ_self _, l_164, (w64 (i_68 + 1)), H, t.keep _ ⟨rfl, rfl, rfl, rfl, tv⟩, s.pick [0]⟩
      · refine wq_block ?_; refine ws (.inl rfl) ?_; refine tm t rfl rfl fun a t => ta t rfl rfl fun a t => wn ?_; refine wq_block ?_; refine wq_loop_fuel (fun k_189 a w' => ∃ (l_177 : (List Int)), ∃ (i_178 : Int), slices_insertionSortOrdered_uint64.l1 a1 J_166 k_189 l_177 i_178 = some r ∧ ST [] Tryz.f126.ntmps a [(0, va0), (1, .int .i64 a1), (2, .int .i64 a2), (6, .int .i64 i_68), (7, .int .i64 i_178)] ∧ SH GG w w' [Row (Kd.int .u64) 27 va0 l_177]) k_134 ?_ ?_
        · exact ⟨l_67, i_68, H, t.keep _ ⟨rfl, rfl, rfl, rfl, rfl, tv⟩, s.pick [0]⟩
        · rintro k_189 a W_179 ⟨l_177, i_178, H, t, s⟩
          cases k_189 with
          | zero => rw [slices_insertionSortOrdered_uint64.l1] at H; cases H
          | succ k_189 =>
           rw [slices_insertionSortOrdered_uint64.l1] at H; refine wS ?_; refine wS ?_; refine wQ (.inl rfl) (fun w' => SH GG w w' [Row (Kd.int .u64) 27 va0 l_177]) (sh _ _ _) s.drew fo (by kernel_rfl) ?_; refine q_t t tv rfl (fun _ s => xm t rfl) fun a t => q_t t tv rfl (fun _ s => xm t rfl) fun a t => q_t t tv rfl (fun _ s => x_cmpI (b := decide (a1 < i_178)) t rfl rfl rfl) fun a t => q_t t tv rfl (fun _ s => xm t rfl) ?_; intro a t; obtain ⟨J_194, hJ_194, H⟩ := Jn.elim H; refine q_join 15 (fun a => ∃ (b_193 : Bool), J_194 b_193 = some r ∧ ST [] Tryz.f126.ntmps a [(0, va0), (1, .int .i64 a1), (2, .int .i64 a2), (6, .int .i64 i_68), (7, .int .i64 i_178), (30, .bool b_193)]) ?_ ?_
           · rintro a ⟨b_193, H, t⟩; subst hJ_194
             dsimp only at H
             refine q_nil ?_; intro w774 s; refine tn ?_
             by_cases c775 : b_193 = true
             · rw [if_pos c775] at H; refine wT t rfl c775 ?_; refine wq_skip ?_; refine tn ?_; refine wS ?_; refine wq_block ?_; have hw786_0 := s.row 0 rfl; refine wG (.inl rfl) (.fin [(3, 0), (3, 1), (3, 2), (3, 3), (3, 4), (3, 5), (3, 6), (3, 7), (3, 8), (0, 9), (3, 10), (3, 11), (3, 12), (0, 13), (3, 14), (2, 15), (0, 16), (2, 17)]) (fun w' => SH GG w w' []) (fun w' => SH GG w w' [Row (Kd.int .u64) 27 va0 l_177]) (fun w' => SH GG w w' [Row (Kd.int .u64) 27 va0 l_177]) (sh _ _ _) (sh _ _ _) (sh _ _ _) (sb [] rfl) (sb [0] rfl) s.drew fo (by kernel_rfl) ?_; refine t_fin ?_; refine m_p t tv rfl (fun _ => xm t rfl) fun a t => m_p t tv rfl (fun _ => xm t rfl) fun a t => m_p t tv rfl (fun _ => xm t rfl) fun a t => m_p t tv rfl (fun _ => xm t rfl) fun a t => m_p t tv rfl (fun _ => x_arI (r := w64 (i_178 - 1)) t rfl rfl rfl) fun a t => m_p t tv rfl (fun _ => xm t rfl) fun a t => m_p t tv rfl (fun _ => xm t rfl) fun a t => m_p t tv rfl (fun _ => x_arI (r := w64 (i_178 - 1)) t rfl rfl rfl) ?_; intro a t; obtain ⟨x787, hx787, H⟩ := bsI H; refine m_p t tv rfl (fun _ => xi t Tryz.underlying144 el_27 rfl rfl hw786_0 hx787) fun a t => m_t t tv rfl (fun _ s => xl (j := 0) (cs := [.int .u64 x787]) t sc_27 rfl (s.row 0 rfl) (Same.refl _ _) hx787 rfl (fun _ h => h) rfl) fun a t => m_p t tv rfl (fun _ => xm t rfl) fun a t => m_p t tv rfl (fun _ => xm t rfl) ?_; intro a t; obtain ⟨x788, hx788, H⟩ := bsI H; refine m_p t tv rfl (fun _ => xi t Tryz.underlying144 el_27 rfl rfl hw786_0 hx788) fun a t => m_t t tv rfl (fun _ s => xl (j := 0) (cs := [.int .u64 x788]) t sc_27 rfl (s.row 0 rfl) (Same.refl _ _) hx788 rfl (fun _ h => h) rfl) ?_; intro a t
               obtain ⟨x789, hx789, H⟩ := bsI H; refine m_p t tv rfl (fun _ => xi t Tryz.underlying144 el_27 rfl rfl hw786_0 hx789) fun a t => m_loud (.inr rfl) ?_; intro w790 s; obtain ⟨l791, hl791, H⟩ := bsI H; refine xS (i := 0) (off := 0) (new := x787) (cs' := [.int .u64 x787]) t s tv sc_27 rfl rfl rfl hx789 rfl (Nat.le_of_ble_eq_true rfl) rfl (fun _ _ _ h => by rw [h]; rfl) (fun _ _ => rfl) ?_; intro a w792 s t; rw [← upd_some hl791] at s; refine m_turn s (sb [] rfl) ?_; obtain ⟨x793, hx793, H⟩ := bsI H; refine m_t t tv rfl (fun _ s => xi t Tryz.underlying144 el_27 rfl rfl (s.row 0 rfl) hx793) fun a t => m_loud (.inr rfl) ?_; intro w794 s; obtain ⟨l795, hl795, H⟩ := bsI H; refine xS (i := 0) (off := 0) (new := x788) (cs' := [.int .u64 x788]) t s tv sc_27 rfl rfl rfl hx793 rfl (Nat.le_of_ble_eq_true rfl) rfl (fun _ _ _ h => by rw [h]; rfl) (fun _ _ => rfl) ?_; intro a w796 s t; rw [← upd_some hl795] at s; refine m_turn s (sb [] rfl) ?_; refine m_nil ?_; intro w797 s; refine qn_normal ?_; refine block_normal ?_; refine tn ?_; refine wR (.inl rfl) ?_; refine tm t rfl rfl fun a t => r_t t tv rfl (x_arI (r := w64 (i_178 - 1)) t rfl rfl rfl) fun a t => ta t rfl rfl fun a t => wn ?_; exact ⟨k_189, Nat.lt_succ_self _, l795, (w64 (i_178 - 1)), H, t.keep _ ⟨rfl, rfl, rfl, rfl, rfl, tv⟩, s.pick [0]⟩
             · rw [if_neg c775] at H; replace c775 := bfI c775; refine wF t rfl c775 ?_; refine wq_exit ?_; refine te ?_; refine te ?_; refine block_hit ?_; refine block_normal ?_; refine tn ?_; exact ⟨l_177, H, t.keep _ ⟨rfl, rfl, rfl, rfl, tv⟩, s.pick [0]⟩
           · intro hj
             by_cases c769 : (decide (a1 < i_178)) = true
             · rw [if_pos c769] at H; refine q_t t (wt_of 19 rfl rfl c769) rfl (fun _ s => xm t rfl) fun a t => q_t t (wt_of 19 rfl rfl c769) rfl (fun _ s => xm t rfl) ?_; intro a t; obtain ⟨x798, hx798, H⟩ := bsI H; refine q_t t (wt_of 19 rfl rfl c769) rfl (fun _ s => xi t Tryz.underlying144 el_27 rfl rfl (s.row 0 rfl) hx798) fun a t => q_t t (wt_of 19 rfl rfl c769) rfl (fun _ s => xl (j := 0) (cs := [.int .u64 x798]) t sc_27 rfl (s.row 0 rfl) (Same.refl _ _) hx798 rfl (fun _ h => h) rfl) fun a t => q_t t (wt_of 19 rfl rfl c769) rfl (fun _ s => xm t rfl) fun a t => q_t t (wt_of 19 rfl rfl c769) rfl (fun _ s => xm t rfl) fun a t => q_t t (wt_of 19 rfl rfl c769) rfl (fun _ s => x_arI (r := w64 (i_178 - 1)) t rfl rfl rfl) ?_; intro a t; obtain ⟨x799, hx799, H⟩ := bsI H; refine q_t t (wt_of 19 rfl rfl c769) rfl (fun _ s => xi t Tryz.underlying144 el_27 rfl rfl (s.row 0 rfl) hx799) fun a t => q_t t (wt_of 19 rfl rfl c769) rfl (fun _ s => xl (j := 0) (cs := [.int .u64 x799]) t sc_27 rfl (s.row 0 rfl) (Same.refl _ _) hx799 rfl (fun _ h => h) rfl) ?_; intro a t; obtain ⟨r800, hr800, H⟩ := bsI H; refine q_call t (wt_of 19 rfl rfl c769) rfl fn_132 rfl (fun w9 s => cmp_Less_uint64.calls _ x798 x799 r800 hr800) fun a t => q_t t tv rfl (fun _ s => x_pickT t rfl c769 rfl) ?_; intro a t; exact hj _ ⟨r800, H, t.keep _ ⟨rfl, rfl, rfl, rfl, rfl, rfl, tv⟩⟩
             · rw [if_neg c769] at H; replace c769 := bfI c769; refine q_not t 19 rfl rfl c769 rfl fun a t => q_not t 19 rfl rfl c769 rfl fun a t => q_not t 19 rfl rfl c769 rfl fun a t => q_not t 19 rfl rfl c769 rfl fun a t => q_not t 19 rfl rfl c769 rfl fun a t => q_not t 19 rfl rfl c769 rfl fun a t => q_not t 19 rfl rfl c769 rfl fun a t => q_not t 19 rfl rfl c769 rfl fun a t => q_not t 19 rfl rfl c769 rfl fun a t => q_not t 19 rfl rfl c769 rfl fun a t => q_t t tv rfl (fun _ s => x_pickF t rfl c769 rfl) ?_; intro a t; exact hj _ ⟨false, H, t.keep _ ⟨rfl, rfl, rfl, rfl, rfl, rfl, tv⟩⟩
    · rw [if_neg c537] at H; replace c537 := bfI c537; refine wF t rfl c537 ?_; refine wq_exit ?_; refine te ?_; refine te ?_; refine block_hit ?_; obtain rfl := oi H; exact end0 t rfl ⟨rfl, s.pick [0]⟩

theorem slices_siftDownOrdered_uint64.calls (k : Nat) (w : World) (GG : Nat → Prop) (va0 : Value) (a0 : (List Int)) (a1 : Int) (a2 : Int) (a3 : Int) (hsep : Sep GG w [Row (Kd.int .u64) 27 va0 a0]) (r : (List Int)) (h : slices_siftDownOrdered_uint64 k a0 a1 a2 a3 = some r) :
    Calls Tryz.prog 141 ([va0, .int .i64 a1, .int .i64 a2, .int .i64 a3] : List Value).toArray w fun e w' => e = .returned (.tuple #[]) ∧ SH GG w w' [Row (Kd.int .u64) 27 va0 r] := by
 have H := h; clear h
 unfold slices_siftDownOrdered_uint64 at H
 refine calls_enter Tryz.func141 rfl rfl ?_; intro a t; have s := SH.start hsep; refine ws (.inl rfl) ?_; refine tm t rfl rfl fun a t => ta t rfl rfl fun a t => wn ?_; refine wq_block ?_; refine wq_loop_fuel (fun k_32 a w' => ∃ (l_16 : (List Int)), ∃ (i_17 : Int), slices_siftDownOrdered_uint64.l0 a2 a3 k_32 l_16 i_17 = some r ∧ ST [] Tryz.f141.ntmps a [(0, va0), (2, .int .i64 a2), (3, .int .i64 a3), (8, .int .i64 i_17)] ∧ SH GG w w' [Row (Kd.int .u64) 27 va0 l_16]) k ?_ ?_
 · exact ⟨a0, a1, H, t.keep _ ⟨rfl, rfl, rfl, rfl, tv⟩, s.pick [0]⟩
 · rintro k_32 a W_18 ⟨l_16, i_17, H, t, s⟩
   cases k_32 with
   | zero => rw [slices_siftDownOrdered_uint64.l0] at H; cases H
   | succ k_32 =>
    rw [slices_siftDownOrdered_uint64.l0] at H; refine wq_block ?_; refine ws (.inl rfl) ?_; refine tm t rfl rfl fun a t => r_t t tv rfl (x_arI (r := w64 (2 * i_17)) t rfl rfl rfl) fun a t => r_t t tv rfl (x_arI (r := w64 ((w64 (2 * i_17)) + 1)) t rfl rfl rfl) fun a t => ta t rfl rfl fun a t => wn ?_; refine wS ?_; refine ws (.inl rfl) ?_; refine tm t rfl rfl fun a t => tm t rfl rfl fun a t => r_t t tv rfl (x_cmpI (b := decide (a2 ≤ (w64 ((w64 (2 * i_17)) + 1)))) t rfl rfl rfl) fun a t => wn ?_
    by_cases c98 : (decide (a2 ≤ (w64 ((w64 (2 * i_17)) + 1)))) = true
    · rw [if_pos c98] at H; refine wT t rfl c98 ?_; refine wq_exit ?_; refine te ?_; refine block_miss rfl ?_; refine te ?_; refine block_hit ?_; obtain rfl := oi H; exact end0 t rfl ⟨rfl, s.pick [0]⟩
    · rw [if_neg c98] at H; replace c98 := bfI c98; refine wF t rfl c98 ?_; refine wq_skip ?_; refine tn ?_; obtain ⟨J_38, hJ_38, H⟩ := Jn.elim H; refine wc (fun a w' => ∃ (i_36 : Int), J_38 i_36 = some r ∧ ST [] Tryz.f141.ntmps a [(0, va0), (2, .int .i64 a2), (3, .int .i64 a3), (8, .int .i64 i_17), (9, .int .i64 i_36)] ∧ SH GG w w' [Row (Kd.int .u64) 27 va0 l_16]) ?_ ?_
      · rintro a W_37 ⟨i_36, H, t, s⟩; subst hJ_38
        dsimp only at H
        refine wS ?_; refine wS ?_; refine wQ (.inl rfl) (fun w' => SH GG w w' [Row (Kd.int .u64) 27 va0 l_16]) (sh _ _ _) s.drew fo (by kernel_rfl) ?_; refine q_t t tv rfl (fun _ s => xm t rfl) fun a t => q_t t tv rfl (fun _ s => xm t rfl) fun a t => q_t t tv rfl (fun _ s => xm t rfl) fun a t => q_t t tv rfl (fun _ s => x_arI (r := w64 (a3 + i_17)) t rfl rfl rfl) ?_; intro a t; obtain ⟨x116, hx116, H⟩ := bsI H; refine q_t t tv rfl (fun _ s => xi t Tryz.underlying144 el_27 rfl rfl (s.row 0 rfl) hx116) fun a t => q_t t tv rfl (fun _ s => xl (j := 0) (cs := [.int .u64 x116]) t sc_27 rfl (s.row 0 rfl) (Same.refl _ _) hx116 rfl (fun _ h => h) rfl) fun a t => q_t t tv rfl (fun _ s => xm t rfl) fun a t => q_t t tv rfl (fun _ s => xm t rfl) fun a t => q_t t tv rfl (fun _ s => xm t rfl) fun a t => q_t t tv rfl (fun _ s => x_arI (r := w64 (a3 + i_36)) t rfl rfl rfl) ?_; intro a t; obtain ⟨x117, hx117, H⟩ := bsI H; refine q_t t tv rfl (fun _ s => xi t Tryz.underlying144 el_27 rfl rfl (s.row 0 rfl) hx117) fun a t => q_t t tv rfl (fun _ s => xl (j := 0) (cs := [.int .u64 x117]) t sc_27 rfl (s.row 0 rfl) (Same.refl _ _) hx117 rfl (fun _ h => h) rfl) ?_; intro a t; obtain ⟨r118, hr118, H⟩ := bsI H; refine q_call t tv rfl fn_132 rfl (fun w9 s => cmp_Less_uint64.calls _ x116 x117 r118 hr118) fun a t => q_t t tv rfl (fun _ s => x_notB t rfl) fun a t => q_nil ?_; intro w120 s; refine tn ?_
        by_cases c121 : (!r118) = true
        · rw [if_pos c121] at H; refine wT t rfl c121 ?_; refine wq_ret ?_; refine then_ret ?_; refine block_ret ?_; refine then_ret ?_; refine block_ret ?_; obtain rfl := oi H; exact ret0 t rfl ⟨rfl, s.pick [0]⟩
        · rw [if_neg c121] at H; replace c121 := bfI c121; refine wF t rfl c121 ?_; refine wq_skip ?_; refine tn ?_; refine wS ?_; have hw121_0 := s.row 0 rfl; refine wG (.inl rfl) (.fin [(3, 0), (3, 1), (3, 2), (3, 3), (3, 4), (3, 5), (3, 6), (3, 7), (3, 8), (3, 9), (3, 10), (3, 11), (3, 12), (0, 13), (3, 14), (3, 15), (3, 16), (3, 17), (3, 18), (0, 19), (3, 20), (2, 21), (0, 22), (2, 23)]) (fun w' => SH GG w w' []) (fun w' => SH GG w w' [Row (Kd.int .u64) 27 va0 l_16]) (fun w' => SH GG w w' [Row (Kd.int .u64) 27 va0 l_16]) (sh _ _ _) (sh _ _ _) (sh _ _ _) (sb [] rfl) (sb [0] rfl) s.drew fo (by kernel_rfl) ?_; refine t_fin ?_; refine m_p t tv rfl (fun _ => xm t rfl) fun a t => m_p t tv rfl (fun _ => xm t rfl) fun a t => m_p t tv rfl (fun _ => xm t rfl) fun a t => m_p t tv rfl (fun _ => x_arI (r := w64 (a3 + i_17)) t rfl rfl rfl) fun a t => m_p t tv rfl (fun _ => xm t rfl) fun a t => m_p t tv rfl (fun _ => xm t rfl) fun a t => m_p t tv rfl (fun _ => xm t rfl) fun a t => m_p t tv rfl (fun _ => x_arI (r := w64 (a3 + i_36)) t rfl rfl rfl) fun a t => m_p t tv rfl (fun _ => xm t rfl) fun a t => m_p t tv rfl (fun _ => xm t rfl) fun a t => m_p t tv rfl (fun _ => xm t rfl) fun a t => m_p t tv rfl (fun _ => x_arI (r := w64 (a3 + i_36)) t rfl rfl rfl) ?_; intro a t; obtain ⟨x122, hx122, H⟩ := bsI H; refine m_p t tv rfl (fun _ => xi t Tryz.underlying144 el_27 rfl rfl hw121_0 hx122) fun a t => m_t t tv rfl (fun _ s => xl (j := 0) (cs := [.int .u64 x122]) t sc_27 rfl (s.row 0 rfl) (Same.refl _ _) hx122 rfl (fun _ h => h) rfl) fun a t => m_p t tv rfl (fun _ => xm t rfl) ?_; intro a t
          refine m_p t tv rfl (fun _ => xm t rfl) fun a t => m_p t tv rfl (fun _ => xm t rfl) fun a t => m_p t tv rfl (fun _ => x_arI (r := w64 (a3 + i_17)) t rfl rfl rfl) ?_; intro a t; obtain ⟨x123, hx123, H⟩ := bsI H; refine m_p t tv rfl (fun _ => xi t Tryz.underlying144 el_27 rfl rfl hw121_0 hx123) fun a t => m_t t tv rfl (fun _ s => xl (j := 0) (cs := [.int .u64 x123]) t sc_27 rfl (s.row 0 rfl) (Same.refl _ _) hx123 rfl (fun _ h => h) rfl) ?_; intro a t; obtain ⟨x124, hx124, H⟩ := bsI H; refine m_p t tv rfl (fun _ => xi t Tryz.underlying144 el_27 rfl rfl hw121_0 hx124) fun a t => m_loud (.inr rfl) ?_; intro w125 s; obtain ⟨l126, hl126, H⟩ := bsI H; refine xS (i := 0) (off := 0) (new := x122) (cs' := [.int .u64 x122]) t s tv sc_27 rfl rfl rfl hx124 rfl (Nat.le_of_ble_eq_true rfl) rfl (fun _ _ _ h => by rw [h]; rfl) (fun _ _ => rfl) ?_; intro a w127 s t; rw [← upd_some hl126] at s; refine m_turn s (sb [] rfl) ?_; obtain ⟨x128, hx128, H⟩ := bsI H; refine m_t t tv rfl (fun _ s => xi t Tryz.underlying144 el_27 rfl rfl (s.row 0 rfl) hx128) fun a t => m_loud (.inr rfl) ?_; intro w129 s; obtain ⟨l130, hl130, H⟩ := bsI H; refine xS (i := 0) (off := 0) (new := x123) (cs' := [.int .u64 x123]) t s tv sc_27 rfl rfl rfl hx128 rfl (Nat.le_of_ble_eq_true rfl) rfl (fun _ _ _ h => by rw [h]; rfl) (fun _ _ => rfl) ?_; intro a w131 s t; rw [← upd_some hl130] at s; refine m_turn s (sb [] rfl) ?_; refine m_nil ?_; intro w132 s; refine qn_normal ?_; refine tn ?_; refine wR (.inl rfl) ?_; refine tm t rfl rfl fun a t => ta t rfl rfl fun a t => wpL_nil ?_
          refine block_normal ?_; refine tn ?_; exact ⟨k_32, Nat.lt_succ_self _, l130, i_36, H, t.keep _ ⟨rfl, rfl, rfl, rfl, tv⟩, s.pick [0]⟩
      · refine wS ?_; refine wQ (.inl rfl) (fun w' => SH GG w w' [Row (Kd.int .u64) 27 va0 l_16]) (sh _ _ _) s.drew fo (by kernel_rfl) ?_; refine q_t t tv rfl (fun _ s => xm t rfl) fun a t => q_t t tv rfl (fun _ s => x_arI (r := w64 ((w64 ((w64 (2 * i_17)) + 1)) + 1)) t rfl rfl rfl) fun a t => q_t t tv rfl (fun _ s => xm t rfl) fun a t => q_t t tv rfl (fun _ s => x_cmpI (b := decide ((w64 ((w64 ((w64 (2 * i_17)) + 1)) + 1)) < a2)) t rfl rfl rfl) fun a t => q_t t tv rfl (fun _ s => xm t rfl) ?_; intro a t; obtain ⟨J_40, hJ_40, H⟩ := Jn.elim H; refine q_join 20 (fun a => ∃ (b_39 : Bool), J_40 b_39 = some r ∧ ST [] Tryz.f141.ntmps a [(0, va0), (2, .int .i64 a2), (3, .int .i64 a3), (8, .int .i64 i_17), (9, .int .i64 (w64 ((w64 (2 * i_17)) + 1))), (36, .bool b_39)]) ?_ ?_
        · rintro a ⟨b_39, H, t⟩; subst hJ_40
          dsimp only at H
          refine q_nil ?_; intro w138 s; refine tn ?_
          by_cases c139 : b_39 = true
          · rw [if_pos c139] at H; refine wT t rfl c139 ?_; refine wR (.inl rfl) ?_; refine tm t rfl rfl fun a t => r_t t tv rfl (x_arI (r := w64 ((w64 ((w64 (2 * i_17)) + 1)) + 1)) t rfl rfl rfl) fun a t => ta t rfl rfl fun a t => wn ?_; exact ⟨(w64 ((w64 ((w64 (2 * i_17)) + 1)) + 1)), H, t.keep _ ⟨rfl, rfl, rfl, rfl, rfl, tv⟩, s.pick [0]⟩
          · rw [if_neg c139] at H; replace c139 := bfI c139; refine wF t rfl c139 ?_; refine wq_skip ?_; refine tn ?_; exact ⟨(w64 ((w64 (2 * i_17)) + 1)), H, t.keep _ ⟨rfl, rfl, rfl, rfl, rfl, tv⟩, s.pick [0]⟩
        · intro hj
          by_cases c133 : (decide ((w64 ((w64 ((w64 (2 * i_17)) + 1)) + 1)) < a2)) = true
          · rw [if_pos c133] at H; refine q_t t (wt_of 21 rfl rfl c133) rfl (fun _ s => xm t rfl) fun a t => q_t t (wt_of 21 rfl rfl c133) rfl (fun _ s => xm t rfl) fun a t => q_t t (wt_of 21 rfl rfl c133) rfl (fun _ s => xm t rfl) fun a t => q_t t (wt_of 21 rfl rfl c133) rfl (fun _ s => x_arI (r := w64 (a3 + (w64 ((w64 (2 * i_17)) + 1)))) t rfl rfl rfl) ?_; intro a t; obtain ⟨x140, hx140, H⟩ := bsI H; refine q_t t (wt_of 21 rfl rfl c133) rfl (fun _ s => xi t Tryz.underlying144 el_27 rfl rfl (s.row 0 rfl) hx140) fun a t => q_t t (wt_of 21 rfl rfl c133) rfl (fun _ s => xl (j := 0) (cs := [.int .u64 x140]) t sc_27 rfl (s.row 0 rfl) (Same.refl _ _) hx140 rfl (fun _ h => h) rfl) fun a t => q_t t (wt_of 21 rfl rfl c133) rfl (fun _ s => xm t rfl) fun a t => q_t t (wt_of 21 rfl rfl c133) rfl (fun _ s => xm t rfl) fun a t => q_t t (wt_of 21 rfl rfl c133) rfl (fun _ s => xm t rfl) fun a t => q_t t (wt_of 21 rfl rfl c133) rfl (fun _ s => x_arI (r := w64 (a3 + (w64 ((w64 (2 * i_17)) + 1)))) t rfl rfl rfl) fun a t => q_t t (wt_of 21 rfl rfl c133) rfl (fun _ s => x_arI (r := w64 ((w64 (a3 + (w64 ((w64 (2 * i_17)) + 1)))) + 1)) t rfl rfl rfl) ?_; intro a t; obtain ⟨x141, hx141, H⟩ := bsI H; refine q_t t (wt_of 21 rfl rfl c133) rfl (fun _ s => xi t Tryz.underlying144 el_27 rfl rfl (s.row 0 rfl) hx141) fun a t => q_t t (wt_of 21 rfl rfl c133) rfl (fun _ s => xl (j := 0) (cs := [.int .u64 x141]) t sc_27 rfl (s.row 0 rfl) (Same.refl _ _) hx141 rfl (fun _ h => h) rfl) ?_; intro a t; obtain ⟨r142, hr142, H⟩ := bsI H; refine q_call t (wt_of 21 rfl rfl c133) rfl fn_132 rfl (fun w9 s => cmp_Less_uint64.calls _ x140 x141 r142 hr142) fun a t => q_t t tv rfl (fun _ s => x_pickT t rfl c133 rfl) ?_; intro a t
            exact hj _ ⟨r142, H, t.keep _ ⟨rfl, rfl, rfl, rfl, rfl, rfl, tv⟩⟩
          · rw [if_neg c133] at H; replace c133 := bfI c133; refine q_not t 21 rfl rfl c133 rfl fun a t => q_not t 21 rfl rfl c133 rfl fun a t => q_not t 21 rfl rfl c133 rfl fun a t => q_not t 21 rfl rfl c133 rfl fun a t => q_not t 21 rfl rfl c133 rfl fun a t => q_not t 21 rfl rfl c133 rfl fun a t => q_not t 21 rfl rfl c133 rfl fun a t => q_not t 21 rfl rfl c133 rfl fun a t => q_not t 21 rfl rfl c133 rfl fun a t => q_not t 21 rfl rfl c133 rfl fun a t => q_not t 21 rfl rfl c133 rfl fun a t => q_not t 21 rfl rfl c133 rfl fun a t => q_not t 21 rfl rfl c133 rfl fun a t => q_not t 21 rfl rfl c133 rfl fun a t => q_t t tv rfl (fun _ s => x_pickF t rfl c133 rfl) ?_; intro a t; exact hj _ ⟨false, H, t.keep _ ⟨rfl, rfl, rfl, rfl, rfl, rfl, tv⟩⟩

theorem slices_heapSortOrdered_uint64.calls (k : Nat) (w : World) (GG : Nat → Prop) (va0 : Value) (a0 : (List Int)) (a1 : Int) (a2 : Int) (hsep : Sep GG w [Row (Kd.int .u64) 27 va0 a0]) (r : (List Int)) (h : slices_heapSortOrdered_uint64 k a0 a1 a2 = some r) :
    Calls Tryz.prog 127 ([va0, .int .i64 a1, .int .i64 a2] : List Value).toArray w fun e w' => e = .returned (.tuple #[]) ∧ SH GG w w' [Row (Kd.int .u64) 27 va0 r] := by
 have H := h; clear h
 unfold slices_heapSortOrdered_uint64 at H
 refine calls_enter Tryz.func127 rfl rfl ?_; intro a t; have s := SH.start hsep; refine ws (.inl rfl) ?_; refine tm t rfl rfl fun a t => ta t rfl rfl fun a t => wn ?_; refine ws (.inl rfl) ?_; refine ta t rfl rfl fun a t => wn ?_; refine ws (.inl rfl) ?_; refine tm t rfl rfl fun a t => tm t rfl rfl fun a t => r_t t tv rfl (x_arI (r := w64 (a2 - a1)) t rfl rfl rfl) fun a t => ta t rfl rfl fun a t => wn ?_; refine wS ?_; refine ws (.inl rfl) ?_; refine tm t rfl rfl fun a t => r_t t tv rfl (x_arI (r := w64 ((w64 (a2 - a1)) - 1)) t rfl rfl rfl) fun a t => r_t t tv rfl (x_quo t rfl rfl (by decide)) fun a t => ta t rfl rfl fun a t => wn ?_; refine wq_block ?_; refine wq_loop_fuel (fun k_32 a w' => ∃ (l_24 : (List Int)), ∃ (i_25 : Int), ∃ (i_26 : Int), slices_heapSortOrdered_uint64.l0 a1 k_32 l_24 i_25 i_26 = some r ∧ ST [] Tryz.f127.ntmps a [(0, va0), (6, .int .i64 a1), (7, .int .i64 0), (8, .int .i64 i_25), (9, .int .i64 i_26)] ∧ SH GG w w' [Row (Kd.int .u64) 27 va0 l_24]) k ?_ ?_
 · exact ⟨a0, (w64 (a2 - a1)), (w64 (Int.tdiv (w64 ((w64 (a2 - a1)) - 1)) 2)), H, t.keep _ ⟨rfl, rfl, rfl, rfl, rfl, tv⟩, s.pick [0]⟩
 · rintro k_32 a W_27 ⟨l_24, i_25, i_26, H, t, s⟩
   cases k_32 with
   | zero => rw [slices_heapSortOrdered_uint64.l0] at H; cases H
   | succ k_32 =>
    rw [slices_heapSortOrdered_uint64.l0] at H; refine wS ?_; refine ws (.inl rfl) ?_; refine tm t rfl rfl fun a t => r_t t tv rfl (x_cmpI (b := decide (0 ≤ i_26)) t rfl rfl rfl) fun a t => wn ?_
    by_cases c42 : (decide (0 ≤ i_26)) = true
    · rw [if_pos c42] at H; refine wT t rfl c42 ?_; refine wq_skip ?_; refine tn ?_; refine wS ?_; refine wq_block ?_; refine wR (.inl rfl) ?_; refine tm t rfl rfl fun a t => tm t rfl rfl fun a t => tm t rfl rfl fun a t => tm t rfl rfl fun a t => ?_; replace s := s.pick [0]; obtain ⟨GG48, hsp, hG, hbx, hfx, hk⟩ := SH.callD (L1 := [Row (Kd.int .u64) 27 va0 l_24]) (L2 := []) s; obtain ⟨r46, hr46, H⟩ := bsI H; refine r_callD t tv rfl fn_141 rfl (slices_siftDownOrdered_uint64.calls k_32 _ GG48 _ l_24 i_26 i_25 a1 hsp r46 hr46) ?_; rintro e w47 ⟨rfl, hc⟩; replace s := hk _ _ hc; clear hc; refine ⟨_, rfl, fun a t => ?_⟩; refine wpL_nil ?_; refine block_normal ?_; refine tn ?_; refine wR (.inl rfl) ?_; refine tm t rfl rfl fun a t => r_t t tv rfl (x_arI (r := w64 (i_26 - 1)) t rfl rfl rfl) fun a t => ta t rfl rfl fun a t => wn ?_; exact ⟨k_32, Nat.lt_succ_self _, r46, i_25, (w64 (i_26 - 1)), H, t.keep _ ⟨rfl, rfl, rfl, rfl, rfl, tv⟩, s.pick [0]⟩
    · rw [if_neg c42] at H; replace c42 := bfI c42; refine wF t rfl c42 ?_; refine wq_exit ?_; refine te ?_; refine te ?_; refine block_hit ?_; refine tn ?_; refine ws (.inl rfl) ?_; refine tm t rfl rfl fun a t => r_t t tv rfl (x_arI (r := w64 (i_25 - 1)) t rfl rfl rfl) fun a t => ta t rfl rfl fun a t => wn ?_; refine wq_block ?_; refine wq_loop_fuel (fun k_44 a w' => ∃ (l_38 : (List Int)), ∃ (i_39 : Int), slices_heapSortOrdered_uint64.l1 a1 k_44 l_38 i_39 = some r ∧ ST [] Tryz.f127.ntmps a [(0, va0), (6, .int .i64 a1), (7, .int .i64 0), (10, .int .i64 i_39)] ∧ SH GG w w' [Row (Kd.int .u64) 27 va0 l_38]) k_32 ?_ ?_
      · exact ⟨l_24, (w64 (i_25 - 1)), H, t.keep _ ⟨rfl, rfl, rfl, rfl, tv⟩, s.pick [0]⟩
      · rintro k_44 a W_40 ⟨l_38, i_39, H, t, s⟩
        cases k_44 with
        | zero => rw [slices_heapSortOrdered_uint64.l1] at H; cases H
        | succ k_44 =>
         rw [slices_heapSortOrdered_uint64.l1] at H; refine wS ?_; refine ws (.inl rfl) ?_; refine tm t rfl rfl fun a t => r_t t tv rfl (x_cmpI (b := decide (0 ≤ i_39)) t rfl rfl rfl) fun a t => wn ?_
         by_cases c110 : (decide (0 ≤ i_39)) = true
         · rw [if_pos c110] at H; refine wT t rfl c110 ?_; refine wq_skip ?_; refine tn ?_; refine wS ?_; refine wq_block ?_; refine wS ?_; have hw124_0 := s.row 0 rfl; refine wG (.inl rfl) (.fin [(3, 0), (3, 1), (3, 2), (3, 3), (3, 4), (3, 5), (3, 6), (3, 7), (3, 8), (3, 9), (3, 10), (0, 11), (3, 12), (3, 13), (3, 14), (0, 15), (3, 16), (2, 17), (0, 18), (2, 19)]) (fun w' => SH GG w w' []) (fun w' => SH GG w w' [Row (Kd.int .u64) 27 va0 l_38]) (fun w' => SH GG w w' [Row (Kd.int .u64) 27 va0 l_38]) (sh _ _ _) (sh _ _ _) (sh _ _ _) (sb [] rfl) (sb [0] rfl) s.drew fo (by kernel_rfl) ?_; refine t_fin ?_; refine m_p t tv rfl (fun _ => xm t rfl) fun a t => m_p t tv rfl (fun _ => xm t rfl) fun a t => m_p t tv rfl (fun _ => xm t rfl) fun a t => m_p t tv rfl (fun _ => xm t rfl) fun a t => m_p t tv rfl (fun _ => xm t rfl) fun a t => m_p t tv rfl (fun _ => x_arI (r := w64 (a1 + i_39)) t rfl rfl rfl) fun a t => m_p t tv rfl (fun _ => xm t rfl) fun a t => m_p t tv rfl (fun _ => xm t rfl) fun a t => m_p t tv rfl (fun _ => xm t rfl) fun a t => m_p t tv rfl (fun _ => x_arI (r := w64 (a1 + i_39)) t rfl rfl rfl) ?_; intro a t; obtain ⟨x125, hx125, H⟩ := bsI H; refine m_p t tv rfl (fun _ => xi t Tryz.underlying144 el_27 rfl rfl hw124_0 hx125) fun a t => m_t t tv rfl (fun _ s => xl (j := 0) (cs := [.int .u64 x125]) t sc_27 rfl (s.row 0 rfl) (Same.refl _ _) hx125 rfl (fun _ h => h) rfl) fun a t => m_p t tv rfl (fun _ => xm t rfl) fun a t => m_p t tv rfl (fun _ => xm t rfl) ?_; intro a t; obtain ⟨x126, hx126, H⟩ := bsI H; refine m_p t tv rfl (fun _ => xi t Tryz.underlying144 el_27 rfl rfl hw124_0 hx126) ?_; intro a t
           refine m_t t tv rfl (fun _ s => xl (j := 0) (cs := [.int .u64 x126]) t sc_27 rfl (s.row 0 rfl) (Same.refl _ _) hx126 rfl (fun _ h => h) rfl) ?_; intro a t; obtain ⟨x127, hx127, H⟩ := bsI H; refine m_p t tv rfl (fun _ => xi t Tryz.underlying144 el_27 rfl rfl hw124_0 hx127) fun a t => m_loud (.inr rfl) ?_; intro w128 s; obtain ⟨l129, hl129, H⟩ := bsI H; refine xS (i := 0) (off := 0) (new := x125) (cs' := [.int .u64 x125]) t s tv sc_27 rfl rfl rfl hx127 rfl (Nat.le_of_ble_eq_true rfl) rfl (fun _ _ _ h => by rw [h]; rfl) (fun _ _ => rfl) ?_; intro a w130 s t; rw [← upd_some hl129] at s; refine m_turn s (sb [] rfl) ?_; obtain ⟨x131, hx131, H⟩ := bsI H; refine m_t t tv rfl (fun _ s => xi t Tryz.underlying144 el_27 rfl rfl (s.row 0 rfl) hx131) fun a t => m_loud (.inr rfl) ?_; intro w132 s; obtain ⟨l133, hl133, H⟩ := bsI H; refine xS (i := 0) (off := 0) (new := x126) (cs' := [.int .u64 x126]) t s tv sc_27 rfl rfl rfl hx131 rfl (Nat.le_of_ble_eq_true rfl) rfl (fun _ _ _ h => by rw [h]; rfl) (fun _ _ => rfl) ?_; intro a w134 s t; rw [← upd_some hl133] at s; refine m_turn s (sb [] rfl) ?_; refine m_nil ?_; intro w135 s; refine qn_normal ?_; refine tn ?_; refine wR (.inl rfl) ?_; refine tm t rfl rfl fun a t => tm t rfl rfl fun a t => tm t rfl rfl fun a t => tm t rfl rfl fun a t => ?_; replace s := s.pick [0]; obtain ⟨GG138, hsp, hG, hbx, hfx, hk⟩ := SH.callD (L1 := [Row (Kd.int .u64) 27 va0 l133]) (L2 := []) s; obtain ⟨r136, hr136, H⟩ := bsI H; refine r_callD t tv rfl fn_141 rfl (slices_siftDownOrdered_uint64.calls k_44 _ GG138 _ l133 0 i_39 a1 hsp r136 hr136) ?_
           rintro e w137 ⟨rfl, hc⟩; replace s := hk _ _ hc; clear hc; refine ⟨_, rfl, fun a t => ?_⟩; refine wpL_nil ?_; refine block_normal ?_; refine tn ?_; refine wR (.inl rfl) ?_; refine tm t rfl rfl fun a t => r_t t tv rfl (x_arI (r := w64 (i_39 - 1)) t rfl rfl rfl) fun a t => ta t rfl rfl fun a t => wn ?_; exact ⟨k_44, Nat.lt_succ_self _, r136, (w64 (i_39 - 1)), H, t.keep _ ⟨rfl, rfl, rfl, rfl, tv⟩, s.pick [0]⟩
         · rw [if_neg c110] at H; replace c110 := bfI c110; refine wF t rfl c110 ?_; refine wq_exit ?_; refine te ?_; refine te ?_; refine block_hit ?_; obtain rfl := oi H; exact end0 t rfl ⟨rfl, s.pick [0]⟩

theorem slices_breakPatternsOrdered_uint64.calls (k : Nat) (w : World) (GG : Nat → Prop) (va0 : Value) (a0 : (List Int)) (a1 : Int) (a2 : Int) (hsep : Sep GG w [Row (Kd.int .u64) 27 va0 a0]) (r : (List Int)) (h : slices_breakPatternsOrdered_uint64 k a0 a1 a2 = some r) :
    Calls Tryz.prog 128 ([va0, .int .i64 a1, .int .i64 a2] : List Value).toArray w fun e w' => e = .returned (.tuple #[]) ∧ SH GG w w' [Row (Kd.int .u64) 27 va0 r] := by
 have H := h; clear h
 unfold slices_breakPatternsOrdered_uint64 at H
 refine calls_enter Tryz.func128 rfl rfl ?_; intro a t; have s := SH.start hsep; refine ws (.inl rfl) ?_; refine tm t rfl rfl fun a t => tm t rfl rfl fun a t => r_t t tv rfl (x_arI (r := w64 (a2 - a1)) t rfl rfl rfl) fun a t => ta t rfl rfl fun a t => wn ?_; refine ws (.inl rfl) ?_; refine tm t rfl rfl fun a t => r_t t tv rfl (x_cmpI (b := decide (8 ≤ (w64 (a2 - a1)))) t rfl rfl rfl) fun a t => wn ?_
 by_cases c1 : (decide (8 ≤ (w64 (a2 - a1)))) = true
 · rw [if_pos c1] at H; refine wT t rfl c1 ?_; refine ws (.inl rfl) ?_; refine tm t rfl rfl fun a t => r_t t tv rfl (x_convI t Tryz.underlying3 Tryz.underlying185 rfl) fun a t => r_alloc t s tv rfl zr_185 ?_; intro g2 a w3 hgg2 s t; refine r_storeB (i := 0) (cs' := [.int .u64 (wu64 (w64 (a2 - a1)))]) t s tv sc_185 rfl rfl rfl rfl rfl rfl ?_; intro a w4 s t; refine wn ?_; refine ws (.inl rfl) ?_; refine tm t rfl rfl fun a t => ?_; obtain ⟨r5, hr5, H⟩ := bsI H; refine r_callD t tv rfl fn_136 rfl (slices_nextPowerOfTwo.calls _ (w64 (a2 - a1)) r5 hr5) ?_; rintro e w6 ⟨rfl, hc⟩; replace s := s.call0 hc; clear hc; refine ⟨_, rfl, fun a t => ?_⟩; refine ta t rfl rfl fun a t => wn ?_; refine ws (.inl rfl) ?_; refine tm t rfl rfl fun a t => tm t rfl rfl fun a t => r_t t tv rfl (x_quo t rfl rfl (by decide)) fun a t => r_t t tv rfl (x_arI (r := w64 ((w64 (Int.tdiv (w64 (a2 - a1)) 4)) * 2)) t rfl rfl rfl) fun a t => r_t t tv rfl (x_arI (r := w64 (a1 + (w64 ((w64 (Int.tdiv (w64 (a2 - a1)) 4)) * 2)))) t rfl rfl rfl) fun a t => r_t t tv rfl (x_arI (r := w64 ((w64 (a1 + (w64 ((w64 (Int.tdiv (w64 (a2 - a1)) 4)) * 2)))) - 1)) t rfl rfl rfl) fun a t => ta t rfl rfl fun a t => wn ?_; refine wq_block ?_; refine wq_loop_fuel (fun k_32 a w' => ∃ (l_16 : (List Int)), ∃ (i_17 : Int), ∃ (i_18 : Int), ∃ (i_19 : Int), slices_breakPatternsOrdered_uint64.l0 a1 r5 k_32 l_16 i_17 i_18 i_19 = some r ∧ ST [] Tryz.f128.ntmps a [(0, va0), (1, .int .i64 a1), (6, .int .i64 i_17), (7, .pointer (some ⟨g2, 0, none⟩)), (8, .int .u64 r5), (9, .int .i64 i_19)] ∧ SH GG w w' [Row (Kd.int .u64) 27 va0 l_16, Box g2 [.int .u64 i_18] 185]) k ?_ ?_
   · exact ⟨a0, (w64 (a2 - a1)), (wu64 (w64 (a2 - a1))), (w64 ((w64 (a1 + (w64 ((w64 (Int.tdiv (w64 (a2 - a1)) 4)) * 2)))) - 1)), H, t.keep _ ⟨rfl, rfl, rfl, rfl, rfl, rfl, tv⟩, s.pick [1, 0]⟩
   · rintro k_32 a W_20 ⟨l_16, i_17, i_18, i_19, H, t, s⟩
     cases k_32 with
     | zero => rw [slices_breakPatternsOrdered_uint64.l0] at H; cases H
     | succ k_32 =>
      rw [slices_breakPatternsOrdered_uint64.l0] at H; refine wS ?_; refine ws (.inl rfl) ?_; refine tm t rfl rfl fun a t => tm t rfl rfl fun a t => tm t rfl rfl fun a t => r_t t tv rfl (x_quo t rfl rfl (by decide)) fun a t => r_t t tv rfl (x_arI (r := w64 ((w64 (Int.tdiv i_17 4)) * 2)) t rfl rfl rfl) fun a t => r_t t tv rfl (x_arI (r := w64 (a1 + (w64 ((w64 (Int.tdiv i_17 4)) * 2)))) t rfl rfl rfl) fun a t => r_t t tv rfl (x_arI (r := w64 ((w64 (a1 + (w64 ((w64 (Int.tdiv i_17 4)) * 2)))) + 1)) t rfl rfl rfl) fun a t => r_t t tv rfl (x_cmpI (b := decide (i_19 ≤ (w64 ((w64 (a1 + (w64 ((w64 (Int.tdiv i_17 4)) * 2)))) + 1)))) t rfl rfl rfl) fun a t => wn ?_
      by_cases c77 : (decide (i_19 ≤ (w64 ((w64 (a1 + (w64 ((w64 (Int.tdiv i_17 4)) * 2)))) + 1)))) = true
      · rw [if_pos c77] at H; refine wT t rfl c77 ?_; refine wq_skip ?_; refine tn ?_; refine wS ?_; refine wq_block ?_; refine ws (.inl rfl) ?_; replace s := s.pick [1, 0]; obtain ⟨GG96, hsp, hG, hbx, hfx, hk⟩ := SH.callD (L1 := [Box g2 [.int .u64 i_18] 185]) (L2 := [Row (Kd.int .u64) 27 va0 l_16]) s; obtain ⟨r94, hr94, H⟩ := bsI H; refine r_callD t tv rfl fn_137 rfl (slices_xorshift_Next.calls _ GG96 g2 i_18 hsp r94 hr94) ?_; rintro e w95 ⟨rfl, hc⟩; replace s := hk _ _ hc; clear hc; refine ⟨_, rfl, fun a t => ?_⟩; refine tm t rfl rfl fun a t => r_t t tv rfl (x_arI (r := wu64 (r5 - 1)) t rfl rfl rfl) fun a t => r_t t tv rfl (x_arI (r := (bits .and .u64 r94.1 (wu64 (r5 - 1)))) t rfl rfl rfl) fun a t => r_t t tv rfl (x_convI t Tryz.underlying165 Tryz.underlying3 rfl) fun a t => ta t rfl rfl fun a t => wn ?_; obtain ⟨J_38, hJ_38, H⟩ := Jn.elim H; refine wc (fun a w' => ∃ (i_36 : Int), J_38 i_36 = some r ∧ ST [] Tryz.f128.ntmps a [(0, va0), (1, .int .i64 a1), (6, .int .i64 i_17), (7, .pointer (some ⟨g2, 0, none⟩)), (8, .int .u64 r5), (9, .int .i64 i_19), (10, .int .i64 i_36)] ∧ SH GG w w' [Row (Kd.int .u64) 27 va0 l_16, Box g2 [.int .u64 r94.2] 185]) ?_ ?_
        · rintro a W_37 ⟨i_36, H, t, s⟩; subst hJ_38
          dsimp only at H
          have hw97_0 := s.row 0 rfl; refine wG (.inl rfl) (.fin [(3, 0), (3, 1), (3, 2), (3, 3), (3, 4), (3, 5), (3, 6), (3, 7), (3, 8), (3, 9), (3, 10), (0, 11), (3, 12), (3, 13), (3, 14), (0, 15), (3, 16), (2, 17), (0, 18), (2, 19)]) (fun w' => SH GG w w' [Box g2 [.int .u64 r94.2] 185]) (fun w' => SH GG w w' [Row (Kd.int .u64) 27 va0 l_16, Box g2 [.int .u64 r94.2] 185]) (fun w' => SH GG w w' [Row (Kd.int .u64) 27 va0 l_16, Box g2 [.int .u64 r94.2] 185]) (sh _ _ _) (sh _ _ _) (sh _ _ _) (sb [1] rfl) (sb [0, 0] rfl) s.drew fo (by kernel_rfl) ?_; refine t_fin ?_; refine m_p t tv rfl (fun _ => xm t rfl) fun a t => m_p t tv rfl (fun _ => xm t rfl) fun a t => m_p t tv rfl (fun _ => xm t rfl) fun a t => m_p t tv rfl (fun _ => xm t rfl) fun a t => m_p t tv rfl (fun _ => xm t rfl) fun a t => m_p t tv rfl (fun _ => x_arI (r := w64 (a1 + i_36)) t rfl rfl rfl) fun a t => m_p t tv rfl (fun _ => xm t rfl) fun a t => m_p t tv rfl (fun _ => xm t rfl) fun a t => m_p t tv rfl (fun _ => xm t rfl) fun a t => m_p t tv rfl (fun _ => x_arI (r := w64 (a1 + i_36)) t rfl rfl rfl) ?_; intro a t; obtain ⟨x98, hx98, H⟩ := bsI H; refine m_p t tv rfl (fun _ => xi t Tryz.underlying144 el_27 rfl rfl hw97_0 hx98) fun a t => m_t t tv rfl (fun _ s => xl (j := 0) (cs := [.int .u64 x98]) t sc_27 rfl (s.row 0 rfl) (Same.refl _ _) hx98 rfl (fun _ h => h) rfl) fun a t => m_p t tv rfl (fun _ => xm t rfl) fun a t => m_p t tv rfl (fun _ => xm t rfl) ?_; intro a t; obtain ⟨x99, hx99, H⟩ := bsI H; refine m_p t tv rfl (fun _ => xi t Tryz.underlying144 el_27 rfl rfl hw97_0 hx99) ?_; intro a t
          refine m_t t tv rfl (fun _ s => xl (j := 0) (cs := [.int .u64 x99]) t sc_27 rfl (s.row 0 rfl) (Same.refl _ _) hx99 rfl (fun _ h => h) rfl) ?_; intro a t; obtain ⟨x100, hx100, H⟩ := bsI H; refine m_p t tv rfl (fun _ => xi t Tryz.underlying144 el_27 rfl rfl hw97_0 hx100) fun a t => m_loud (.inr rfl) ?_; intro w101 s; obtain ⟨l102, hl102, H⟩ := bsI H; refine xS (i := 0) (off := 0) (new := x98) (cs' := [.int .u64 x98]) t s tv sc_27 rfl rfl rfl hx100 rfl (Nat.le_of_ble_eq_true rfl) rfl (fun _ _ _ h => by rw [h]; rfl) (fun _ _ => rfl) ?_; intro a w103 s t; rw [← upd_some hl102] at s; refine m_turn s (sb [1] rfl) ?_; obtain ⟨x104, hx104, H⟩ := bsI H; refine m_t t tv rfl (fun _ s => xi t Tryz.underlying144 el_27 rfl rfl (s.row 0 rfl) hx104) fun a t => m_loud (.inr rfl) ?_; intro w105 s; obtain ⟨l106, hl106, H⟩ := bsI H; refine xS (i := 0) (off := 0) (new := x99) (cs' := [.int .u64 x99]) t s tv sc_27 rfl rfl rfl hx104 rfl (Nat.le_of_ble_eq_true rfl) rfl (fun _ _ _ h => by rw [h]; rfl) (fun _ _ => rfl) ?_; intro a w107 s t; rw [← upd_some hl106] at s; refine m_turn s (sb [1] rfl) ?_; refine m_nil ?_; intro w108 s; refine qn_normal ?_; refine block_normal ?_; refine tn ?_; refine wR (.inl rfl) ?_; refine tm t rfl rfl fun a t => r_t t tv rfl (x_arI (r := w64 (i_19 + 1)) t rfl rfl rfl) fun a t => ta t rfl rfl fun a t => wn ?_; exact ⟨k_32, Nat.lt_succ_self _, l106, i_17, r94.2, (w64 (i_19 + 1)), H, t.keep _ ⟨rfl, rfl, rfl, rfl, rfl, rfl, tv⟩, s.pick [0, 0]⟩
        · refine ws (.inl rfl) ?_; refine tm t rfl rfl fun a t => tm t rfl rfl fun a t => r_t t tv rfl (x_cmpI (b := decide (i_17 ≤ (w64 (bits .and .u64 r94.1 (wu64 (r5 - 1)))))) t rfl rfl rfl) fun a t => wn ?_
          by_cases c109 : (decide (i_17 ≤ (w64 (bits .and .u64 r94.1 (wu64 (r5 - 1)))))) = true
          · rw [if_pos c109] at H; refine wT t rfl c109 ?_; refine wR (.inl rfl) ?_; refine tm t rfl rfl fun a t => tm t rfl rfl fun a t => r_t t tv rfl (x_arI (r := w64 ((w64 (bits .and .u64 r94.1 (wu64 (r5 - 1)))) - i_17)) t rfl rfl rfl) fun a t => ta t rfl rfl fun a t => wn ?_; exact ⟨(w64 ((w64 (bits .and .u64 r94.1 (wu64 (r5 - 1)))) - i_17)), H, t.keep _ ⟨rfl, rfl, rfl, rfl, rfl, rfl, rfl, tv⟩, s.pick [1, 0]⟩
          · rw [if_neg c109] at H; replace c109 := bfI c109; refine wF t rfl c109 ?_; refine wq_skip ?_; refine tn ?_; exact ⟨(w64 (bits .and .u64 r94.1 (wu64 (r5 - 1)))), H, t.keep _ ⟨rfl, rfl, rfl, rfl, rfl, rfl, rfl, tv⟩, s.pick [1, 0]⟩
      · rw [if_neg c77] at H; replace c77 := bfI c77; refine wF t rfl c77 ?_; refine wq_exit ?_; refine te ?_; refine te ?_; refine block_hit ?_; obtain rfl := oi H; exact end0 t rfl ⟨rfl, s.pick [0]⟩
 · rw [if_neg c1] at H; replace c1 := bfI c1; refine wF t rfl c1 ?_; refine wq_skip ?_; obtain rfl := oi H; exact end0 t rfl ⟨rfl, s.pick [0]⟩
end Go.Proofs.YtbaemhkfmddakaaGreat.Mo
