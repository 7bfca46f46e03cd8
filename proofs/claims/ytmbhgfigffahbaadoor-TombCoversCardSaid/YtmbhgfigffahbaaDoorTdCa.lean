/- Printed by gen.py: contracts. -/
import Derived.Test.YtmbhgfigffahbaaDoorTdKd
set_option linter.unusedVariables false
set_option linter.unusedSimpArgs false
set_option maxRecDepth 100000
namespace Go.Proofs.YtmbhgfigffahbaaDoor.Mo
open Go Go.Proofs.YtmbhgfigffahbaaDoor.Sy
open Go.Proofs
set_option maxHeartbeats 4000000 in
set_option maxRecDepth 100000 in
theorem l09_lent.calls (w : World) (va0 : Value) (Za0 : Nat → Prop) (wra0 : World) (hsa0 : Same Za0 wra0 w) (a0 : (List Tomb)) (hra0 : RD k_Tomb Za0 wra0 va0 a0) (ZG0 : Nat → Prop) (wrG0 : World) (tyG0 : Nat) (hsG0 : Same ZG0 wrG0 w) (hzG0 : ZG0 0) (hbG0 : wrG0.heap[0]? = some (.cells ([.string (ByteArray.mk #[109, 97, 114, 107]), .string (ByteArray.mk #[110, 97, 114, 107]), .int .u64 77] : List Value).toArray tyG0 (0, 0))) (r : ((List Tomb) × (List Tomb))) (h : l09_lent a0 = some r) :
    Calls Tryd.prog 7 ([va0] : List Value).toArray w fun e w' => ∃ v0_ : Value, e = .returned (v0_) ∧ SH (fun _ => False) w w' [Lent k_Tomb 28 v0_ r.1 r.2] := by
  have H := h
  clear h
  unfold l09_lent at H
  refine calls_enter Tryd.func7 rfl rfl ?_
  intro a hst
  have hsh := SH.zero (fun _ => False) w
  refine wp_seq ?_
  refine wp_region_lit ?_
  refine r_t hst trivial rfl (x_assign hst rfl) ?_; intro a hst
  refine wpList_nil ?_
  refine then_normal ?_
  obtain ⟨J_6, hJ_6, H⟩ := Jn.elim H
  refine wp_cut (fun a w' => ∃ (v_2 : Value), ∃ (l_3 : (List Tomb)), ∃ (l_4 : (List Tomb)), J_6 l_3 l_4 = some r ∧ ST Tryd.f7.ntmps a [(2, v_2)] ∧ SH (fun _ => False) w w' [Lent k_Tomb 28 v_2 l_3 l_4]) ?_ ?_
  · rintro a W_5 ⟨v_2, l_3, l_4, H, hst, hsh⟩
    subst hJ_6
    dsimp only at H
    refine wp_ret ?_
    obtain rfl := Option.some.inj H
    exact ret1 hst rfl rfl ⟨v_2, rfl, hsh.pick [0]⟩
  · refine wp_region_t (.alt [(3, 1), (0, 3), (3, 6), (3, 7)] 0 4 (.alt [] 2 4 (.fin [(1, 4), (1, 5), (0, 8), (3, 9)]) (.fin [(1, 2), (1, 5), (0, 8), (3, 9)])) (.fin [(1, 0), (1, 2), (1, 5), (0, 8), (3, 9)])) (fun w' => SH (fun _ => False) w w' []) (fun w' => SH (fun _ => False) w w' []) (shut_sh _ _ _) (shut_sh _ _ _) (sub_sh [] rfl) hsh.drew fo (by kernel_rfl) ?_
    refine t_alt ?_
    refine m_p hst trivial rfl (fun _ => x_move hst rfl) ?_; intro a hst
    refine m_t hst trivial rfl (fun _ hsh => x_loadCaps (cs := [.string (ByteArray.mk #[109, 97, 114, 107]), .string (ByteArray.mk #[110, 97, 114, 107]), .int .u64 77]) (ps := [.string (ByteArray.mk #[109, 97, 114, 107]), .string (ByteArray.mk #[110, 97, 114, 107]), .int .u64 77]) hst hbG0 (Same.sh0 hsG0 hsh) hzG0 ag_28 rfl rfl) ?_; intro a hst
    refine m_p hst trivial rfl (fun _ => x_move hst rfl) ?_; intro a hst
    refine m_p hst trivial rfl (fun _ => x_lenSl hst Tryd.underlying22 rfl hra0.slen) ?_; intro a hst
    refine m_alt ?_ ?_
    · refine ld_loud ?_
      intro w50 hsh
      refine r_buildSlice (vs := []) (cs := []) hst hsh trivial rfl Tryd.underlying22 el_28 rfl rfl (by simp [Value.cells]) rfl rfl ?_
      intro g51 a w52 hgg51 hsh hst
      replace hsh := hsh.pick [0]
      replace hsh : SH (fun _ => False) w w52 [Row k_Tomb 28 (.slice (some ⟨g51, 0, none⟩) 0 0) ([])] := SH.boxRow ([] : List Tomb) hsh rfl rfl rfl
      refine m_on (MB := []) [] [] rfl rfl hsh rfl ?_
      refine t_alt ?_
      refine m_alt ?_ ?_
      · refine ld_loud ?_
        intro w54 hsh
        replace hsh := hsh.pick [0]
        obtain ⟨l55, hl55, H⟩ := Option.bind_eq_some_iff.1 H
        refine r_appendN (M := []) hst hsh trivial rfl Tryd.underlying22 el_28 (by decide) (by decide) (by decide) rfl rfl (flat_flat _ _ _ _) hra0 (Same.sh0 hsa0 hsh) hl55 ?_
        intro v56 a w57 hsh hst
        refine m_on (MB := []) [] [] rfl rfl hsh rfl ?_
        refine t_fin ?_
        refine m_loud (.inl rfl) ?_
        intro w58 hsh
        refine r_buildSlice (vs := [.agg #[.string (ByteArray.mk #[109, 97, 114, 107]), .string (ByteArray.mk #[110, 97, 114, 107]), .int .u64 77]]) (cs := [.string (ByteArray.mk #[109, 97, 114, 107]), .string (ByteArray.mk #[110, 97, 114, 107]), .int .u64 77]) hst hsh trivial rfl Tryd.underlying22 el_28 rfl rfl (by simp [Value.cells]) rfl rfl ?_
        intro g59 a w60 hgg59 hsh hst
        refine m_on (MB := []) [] [] rfl rfl hsh rfl ?_
        refine m_loud (.inl rfl) ?_
        intro w61 hsh
        replace hsh := hsh.pick [1, 0]
        obtain ⟨l62, hl62, H⟩ := Option.bind_eq_some_iff.1 H
        refine r_append1 (xx := (⟨(ByteArray.mk #[109, 97, 114, 107]), (ByteArray.mk #[110, 97, 114, 107]), 77⟩ : Tomb)) (C := []) (M := []) hst hsh trivial rfl Tryd.underlying22 el_28 (by decide) (by decide) (by decide) rfl rfl (fun _ _ _ => rfl) hl62 ?_
        intro v63 a w64 hsh hst
        refine m_on (MB := [Row k_Tomb 28 v63 l62]) [0] [] rfl rfl hsh rfl ?_
        obtain ⟨l65, hl65, H⟩ := Option.bind_eq_some_iff.1 H
        refine m_t hst trivial rfl (fun _ hsh => x_cutH hst Tryd.underlying22 el_28 rfl rfl (hsh.row 0 rfl) hl65) ?_; intro a hst
        refine m_p hst trivial rfl (fun _ => x_assign hst rfl) ?_; intro a hst
        refine m_nil ?_
        intro w66 hsh
        refine qn_normal ?_
        refine then_normal ?_
        replace hsh := hsh.lend 0 rfl hl65
        exact ⟨(cutV v63 (Int.toNat 0) (Int.toNat (a0.length : Int)) k_Tomb.sz), l65, (List.drop (Int.toNat (a0.length : Int)) l62), H, hst.keep _ ⟨rfl, trivial⟩, hsh.pick [0]⟩
      · refine ld_loud ?_
        intro w67 hsh
        refine r_buildSlice (vs := [.agg #[.string (ByteArray.mk #[109, 97, 114, 107]), .string (ByteArray.mk #[110, 97, 114, 107]), .int .u64 77]]) (cs := [.string (ByteArray.mk #[109, 97, 114, 107]), .string (ByteArray.mk #[110, 97, 114, 107]), .int .u64 77]) hst hsh trivial rfl Tryd.underlying22 el_28 rfl rfl (by simp [Value.cells]) rfl rfl ?_
        intro g68 a w69 hgg68 hsh hst
        replace hsh := hsh.pick [0, 0]
        replace hsh : SH (fun _ => False) w w69 [Row k_Tomb 28 (.slice (some ⟨g68, 0, none⟩) 1 1) ([(⟨(ByteArray.mk #[109, 97, 114, 107]), (ByteArray.mk #[110, 97, 114, 107]), 77⟩ : Tomb)]), Row k_Tomb 28 (.slice (some ⟨g51, 0, none⟩) 0 0) ([])] := SH.boxRow ([(⟨(ByteArray.mk #[109, 97, 114, 107]), (ByteArray.mk #[110, 97, 114, 107]), 77⟩ : Tomb)] : List Tomb) hsh rfl rfl rfl
        refine m_on (MB := [Row k_Tomb 28 (.slice (some ⟨g68, 0, none⟩) 1 1) ([(⟨(ByteArray.mk #[109, 97, 114, 107]), (ByteArray.mk #[110, 97, 114, 107]), 77⟩ : Tomb)])]) [0] [] rfl rfl hsh rfl ?_
        refine t_fin ?_
        refine m_loud (.inl rfl) ?_
        intro w71 hsh
        replace hsh := hsh.pick [1, 0]
        obtain ⟨l72, hl72, H⟩ := Option.bind_eq_some_iff.1 H
        refine r_appendN (M := [Row k_Tomb 28 (.slice (some ⟨g68, 0, none⟩) 1 1) ([(⟨(ByteArray.mk #[109, 97, 114, 107]), (ByteArray.mk #[110, 97, 114, 107]), 77⟩ : Tomb)])]) hst hsh trivial rfl Tryd.underlying22 el_28 (by decide) (by decide) (by decide) rfl rfl (flat_flat _ _ _ _) hra0 (Same.sh0 hsa0 hsh) hl72 ?_
        intro v73 a w74 hsh hst
        refine m_on (MB := [Row k_Tomb 28 (.slice (some ⟨g68, 0, none⟩) 1 1) ([(⟨(ByteArray.mk #[109, 97, 114, 107]), (ByteArray.mk #[110, 97, 114, 107]), 77⟩ : Tomb)])]) [1] [0] rfl rfl hsh rfl ?_
        refine m_loud (.inl rfl) ?_
        intro w75 hsh
        replace hsh := hsh.pick [0, 0]
        obtain ⟨l76, hl76, H⟩ := Option.bind_eq_some_iff.1 H
        refine r_appendN (M := [Row k_Tomb 28 (.slice (some ⟨g68, 0, none⟩) 1 1) ([(⟨(ByteArray.mk #[109, 97, 114, 107]), (ByteArray.mk #[110, 97, 114, 107]), 77⟩ : Tomb)])]) hst hsh trivial rfl Tryd.underlying22 el_28 (by decide) (by decide) (by decide) rfl rfl (flat_flat _ _ _ _) (hsh.row 1 rfl) (Same.refl _ _) hl76 ?_
        intro v77 a w78 hsh hst
        refine m_on (MB := [Row k_Tomb 28 v77 l76, Row k_Tomb 28 (.slice (some ⟨g68, 0, none⟩) 1 1) ([(⟨(ByteArray.mk #[109, 97, 114, 107]), (ByteArray.mk #[110, 97, 114, 107]), 77⟩ : Tomb)])]) [0, 0] [1] rfl rfl hsh rfl ?_
        obtain ⟨l79, hl79, H⟩ := Option.bind_eq_some_iff.1 H
        refine m_t hst trivial rfl (fun _ hsh => x_cutH hst Tryd.underlying22 el_28 rfl rfl (hsh.row 0 rfl) hl79) ?_; intro a hst
        refine m_p hst trivial rfl (fun _ => x_assign hst rfl) ?_; intro a hst
        refine m_nil ?_
        intro w80 hsh
        refine qn_normal ?_
        refine then_normal ?_
        replace hsh := hsh.lend 0 rfl hl79
        exact ⟨(cutV v77 (Int.toNat 0) (Int.toNat (a0.length : Int)) k_Tomb.sz), l79, (List.drop (Int.toNat (a0.length : Int)) l76), H, hst.keep _ ⟨rfl, trivial⟩, hsh.pick [0]⟩
    · refine ld_loud ?_
      intro w81 hsh
      refine r_buildSlice (vs := [.agg #[.string (ByteArray.mk #[109, 97, 114, 107]), .string (ByteArray.mk #[110, 97, 114, 107]), .int .u64 77]]) (cs := [.string (ByteArray.mk #[109, 97, 114, 107]), .string (ByteArray.mk #[110, 97, 114, 107]), .int .u64 77]) hst hsh trivial rfl Tryd.underlying22 el_28 rfl rfl (by simp [Value.cells]) rfl rfl ?_
      intro g82 a w83 hgg82 hsh hst
      replace hsh := hsh.pick [0]
      replace hsh : SH (fun _ => False) w w83 [Row k_Tomb 28 (.slice (some ⟨g82, 0, none⟩) 1 1) ([(⟨(ByteArray.mk #[109, 97, 114, 107]), (ByteArray.mk #[110, 97, 114, 107]), 77⟩ : Tomb)])] := SH.boxRow ([(⟨(ByteArray.mk #[109, 97, 114, 107]), (ByteArray.mk #[110, 97, 114, 107]), 77⟩ : Tomb)] : List Tomb) hsh rfl rfl rfl
      refine m_on (MB := [Row k_Tomb 28 (.slice (some ⟨g82, 0, none⟩) 1 1) ([(⟨(ByteArray.mk #[109, 97, 114, 107]), (ByteArray.mk #[110, 97, 114, 107]), 77⟩ : Tomb)])]) [0] [] rfl rfl hsh rfl ?_
      refine t_fin ?_
      refine m_loud (.inl rfl) ?_
      intro w85 hsh
      refine r_buildSlice (vs := []) (cs := []) hst hsh trivial rfl Tryd.underlying22 el_28 rfl rfl (by simp [Value.cells]) rfl rfl ?_
      intro g86 a w87 hgg86 hsh hst
      replace hsh := hsh.pick [0, 0]
      replace hsh : SH (fun _ => False) w w87 [Row k_Tomb 28 (.slice (some ⟨g86, 0, none⟩) 0 0) ([]), Row k_Tomb 28 (.slice (some ⟨g82, 0, none⟩) 1 1) ([(⟨(ByteArray.mk #[109, 97, 114, 107]), (ByteArray.mk #[110, 97, 114, 107]), 77⟩ : Tomb)])] := SH.boxRow ([] : List Tomb) hsh rfl rfl rfl
      refine m_on (MB := [Row k_Tomb 28 (.slice (some ⟨g82, 0, none⟩) 1 1) ([(⟨(ByteArray.mk #[109, 97, 114, 107]), (ByteArray.mk #[110, 97, 114, 107]), 77⟩ : Tomb)])]) [1] [0] rfl rfl hsh rfl ?_
      refine m_loud (.inl rfl) ?_
      intro w89 hsh
      replace hsh := hsh.pick [0, 0]
      obtain ⟨l90, hl90, H⟩ := Option.bind_eq_some_iff.1 H
      refine r_appendN (M := [Row k_Tomb 28 (.slice (some ⟨g82, 0, none⟩) 1 1) ([(⟨(ByteArray.mk #[109, 97, 114, 107]), (ByteArray.mk #[110, 97, 114, 107]), 77⟩ : Tomb)])]) hst hsh trivial rfl Tryd.underlying22 el_28 (by decide) (by decide) (by decide) rfl rfl (flat_flat _ _ _ _) hra0 (Same.sh0 hsa0 hsh) hl90 ?_
      intro v91 a w92 hsh hst
      refine m_on (MB := [Row k_Tomb 28 (.slice (some ⟨g82, 0, none⟩) 1 1) ([(⟨(ByteArray.mk #[109, 97, 114, 107]), (ByteArray.mk #[110, 97, 114, 107]), 77⟩ : Tomb)])]) [1] [0] rfl rfl hsh rfl ?_
      refine m_loud (.inl rfl) ?_
      intro w93 hsh
      replace hsh := hsh.pick [0, 0]
      obtain ⟨l94, hl94, H⟩ := Option.bind_eq_some_iff.1 H
      refine r_appendN (M := [Row k_Tomb 28 (.slice (some ⟨g82, 0, none⟩) 1 1) ([(⟨(ByteArray.mk #[109, 97, 114, 107]), (ByteArray.mk #[110, 97, 114, 107]), 77⟩ : Tomb)])]) hst hsh trivial rfl Tryd.underlying22 el_28 (by decide) (by decide) (by decide) rfl rfl (flat_flat _ _ _ _) (hsh.row 1 rfl) (Same.refl _ _) hl94 ?_
      intro v95 a w96 hsh hst
      refine m_on (MB := [Row k_Tomb 28 v95 l94, Row k_Tomb 28 (.slice (some ⟨g82, 0, none⟩) 1 1) ([(⟨(ByteArray.mk #[109, 97, 114, 107]), (ByteArray.mk #[110, 97, 114, 107]), 77⟩ : Tomb)])]) [0, 0] [1] rfl rfl hsh rfl ?_
      obtain ⟨l97, hl97, H⟩ := Option.bind_eq_some_iff.1 H
      refine m_t hst trivial rfl (fun _ hsh => x_cutH hst Tryd.underlying22 el_28 rfl rfl (hsh.row 0 rfl) hl97) ?_; intro a hst
      refine m_p hst trivial rfl (fun _ => x_assign hst rfl) ?_; intro a hst
      refine m_nil ?_
      intro w98 hsh
      refine qn_normal ?_
      refine then_normal ?_
      replace hsh := hsh.lend 0 rfl hl97
      exact ⟨(cutV v95 (Int.toNat 0) (Int.toNat (a0.length : Int)) k_Tomb.sz), l97, (List.drop (Int.toNat (a0.length : Int)) l94), H, hst.keep _ ⟨rfl, trivial⟩, hsh.pick [0]⟩

set_option maxHeartbeats 4000000 in
set_option maxRecDepth 100000 in
theorem tomb_Valid.calls (w : World) (a0 : Tomb) (r : Bool) (h : tomb_Valid a0 = some r) :
    Calls Tryd.prog 17 ([.agg #[.string a0.Begin, .string a0.End, .int .u64 a0.Seq]] : List Value).toArray w fun e w' => e = .returned (.bool r) ∧ SH (fun _ => False) w w' [] := by
  have H := h
  clear h
  unfold tomb_Valid at H
  refine calls_enter Tryd.func17 rfl rfl ?_
  intro a hst
  have hsh := SH.zero (fun _ => False) w
  refine wp_seq ?_
  refine wp_region_lit ?_
  refine r_box hst hsh trivial rfl rfl rfl ?_
  intro g1 a w2 hgg1 hsh hst
  refine r_t hst trivial rfl (x_assign hst rfl) ?_; intro a hst
  refine wpList_nil ?_
  refine then_normal ?_
  refine wp_seq ?_
  refine wp_region_lit ?_
  refine r_t hst trivial rfl (x_fieldAddr (j' := 0) hst fa_28_0 rfl rfl) ?_; intro a hst
  refine r_t hst trivial rfl (x_loadB (i := 0) hst hsh sc_9 rfl rfl rfl) ?_; intro a hst
  refine r_t hst trivial rfl (x_cmpS (b := (!sEq a0.Begin (ByteArray.mk #[]))) hst rfl rfl rfl) ?_; intro a hst
  refine r_t hst trivial rfl (x_move hst rfl) ?_; intro a hst
  refine wl_join0 (N := Tryd.f17.ntmps) 9 [(1, .pointer (some ⟨g1, 0, none⟩)), (2, .bool false), (11, .bool ((!sEq a0.Begin (ByteArray.mk #[])) && (decide ((a0.Begin.size : Int) ≤ 1024))))] ?_ ?_
  · intro a hst
    refine r_t hst trivial rfl (x_move hst rfl) ?_; intro a hst
    refine wl_join0 (N := Tryd.f17.ntmps) 15 [(1, .pointer (some ⟨g1, 0, none⟩)), (2, .bool false), (17, .bool (((!sEq a0.Begin (ByteArray.mk #[])) && (decide ((a0.Begin.size : Int) ≤ 1024))) && (decide ((a0.End.size : Int) ≤ 1025))))] ?_ ?_
    · intro a hst
      refine r_t hst trivial rfl (x_move hst rfl) ?_; intro a hst
      refine wl_join0 (N := Tryd.f17.ntmps) 22 [(1, .pointer (some ⟨g1, 0, none⟩)), (2, .bool false), (24, .bool ((((!sEq a0.Begin (ByteArray.mk #[])) && (decide ((a0.Begin.size : Int) ≤ 1024))) && (decide ((a0.End.size : Int) ≤ 1025))) && (sLt a0.Begin a0.End)))] ?_ ?_
      · intro a hst
        refine r_t hst trivial rfl (x_move hst rfl) ?_; intro a hst
        refine wl_join0 (N := Tryd.f17.ntmps) 27 [(2, .bool false), (29, .bool (((((!sEq a0.Begin (ByteArray.mk #[])) && (decide ((a0.Begin.size : Int) ≤ 1024))) && (decide ((a0.End.size : Int) ≤ 1025))) && (sLt a0.Begin a0.End)) && (decide (a0.Seq ≤ 72057594037927935))))] ?_ ?_
        · intro a hst
          refine r_t hst trivial rfl (x_assign hst rfl) ?_; intro a hst
          refine wpList_nil ?_
          refine then_normal ?_
          refine wp_ret ?_
          obtain rfl := Option.some.inj H
          exact ret1 hst rfl rfl ⟨rfl, hsh.pick []⟩
        · intro hj
          by_cases c6 : ((((!sEq a0.Begin (ByteArray.mk #[])) && (decide ((a0.Begin.size : Int) ≤ 1024))) && (decide ((a0.End.size : Int) ≤ 1025))) && (sLt a0.Begin a0.End)) = true
          · refine r_t hst (wt_of 25 rfl rfl c6) rfl (x_fieldAddr (j' := 2) hst fa_28_2 rfl rfl) ?_; intro a hst
            refine r_t hst (wt_of 25 rfl rfl c6) rfl (x_loadB (i := 0) hst hsh sc_26 rfl rfl rfl) ?_; intro a hst
            refine r_t hst (wt_of 25 rfl rfl c6) rfl (x_cmpI (b := decide (a0.Seq ≤ 72057594037927935)) hst rfl rfl rfl) ?_; intro a hst
            refine r_t hst trivial rfl (x_andT hst rfl c6 rfl) ?_; intro a hst
            exact hj _ (hst.keep _ ⟨rfl, rfl, trivial⟩)
          · replace c6 := Bool.eq_false_iff.2 c6
            refine r_not hst 25 rfl rfl c6 rfl ?_; intro a hst
            refine r_not hst 25 rfl rfl c6 rfl ?_; intro a hst
            refine r_not hst 25 rfl rfl c6 rfl ?_; intro a hst
            refine r_t hst trivial rfl (x_andF (decide (a0.Seq ≤ 72057594037927935)) hst rfl c6 rfl) ?_; intro a hst
            exact hj _ (hst.keep _ ⟨rfl, rfl, trivial⟩)
      · intro hj
        by_cases c5 : (((!sEq a0.Begin (ByteArray.mk #[])) && (decide ((a0.Begin.size : Int) ≤ 1024))) && (decide ((a0.End.size : Int) ≤ 1025))) = true
        · refine r_t hst (wt_of 18 rfl rfl c5) rfl (x_fieldAddr (j' := 0) hst fa_28_0 rfl rfl) ?_; intro a hst
          refine r_t hst (wt_of 18 rfl rfl c5) rfl (x_loadB (i := 0) hst hsh sc_9 rfl rfl rfl) ?_; intro a hst
          refine r_t hst (wt_of 18 rfl rfl c5) rfl (x_fieldAddr (j' := 1) hst fa_28_1 rfl rfl) ?_; intro a hst
          refine r_t hst (wt_of 18 rfl rfl c5) rfl (x_loadB (i := 0) hst hsh sc_9 rfl rfl rfl) ?_; intro a hst
          refine r_t hst (wt_of 18 rfl rfl c5) rfl (x_cmpS (b := sLt a0.Begin a0.End) hst rfl rfl rfl) ?_; intro a hst
          refine r_t hst trivial rfl (x_andT hst rfl c5 rfl) ?_; intro a hst
          exact hj _ (hst.keep _ ⟨rfl, rfl, rfl, trivial⟩)
        · replace c5 := Bool.eq_false_iff.2 c5
          refine r_not hst 18 rfl rfl c5 rfl ?_; intro a hst
          refine r_not hst 18 rfl rfl c5 rfl ?_; intro a hst
          refine r_not hst 18 rfl rfl c5 rfl ?_; intro a hst
          refine r_not hst 18 rfl rfl c5 rfl ?_; intro a hst
          refine r_not hst 18 rfl rfl c5 rfl ?_; intro a hst
          refine r_t hst trivial rfl (x_andF (sLt a0.Begin a0.End) hst rfl c5 rfl) ?_; intro a hst
          exact hj _ (hst.keep _ ⟨rfl, rfl, rfl, trivial⟩)
    · intro hj
      by_cases c4 : ((!sEq a0.Begin (ByteArray.mk #[])) && (decide ((a0.Begin.size : Int) ≤ 1024))) = true
      · refine r_t hst (wt_of 12 rfl rfl c4) rfl (x_fieldAddr (j' := 1) hst fa_28_1 rfl rfl) ?_; intro a hst
        refine r_t hst (wt_of 12 rfl rfl c4) rfl (x_loadB (i := 0) hst hsh sc_9 rfl rfl rfl) ?_; intro a hst
        refine r_t hst (wt_of 12 rfl rfl c4) rfl (x_lenStr hst Tryd.underlying9 rfl) ?_; intro a hst
        refine r_t hst (wt_of 12 rfl rfl c4) rfl (x_cmpI (b := decide ((a0.End.size : Int) ≤ 1025)) hst rfl rfl rfl) ?_; intro a hst
        refine r_t hst trivial rfl (x_andT hst rfl c4 rfl) ?_; intro a hst
        exact hj _ (hst.keep _ ⟨rfl, rfl, rfl, trivial⟩)
      · replace c4 := Bool.eq_false_iff.2 c4
        refine r_not hst 12 rfl rfl c4 rfl ?_; intro a hst
        refine r_not hst 12 rfl rfl c4 rfl ?_; intro a hst
        refine r_not hst 12 rfl rfl c4 rfl ?_; intro a hst
        refine r_not hst 12 rfl rfl c4 rfl ?_; intro a hst
        refine r_t hst trivial rfl (x_andF (decide ((a0.End.size : Int) ≤ 1025)) hst rfl c4 rfl) ?_; intro a hst
        exact hj _ (hst.keep _ ⟨rfl, rfl, rfl, trivial⟩)
  · intro hj
    by_cases c3 : (!sEq a0.Begin (ByteArray.mk #[])) = true
    · refine r_t hst (wt_of 6 rfl rfl c3) rfl (x_fieldAddr (j' := 0) hst fa_28_0 rfl rfl) ?_; intro a hst
      refine r_t hst (wt_of 6 rfl rfl c3) rfl (x_loadB (i := 0) hst hsh sc_9 rfl rfl rfl) ?_; intro a hst
      refine r_t hst (wt_of 6 rfl rfl c3) rfl (x_lenStr hst Tryd.underlying9 rfl) ?_; intro a hst
      refine r_t hst (wt_of 6 rfl rfl c3) rfl (x_cmpI (b := decide ((a0.Begin.size : Int) ≤ 1024)) hst rfl rfl rfl) ?_; intro a hst
      refine r_t hst trivial rfl (x_andT hst rfl c3 rfl) ?_; intro a hst
      exact hj _ (hst.keep _ ⟨rfl, rfl, rfl, trivial⟩)
    · replace c3 := Bool.eq_false_iff.2 c3
      refine r_not hst 6 rfl rfl c3 rfl ?_; intro a hst
      refine r_not hst 6 rfl rfl c3 rfl ?_; intro a hst
      refine r_not hst 6 rfl rfl c3 rfl ?_; intro a hst
      refine r_not hst 6 rfl rfl c3 rfl ?_; intro a hst
      refine r_t hst trivial rfl (x_andF (decide ((a0.Begin.size : Int) ≤ 1024)) hst rfl c3 rfl) ?_; intro a hst
      exact hj _ (hst.keep _ ⟨rfl, rfl, rfl, trivial⟩)

set_option maxHeartbeats 4000000 in
set_option maxRecDepth 100000 in
theorem tomb_valid.calls (k : Nat) (w : World) (va0 : Value) (Za0 : Nat → Prop) (wra0 : World) (hsa0 : Same Za0 wra0 w) (a0 : (List Tomb)) (hra0 : RD k_Tomb Za0 wra0 va0 a0) (r : (List Tomb)) (h : tomb_valid k a0 = some r) :
    Calls Tryd.prog 30 ([va0] : List Value).toArray w fun e w' => ∃ v0_ : Value, e = .returned (v0_) ∧ SH (fun _ => False) w w' [Row k_Tomb 28 v0_ r] := by
  have H := h
  clear h
  unfold tomb_valid at H
  refine calls_enter Tryd.func30 rfl rfl ?_
  intro a hst
  have hsh := SH.zero (fun _ => False) w
  refine wp_seq ?_
  refine wp_region_lit ?_
  refine r_t hst trivial rfl (x_assign hst rfl) ?_; intro a hst
  refine wpList_nil ?_
  refine then_normal ?_
  refine wp_seq ?_
  refine wp_region_lit ?_
  refine r_t hst trivial rfl (x_assign hst rfl) ?_; intro a hst
  refine wpList_nil ?_
  refine then_normal ?_
  refine wp_seq ?_
  refine wp_seq ?_
  refine wp_region_lit ?_
  refine r_t hst trivial rfl (x_move hst rfl) ?_; intro a hst
  refine r_t hst trivial rfl (x_lenSl hst Tryd.underlying22 rfl hra0.slen) ?_; intro a hst
  refine r_t hst trivial rfl (x_move hst rfl) ?_; intro a hst
  refine wpList_nil ?_
  refine then_normal ?_
  refine wp_block ?_
  have hsh := hsh.addNil k_Tomb 28
  refine wp_loop_fuel (fun k_56 a w' => ∃ (v_43 : Value), ∃ (l_44 : (List Tomb)), ∃ (i_45 : Int), tomb_valid.l0 a0 k_56 l_44 i_45 = some r ∧ ST Tryd.f30.ntmps a [(2, (.slice none 0 0)), (3, v_43), (6, va0), (7, .int .i64 (a0.length : Int)), (8, .int .i64 i_45)] ∧ SH (fun _ => False) w w' [Row k_Tomb 28 v_43 l_44]) k ?_ ?_
  · exact ⟨(.slice none 0 0), ([]), 0, H, hst.keep _ ⟨rfl, rfl, rfl, rfl, rfl, trivial⟩, hsh.pick [0]⟩
  · rintro k_56 a W_46 ⟨v_43, l_44, i_45, H, hst, hsh⟩
    cases k_56 with
    | zero => rw [tomb_valid.l0] at H; cases H
    | succ k_56 =>
      rw [tomb_valid.l0] at H
      refine wp_seq ?_
      refine wp_region_lit ?_
      refine r_t hst trivial rfl (x_cmpI (b := decide (i_45 < (a0.length : Int))) hst rfl rfl rfl) ?_; intro a hst
      refine wpList_nil ?_
      refine then_normal ?_
      refine wp_seq ?_
      by_cases c139 : (decide (i_45 < (a0.length : Int))) = true
      · rw [if_pos c139] at H
        refine wp_condT hst rfl c139 ?_
        refine wp_skip ?_
        refine then_normal ?_
        obtain ⟨J_60, hJ_60, H⟩ := Jn.elim H
        refine wp_cut (fun a w' => ∃ (v_57 : Value), ∃ (l_58 : (List Tomb)), J_60 l_58 = some r ∧ ST Tryd.f30.ntmps a [(2, (.slice none 0 0)), (3, v_57), (6, va0), (7, .int .i64 (a0.length : Int)), (8, .int .i64 i_45)] ∧ SH (fun _ => False) w w' [Row k_Tomb 28 v_57 l_58]) ?_ ?_
        · rintro a W_59 ⟨v_57, l_58, H, hst, hsh⟩
          subst hJ_60
          dsimp only at H
          refine wp_region_lit ?_
          refine r_t hst trivial rfl (x_arI (r := w64 (i_45 + 1)) hst rfl rfl rfl) ?_; intro a hst
          refine r_t hst trivial rfl (x_move hst rfl) ?_; intro a hst
          refine wpList_nil ?_
          refine then_normal ?_
          exact ⟨k_56, Nat.lt_succ_self _, v_57, l_58, (w64 (i_45 + 1)), H, hst.keep _ ⟨rfl, rfl, rfl, rfl, rfl, trivial⟩, hsh.pick [0]⟩
        · refine wp_block ?_
          refine wp_seq ?_
          refine wp_region_lit ?_
          obtain ⟨x152, hx152, H⟩ := Option.bind_eq_some_iff.1 H
          refine r_t hst trivial rfl (x_indexAddr hst Tryd.underlying22 el_28 rfl rfl hra0 hx152) ?_; intro a hst
          refine r_t hst trivial rfl (x_loadEsF (j := 0) (cs := [.string x152.Begin, .string x152.End, .int .u64 x152.Seq]) (ps := [.string x152.Begin, .string x152.End, .int .u64 x152.Seq]) hst ag_28 rfl hra0 (Same.sh0 hsa0 hsh) hx152 rfl (fun _ h => h) rfl) ?_; intro a hst
          refine r_alloc hst hsh trivial rfl zr_28 ?_
          intro g153 a w154 hgg153 hsh hst
          refine r_storeBs (i := 0) (cs' := [.string x152.Begin, .string x152.End, .int .u64 x152.Seq]) (vs := [.string x152.Begin, .string x152.End, .int .u64 x152.Seq]) hst hsh trivial ag_28 rfl rfl rfl rfl rfl rfl ?_; intro a w155 hsh hst
          refine wpList_nil ?_
          refine then_normal ?_
          refine wp_seq ?_
          refine wp_region_lit ?_
          refine r_t hst trivial rfl (x_loadBs (i := 0) (ps := [.string x152.Begin, .string x152.End, .int .u64 x152.Seq]) hst hsh ag_28 rfl rfl rfl) ?_; intro a hst
          obtain ⟨r156, hr156, H⟩ := Option.bind_eq_some_iff.1 H
          refine r_callD hst trivial rfl fn_17 rfl (tomb_Valid.calls _ x152 r156 hr156) ?_
          rintro e w157 ⟨rfl, hc⟩
          replace hsh := hsh.call0 hc
          clear hc
          refine ⟨_, rfl, fun a hst => ?_⟩
          refine wpList_nil ?_
          refine then_normal ?_
          by_cases c158 : r156 = true
          · rw [if_pos c158] at H
            refine wp_condT hst rfl c158 ?_
            refine wp_region_lit ?_
            refine r_t hst trivial rfl (x_move hst rfl) ?_; intro a hst
            refine r_t hst trivial rfl (x_loadBs (i := 0) (ps := [.string x152.Begin, .string x152.End, .int .u64 x152.Seq]) hst hsh ag_28 rfl rfl rfl) ?_; intro a hst
            refine r_buildSlice (vs := [.agg #[.string x152.Begin, .string x152.End, .int .u64 x152.Seq]]) (cs := [.string x152.Begin, .string x152.End, .int .u64 x152.Seq]) hst hsh trivial rfl Tryd.underlying22 el_28 rfl rfl (by simp [Value.cells]) rfl rfl ?_
            intro g159 a w160 hgg159 hsh hst
            replace hsh := hsh.pick [2, 0, 0]
            obtain ⟨l161, hl161, H⟩ := Option.bind_eq_some_iff.1 H
            refine r_append1 (xx := x152) (C := []) (M := [Box g153 [.string x152.Begin, .string x152.End, .int .u64 x152.Seq] 28]) hst hsh trivial rfl Tryd.underlying22 el_28 (by decide) (by decide) (by decide) rfl rfl (fun _ _ _ => rfl) hl161 ?_
            intro v162 a w163 hsh hst
            refine r_t hst trivial rfl (x_assign hst rfl) ?_; intro a hst
            refine wpList_nil ?_
            refine block_normal ?_
            refine then_normal ?_
            exact ⟨v162, l161, H, hst.keep _ ⟨rfl, rfl, rfl, rfl, rfl, trivial⟩, hsh.pick [0]⟩
          · rw [if_neg c158] at H
            replace c158 := Bool.eq_false_iff.2 c158
            refine wp_condF hst rfl c158 ?_
            refine wp_skip ?_
            refine block_normal ?_
            refine then_normal ?_
            exact ⟨v_43, l_44, H, hst.keep _ ⟨rfl, rfl, rfl, rfl, rfl, trivial⟩, hsh.pick [1]⟩
      · rw [if_neg c139] at H
        replace c139 := Bool.eq_false_iff.2 c139
        refine wp_condF hst rfl c139 ?_
        refine wp_exit ?_
        refine then_exit ?_
        refine then_exit ?_
        refine block_hit ?_
        refine then_normal ?_
        refine wp_seq ?_
        refine wp_region_lit ?_
        refine r_t hst trivial rfl (x_move hst rfl) ?_; intro a hst
        refine r_t hst trivial rfl (x_assign hst rfl) ?_; intro a hst
        refine wpList_nil ?_
        refine then_normal ?_
        refine wp_ret ?_
        obtain rfl := Option.some.inj H
        exact ret1 hst rfl rfl ⟨v_43, rfl, hsh.pick [0]⟩

set_option maxHeartbeats 4000000 in
set_option maxRecDepth 100000 in
theorem tomb_Cut.calls (k : Nat) (w : World) (va0 : Value) (Za0 : Nat → Prop) (wra0 : World) (hsa0 : Same Za0 wra0 w) (a0 : (List Tomb)) (hra0 : RD k_Tomb Za0 wra0 va0 a0) (a1 : ByteArray) (a2 : ByteArray) (r : (List Tomb)) (h : tomb_Cut k a0 a1 a2 = some r) :
    Calls Tryd.prog 8 ([va0, .string a1, .string a2] : List Value).toArray w fun e w' => ∃ v0_ : Value, e = .returned (v0_) ∧ SH (fun _ => False) w w' [Row k_Tomb 28 v0_ r] := by
  have H := h
  clear h
  unfold tomb_Cut at H
  refine calls_enter Tryd.func8 rfl rfl ?_
  intro a hst
  have hsh := SH.zero (fun _ => False) w
  refine wp_seq ?_
  refine wp_region_lit ?_
  refine r_t hst trivial rfl (x_assign hst rfl) ?_; intro a hst
  refine wpList_nil ?_
  refine then_normal ?_
  refine wp_seq ?_
  refine wp_region_lit ?_
  refine r_t hst trivial rfl (x_assign hst rfl) ?_; intro a hst
  refine wpList_nil ?_
  refine then_normal ?_
  refine wp_seq ?_
  refine wp_seq ?_
  refine wp_region_lit ?_
  refine r_t hst trivial rfl (x_move hst rfl) ?_; intro a hst
  obtain ⟨r105, hr105, H⟩ := Option.bind_eq_some_iff.1 H
  refine r_callD hst trivial rfl fn_30 rfl (tomb_valid.calls k _ _ _ _ (Same.sh0 hsa0 hsh) _ hra0 r105 hr105) ?_
  rintro e w106 ⟨v107, rfl, hc⟩
  replace hsh := hsh.call0 hc
  clear hc
  refine ⟨_, rfl, fun a hst => ?_⟩
  refine r_t hst trivial rfl (x_lenSl hst Tryd.underlying22 rfl (hsh.row 0 rfl).slen) ?_; intro a hst
  refine r_t hst trivial rfl (x_move hst rfl) ?_; intro a hst
  refine wpList_nil ?_
  refine then_normal ?_
  refine wp_block ?_
  have hsh := hsh.addNil k_Tomb 28
  refine wp_loop_fuel (fun k_86 a w' => ∃ (v_67 : Value), ∃ (l_68 : (List Tomb)), ∃ (i_69 : Int), tomb_Cut.l0 a1 a2 r105 k_86 l_68 i_69 = some r ∧ ST Tryd.f8.ntmps a [(1, .string a1), (2, .string a2), (6, (.slice none 0 0)), (7, v_67), (11, v107), (12, .int .i64 (r105.length : Int)), (13, .int .i64 i_69)] ∧ SH (fun _ => False) w w' [Row k_Tomb 28 v_67 l_68, Row k_Tomb 28 v107 r105]) k ?_ ?_
  · exact ⟨(.slice none 0 0), ([]), 0, H, hst.keep _ ⟨rfl, rfl, rfl, rfl, rfl, rfl, rfl, trivial⟩, hsh.pick [0, 0]⟩
  · rintro k_86 a W_70 ⟨v_67, l_68, i_69, H, hst, hsh⟩
    cases k_86 with
    | zero => rw [tomb_Cut.l0] at H; cases H
    | succ k_86 =>
      rw [tomb_Cut.l0] at H
      refine wp_seq ?_
      refine wp_region_lit ?_
      refine r_t hst trivial rfl (x_cmpI (b := decide (i_69 < (r105.length : Int))) hst rfl rfl rfl) ?_; intro a hst
      refine wpList_nil ?_
      refine then_normal ?_
      refine wp_seq ?_
      by_cases c177 : (decide (i_69 < (r105.length : Int))) = true
      · rw [if_pos c177] at H
        refine wp_condT hst rfl c177 ?_
        refine wp_skip ?_
        refine then_normal ?_
        obtain ⟨J_93, hJ_93, H⟩ := Jn.elim H
        refine wp_cut (fun a w' => ∃ (v_90 : Value), ∃ (l_91 : (List Tomb)), J_93 l_91 = some r ∧ ST Tryd.f8.ntmps a [(1, .string a1), (2, .string a2), (6, (.slice none 0 0)), (7, v_90), (11, v107), (12, .int .i64 (r105.length : Int)), (13, .int .i64 i_69)] ∧ SH (fun _ => False) w w' [Row k_Tomb 28 v_90 l_91, Row k_Tomb 28 v107 r105]) ?_ ?_
        · rintro a W_92 ⟨v_90, l_91, H, hst, hsh⟩
          subst hJ_93
          dsimp only at H
          refine wp_region_lit ?_
          refine r_t hst trivial rfl (x_arI (r := w64 (i_69 + 1)) hst rfl rfl rfl) ?_; intro a hst
          refine r_t hst trivial rfl (x_move hst rfl) ?_; intro a hst
          refine wpList_nil ?_
          refine then_normal ?_
          exact ⟨k_86, Nat.lt_succ_self _, v_90, l_91, (w64 (i_69 + 1)), H, hst.keep _ ⟨rfl, rfl, rfl, rfl, rfl, rfl, rfl, trivial⟩, hsh.pick [0, 0]⟩
        · refine wp_block ?_
          refine wp_seq ?_
          refine wp_region_lit ?_
          obtain ⟨x193, hx193, H⟩ := Option.bind_eq_some_iff.1 H
          refine r_t hst trivial rfl (x_indexAddr hst Tryd.underlying22 el_28 rfl rfl (hsh.row 1 rfl) hx193) ?_; intro a hst
          refine r_t hst trivial rfl (x_loadEsF (j := 0) (cs := [.string x193.Begin, .string x193.End, .int .u64 x193.Seq]) (ps := [.string x193.Begin, .string x193.End, .int .u64 x193.Seq]) hst ag_28 rfl (hsh.row 1 rfl) (Same.refl _ _) hx193 rfl (fun _ h => h) rfl) ?_; intro a hst
          refine r_alloc hst hsh trivial rfl zr_28 ?_
          intro g194 a w195 hgg194 hsh hst
          refine r_storeBs (i := 0) (cs' := [.string x193.Begin, .string x193.End, .int .u64 x193.Seq]) (vs := [.string x193.Begin, .string x193.End, .int .u64 x193.Seq]) hst hsh trivial ag_28 rfl rfl rfl rfl rfl rfl ?_; intro a w196 hsh hst
          refine wpList_nil ?_
          refine then_normal ?_
          refine wp_seq ?_
          refine wp_region_lit ?_
          refine r_t hst trivial rfl (x_fieldAddr (j' := 0) hst fa_28_0 rfl rfl) ?_; intro a hst
          refine r_t hst trivial rfl (x_loadB (i := 0) hst hsh sc_9 rfl rfl rfl) ?_; intro a hst
          refine r_t hst trivial rfl (x_move hst rfl) ?_; intro a hst
          refine r_t hst trivial rfl (x_maxS hst rfl rfl) ?_; intro a hst
          refine r_t hst trivial rfl (x_fieldAddr (j' := 0) hst fa_28_0 rfl rfl) ?_; intro a hst
          refine r_storeB (i := 0) (cs' := [.string (maxS x193.Begin a1), .string x193.End, .int .u64 x193.Seq]) hst hsh trivial sc_9 rfl rfl rfl rfl rfl rfl ?_; intro a w197 hsh hst
          refine wpList_nil ?_
          refine then_normal ?_
          obtain ⟨J_96, hJ_96, H⟩ := Jn.elim H
          refine wp_cut (fun a w' => ∃ (s_94 : ByteArray), J_96 s_94 = some r ∧ ST Tryd.f8.ntmps a [(1, .string a1), (2, .string a2), (6, (.slice none 0 0)), (7, v_67), (9, .pointer (some ⟨g194, 0, none⟩)), (11, v107), (12, .int .i64 (r105.length : Int)), (13, .int .i64 i_69)] ∧ SH (fun _ => False) w w' [Row k_Tomb 28 v_67 l_68, Box g194 [.string (maxS x193.Begin a1), .string s_94, .int .u64 x193.Seq] 28, Row k_Tomb 28 v107 r105]) ?_ ?_
          · rintro a W_95 ⟨s_94, H, hst, hsh⟩
            subst hJ_96
            dsimp only at H
            refine wp_seq ?_
            refine wp_region_lit ?_
            refine r_t hst trivial rfl (x_fieldAddr (j' := 0) hst fa_28_0 rfl rfl) ?_; intro a hst
            refine r_t hst trivial rfl (x_loadB (i := 1) hst hsh sc_9 rfl rfl rfl) ?_; intro a hst
            refine r_t hst trivial rfl (x_fieldAddr (j' := 1) hst fa_28_1 rfl rfl) ?_; intro a hst
            refine r_t hst trivial rfl (x_loadB (i := 1) hst hsh sc_9 rfl rfl rfl) ?_; intro a hst
            refine r_t hst trivial rfl (x_cmpS (b := sLt (maxS x193.Begin a1) s_94) hst rfl rfl rfl) ?_; intro a hst
            refine wpList_nil ?_
            refine then_normal ?_
            by_cases c200 : (sLt (maxS x193.Begin a1) s_94) = true
            · rw [if_pos c200] at H
              refine wp_condT hst rfl c200 ?_
              refine wp_region_lit ?_
              refine r_t hst trivial rfl (x_move hst rfl) ?_; intro a hst
              refine r_t hst trivial rfl (x_loadBs (i := 1) (ps := [.string (maxS x193.Begin a1), .string s_94, .int .u64 x193.Seq]) hst hsh ag_28 rfl rfl rfl) ?_; intro a hst
              refine r_buildSlice (vs := [.agg #[.string (maxS x193.Begin a1), .string s_94, .int .u64 x193.Seq]]) (cs := [.string (maxS x193.Begin a1), .string s_94, .int .u64 x193.Seq]) hst hsh trivial rfl Tryd.underlying22 el_28 rfl rfl (by simp [Value.cells]) rfl rfl ?_
              intro g201 a w202 hgg201 hsh hst
              replace hsh := hsh.pick [1, 0, 0, 0]
              obtain ⟨l203, hl203, H⟩ := Option.bind_eq_some_iff.1 H
              refine r_append1 (xx := (⟨maxS x193.Begin a1, s_94, x193.Seq⟩ : Tomb)) (C := []) (M := [Box g194 [.string (maxS x193.Begin a1), .string s_94, .int .u64 x193.Seq] 28, Row k_Tomb 28 v107 r105]) hst hsh trivial rfl Tryd.underlying22 el_28 (by decide) (by decide) (by decide) rfl rfl (fun _ _ _ => rfl) hl203 ?_
              intro v204 a w205 hsh hst
              refine r_t hst trivial rfl (x_assign hst rfl) ?_; intro a hst
              refine wpList_nil ?_
              refine block_normal ?_
              refine then_normal ?_
              exact ⟨v204, l203, H, hst.keep _ ⟨rfl, rfl, rfl, rfl, rfl, rfl, rfl, trivial⟩, hsh.pick [0, 1]⟩
            · rw [if_neg c200] at H
              replace c200 := Bool.eq_false_iff.2 c200
              refine wp_condF hst rfl c200 ?_
              refine wp_skip ?_
              refine block_normal ?_
              refine then_normal ?_
              exact ⟨v_67, l_68, H, hst.keep _ ⟨rfl, rfl, rfl, rfl, rfl, rfl, rfl, trivial⟩, hsh.pick [0, 1]⟩
          · refine wp_seq ?_
            refine wp_region_lit ?_
            refine r_t hst trivial rfl (x_move hst rfl) ?_; intro a hst
            refine r_t hst trivial rfl (x_cmpS (b := (!sEq a2 (ByteArray.mk #[]))) hst rfl rfl rfl) ?_; intro a hst
            refine wpList_nil ?_
            refine then_normal ?_
            by_cases c206 : (!sEq a2 (ByteArray.mk #[])) = true
            · rw [if_pos c206] at H
              refine wp_condT hst rfl c206 ?_
              refine wp_region_lit ?_
              refine r_t hst trivial rfl (x_fieldAddr (j' := 1) hst fa_28_1 rfl rfl) ?_; intro a hst
              refine r_t hst trivial rfl (x_loadB (i := 0) hst hsh sc_9 rfl rfl rfl) ?_; intro a hst
              refine r_t hst trivial rfl (x_move hst rfl) ?_; intro a hst
              refine r_t hst trivial rfl (x_minS hst rfl rfl) ?_; intro a hst
              refine r_t hst trivial rfl (x_fieldAddr (j' := 1) hst fa_28_1 rfl rfl) ?_; intro a hst
              refine r_storeB (i := 0) (cs' := [.string (maxS x193.Begin a1), .string (minS x193.End a2), .int .u64 x193.Seq]) hst hsh trivial sc_9 rfl rfl rfl rfl rfl rfl ?_; intro a w207 hsh hst
              refine wpList_nil ?_
              refine then_normal ?_
              exact ⟨(minS x193.End a2), H, hst.keep _ ⟨rfl, rfl, rfl, rfl, rfl, rfl, rfl, rfl, trivial⟩, hsh.pick [1, 0, 0]⟩
            · rw [if_neg c206] at H
              replace c206 := Bool.eq_false_iff.2 c206
              refine wp_condF hst rfl c206 ?_
              refine wp_skip ?_
              refine then_normal ?_
              exact ⟨x193.End, H, hst.keep _ ⟨rfl, rfl, rfl, rfl, rfl, rfl, rfl, rfl, trivial⟩, hsh.pick [1, 0, 0]⟩
      · rw [if_neg c177] at H
        replace c177 := Bool.eq_false_iff.2 c177
        refine wp_condF hst rfl c177 ?_
        refine wp_exit ?_
        refine then_exit ?_
        refine then_exit ?_
        refine block_hit ?_
        refine then_normal ?_
        refine wp_seq ?_
        refine wp_region_lit ?_
        refine r_t hst trivial rfl (x_move hst rfl) ?_; intro a hst
        refine r_t hst trivial rfl (x_assign hst rfl) ?_; intro a hst
        refine wpList_nil ?_
        refine then_normal ?_
        refine wp_ret ?_
        obtain rfl := Option.some.inj H
        exact ret1 hst rfl rfl ⟨v_67, rfl, hsh.pick [0]⟩

set_option maxHeartbeats 4000000 in
set_option maxRecDepth 100000 in
theorem r09_Valid.calls (w : World) (a0 : Tomb) (r : Bool) (h : r09_Valid a0 = some r) :
    Calls Tryd.prog 18 ([.agg #[.string a0.Begin, .string a0.End, .int .u64 a0.Seq]] : List Value).toArray w fun e w' => e = .returned (.bool r) ∧ SH (fun _ => False) w w' [] := by
  have H := h
  clear h
  unfold r09_Valid at H
  refine calls_enter Tryd.func18 rfl rfl ?_
  intro a hst
  have hsh := SH.zero (fun _ => False) w
  refine wp_seq ?_
  refine wp_region_lit ?_
  refine r_box hst hsh trivial rfl rfl rfl ?_
  intro g1 a w2 hgg1 hsh hst
  refine r_t hst trivial rfl (x_assign hst rfl) ?_; intro a hst
  refine wpList_nil ?_
  refine then_normal ?_
  refine wp_seq ?_
  refine wp_region_lit ?_
  refine r_t hst trivial rfl (x_fieldAddr (j' := 0) hst fa_28_0 rfl rfl) ?_; intro a hst
  refine r_t hst trivial rfl (x_loadB (i := 0) hst hsh sc_9 rfl rfl rfl) ?_; intro a hst
  refine r_t hst trivial rfl (x_lenStr hst Tryd.underlying9 rfl) ?_; intro a hst
  refine r_t hst trivial rfl (x_cmpI (b := decide (1 ≤ (a0.Begin.size : Int))) hst rfl rfl rfl) ?_; intro a hst
  refine r_t hst trivial rfl (x_move hst rfl) ?_; intro a hst
  refine wl_join0 (N := Tryd.f18.ntmps) 10 [(1, .pointer (some ⟨g1, 0, none⟩)), (2, .bool false), (12, .bool ((decide (1 ≤ (a0.Begin.size : Int))) && (decide ((a0.Begin.size : Int) ≤ 1024))))] ?_ ?_
  · intro a hst
    refine r_t hst trivial rfl (x_move hst rfl) ?_; intro a hst
    refine wl_join0 (N := Tryd.f18.ntmps) 16 [(1, .pointer (some ⟨g1, 0, none⟩)), (2, .bool false), (18, .bool (((decide (1 ≤ (a0.Begin.size : Int))) && (decide ((a0.Begin.size : Int) ≤ 1024))) && (decide ((a0.End.size : Int) ≤ 1025))))] ?_ ?_
    · intro a hst
      refine r_t hst trivial rfl (x_move hst rfl) ?_; intro a hst
      refine wl_join0 (N := Tryd.f18.ntmps) 23 [(1, .pointer (some ⟨g1, 0, none⟩)), (2, .bool false), (25, .bool ((((decide (1 ≤ (a0.Begin.size : Int))) && (decide ((a0.Begin.size : Int) ≤ 1024))) && (decide ((a0.End.size : Int) ≤ 1025))) && (sLt a0.Begin a0.End)))] ?_ ?_
      · intro a hst
        refine r_t hst trivial rfl (x_move hst rfl) ?_; intro a hst
        refine wl_join0 (N := Tryd.f18.ntmps) 28 [(2, .bool false), (30, .bool (((((decide (1 ≤ (a0.Begin.size : Int))) && (decide ((a0.Begin.size : Int) ≤ 1024))) && (decide ((a0.End.size : Int) ≤ 1025))) && (sLt a0.Begin a0.End)) && (decide (a0.Seq ≤ 72057594037927935))))] ?_ ?_
        · intro a hst
          refine r_t hst trivial rfl (x_assign hst rfl) ?_; intro a hst
          refine wpList_nil ?_
          refine then_normal ?_
          refine wp_ret ?_
          obtain rfl := Option.some.inj H
          exact ret1 hst rfl rfl ⟨rfl, hsh.pick []⟩
        · intro hj
          by_cases c6 : ((((decide (1 ≤ (a0.Begin.size : Int))) && (decide ((a0.Begin.size : Int) ≤ 1024))) && (decide ((a0.End.size : Int) ≤ 1025))) && (sLt a0.Begin a0.End)) = true
          · refine r_t hst (wt_of 26 rfl rfl c6) rfl (x_fieldAddr (j' := 2) hst fa_28_2 rfl rfl) ?_; intro a hst
            refine r_t hst (wt_of 26 rfl rfl c6) rfl (x_loadB (i := 0) hst hsh sc_26 rfl rfl rfl) ?_; intro a hst
            refine r_t hst (wt_of 26 rfl rfl c6) rfl (x_cmpI (b := decide (a0.Seq ≤ 72057594037927935)) hst rfl rfl rfl) ?_; intro a hst
            refine r_t hst trivial rfl (x_andT hst rfl c6 rfl) ?_; intro a hst
            exact hj _ (hst.keep _ ⟨rfl, rfl, trivial⟩)
          · replace c6 := Bool.eq_false_iff.2 c6
            refine r_not hst 26 rfl rfl c6 rfl ?_; intro a hst
            refine r_not hst 26 rfl rfl c6 rfl ?_; intro a hst
            refine r_not hst 26 rfl rfl c6 rfl ?_; intro a hst
            refine r_t hst trivial rfl (x_andF (decide (a0.Seq ≤ 72057594037927935)) hst rfl c6 rfl) ?_; intro a hst
            exact hj _ (hst.keep _ ⟨rfl, rfl, trivial⟩)
      · intro hj
        by_cases c5 : (((decide (1 ≤ (a0.Begin.size : Int))) && (decide ((a0.Begin.size : Int) ≤ 1024))) && (decide ((a0.End.size : Int) ≤ 1025))) = true
        · refine r_t hst (wt_of 19 rfl rfl c5) rfl (x_fieldAddr (j' := 0) hst fa_28_0 rfl rfl) ?_; intro a hst
          refine r_t hst (wt_of 19 rfl rfl c5) rfl (x_loadB (i := 0) hst hsh sc_9 rfl rfl rfl) ?_; intro a hst
          refine r_t hst (wt_of 19 rfl rfl c5) rfl (x_fieldAddr (j' := 1) hst fa_28_1 rfl rfl) ?_; intro a hst
          refine r_t hst (wt_of 19 rfl rfl c5) rfl (x_loadB (i := 0) hst hsh sc_9 rfl rfl rfl) ?_; intro a hst
          refine r_t hst (wt_of 19 rfl rfl c5) rfl (x_cmpS (b := sLt a0.Begin a0.End) hst rfl rfl rfl) ?_; intro a hst
          refine r_t hst trivial rfl (x_andT hst rfl c5 rfl) ?_; intro a hst
          exact hj _ (hst.keep _ ⟨rfl, rfl, rfl, trivial⟩)
        · replace c5 := Bool.eq_false_iff.2 c5
          refine r_not hst 19 rfl rfl c5 rfl ?_; intro a hst
          refine r_not hst 19 rfl rfl c5 rfl ?_; intro a hst
          refine r_not hst 19 rfl rfl c5 rfl ?_; intro a hst
          refine r_not hst 19 rfl rfl c5 rfl ?_; intro a hst
          refine r_not hst 19 rfl rfl c5 rfl ?_; intro a hst
          refine r_t hst trivial rfl (x_andF (sLt a0.Begin a0.End) hst rfl c5 rfl) ?_; intro a hst
          exact hj _ (hst.keep _ ⟨rfl, rfl, rfl, trivial⟩)
    · intro hj
      by_cases c4 : ((decide (1 ≤ (a0.Begin.size : Int))) && (decide ((a0.Begin.size : Int) ≤ 1024))) = true
      · refine r_t hst (wt_of 13 rfl rfl c4) rfl (x_fieldAddr (j' := 1) hst fa_28_1 rfl rfl) ?_; intro a hst
        refine r_t hst (wt_of 13 rfl rfl c4) rfl (x_loadB (i := 0) hst hsh sc_9 rfl rfl rfl) ?_; intro a hst
        refine r_t hst (wt_of 13 rfl rfl c4) rfl (x_lenStr hst Tryd.underlying9 rfl) ?_; intro a hst
        refine r_t hst (wt_of 13 rfl rfl c4) rfl (x_cmpI (b := decide ((a0.End.size : Int) ≤ 1025)) hst rfl rfl rfl) ?_; intro a hst
        refine r_t hst trivial rfl (x_andT hst rfl c4 rfl) ?_; intro a hst
        exact hj _ (hst.keep _ ⟨rfl, rfl, rfl, trivial⟩)
      · replace c4 := Bool.eq_false_iff.2 c4
        refine r_not hst 13 rfl rfl c4 rfl ?_; intro a hst
        refine r_not hst 13 rfl rfl c4 rfl ?_; intro a hst
        refine r_not hst 13 rfl rfl c4 rfl ?_; intro a hst
        refine r_not hst 13 rfl rfl c4 rfl ?_; intro a hst
        refine r_t hst trivial rfl (x_andF (decide ((a0.End.size : Int) ≤ 1025)) hst rfl c4 rfl) ?_; intro a hst
        exact hj _ (hst.keep _ ⟨rfl, rfl, rfl, trivial⟩)
  · intro hj
    by_cases c3 : (decide (1 ≤ (a0.Begin.size : Int))) = true
    · refine r_t hst (wt_of 7 rfl rfl c3) rfl (x_fieldAddr (j' := 0) hst fa_28_0 rfl rfl) ?_; intro a hst
      refine r_t hst (wt_of 7 rfl rfl c3) rfl (x_loadB (i := 0) hst hsh sc_9 rfl rfl rfl) ?_; intro a hst
      refine r_t hst (wt_of 7 rfl rfl c3) rfl (x_lenStr hst Tryd.underlying9 rfl) ?_; intro a hst
      refine r_t hst (wt_of 7 rfl rfl c3) rfl (x_cmpI (b := decide ((a0.Begin.size : Int) ≤ 1024)) hst rfl rfl rfl) ?_; intro a hst
      refine r_t hst trivial rfl (x_andT hst rfl c3 rfl) ?_; intro a hst
      exact hj _ (hst.keep _ ⟨rfl, rfl, rfl, trivial⟩)
    · replace c3 := Bool.eq_false_iff.2 c3
      refine r_not hst 7 rfl rfl c3 rfl ?_; intro a hst
      refine r_not hst 7 rfl rfl c3 rfl ?_; intro a hst
      refine r_not hst 7 rfl rfl c3 rfl ?_; intro a hst
      refine r_not hst 7 rfl rfl c3 rfl ?_; intro a hst
      refine r_t hst trivial rfl (x_andF (decide ((a0.Begin.size : Int) ≤ 1024)) hst rfl c3 rfl) ?_; intro a hst
      exact hj _ (hst.keep _ ⟨rfl, rfl, rfl, trivial⟩)

set_option maxHeartbeats 4000000 in
set_option maxRecDepth 100000 in
theorem r09_Cut.calls (k : Nat) (w : World) (va0 : Value) (Za0 : Nat → Prop) (wra0 : World) (hsa0 : Same Za0 wra0 w) (a0 : (List Tomb)) (hra0 : RD k_Tomb Za0 wra0 va0 a0) (a1 : ByteArray) (a2 : ByteArray) (r : (List Tomb)) (h : r09_Cut k a0 a1 a2 = some r) :
    Calls Tryd.prog 9 ([va0, .string a1, .string a2] : List Value).toArray w fun e w' => ∃ v0_ : Value, e = .returned (v0_) ∧ SH (fun _ => False) w w' [Row k_Tomb 28 v0_ r] := by
  have H := h
  clear h
  unfold r09_Cut at H
  refine calls_enter Tryd.func9 rfl rfl ?_
  intro a hst
  have hsh := SH.zero (fun _ => False) w
  refine wp_seq ?_
  refine wp_region_lit ?_
  refine r_t hst trivial rfl (x_assign hst rfl) ?_; intro a hst
  refine wpList_nil ?_
  refine then_normal ?_
  refine wp_seq ?_
  refine wp_region_lit ?_
  refine r_t hst trivial rfl (x_assign hst rfl) ?_; intro a hst
  refine wpList_nil ?_
  refine then_normal ?_
  refine wp_seq ?_
  refine wp_seq ?_
  refine wp_region_lit ?_
  refine r_t hst trivial rfl (x_assign hst rfl) ?_; intro a hst
  refine wpList_nil ?_
  refine then_normal ?_
  refine wp_block ?_
  have hsh := hsh.addNil k_Tomb 28
  refine wp_loop_fuel (fun k_116 a w' => ∃ (v_91 : Value), ∃ (l_92 : (List Tomb)), ∃ (i_93 : Int), r09_Cut.l0 a0 a1 a2 k_116 l_92 i_93 = some r ∧ ST Tryd.f9.ntmps a [(0, va0), (1, .string a1), (2, .string a2), (6, (.slice none 0 0)), (7, v_91), (8, .int .i64 i_93)] ∧ SH (fun _ => False) w w' [Row k_Tomb 28 v_91 l_92]) k ?_ ?_
  · exact ⟨(.slice none 0 0), ([]), 0, H, hst.keep _ ⟨rfl, rfl, rfl, rfl, rfl, rfl, trivial⟩, hsh.pick [0]⟩
  · rintro k_116 a W_94 ⟨v_91, l_92, i_93, H, hst, hsh⟩
    cases k_116 with
    | zero => rw [r09_Cut.l0] at H; cases H
    | succ k_116 =>
      rw [r09_Cut.l0] at H
      refine wp_seq ?_
      refine wp_seq ?_
      refine wp_region_lit ?_
      refine r_t hst trivial rfl (x_move hst rfl) ?_; intro a hst
      refine r_t hst trivial rfl (x_move hst rfl) ?_; intro a hst
      refine r_t hst trivial rfl (x_lenSl hst Tryd.underlying22 rfl hra0.slen) ?_; intro a hst
      refine r_t hst trivial rfl (x_cmpI (b := decide (i_93 < (a0.length : Int))) hst rfl rfl rfl) ?_; intro a hst
      refine wpList_nil ?_
      refine then_normal ?_
      by_cases c281 : (decide (i_93 < (a0.length : Int))) = true
      · rw [if_pos c281] at H
        refine wp_condT hst rfl c281 ?_
        refine wp_skip ?_
        refine then_normal ?_
        obtain ⟨J_126, hJ_126, H⟩ := Jn.elim H
        refine wp_cut (fun a w' => ∃ (v_123 : Value), ∃ (l_124 : (List Tomb)), J_126 l_124 = some r ∧ ST Tryd.f9.ntmps a [(0, va0), (1, .string a1), (2, .string a2), (6, (.slice none 0 0)), (7, v_123), (8, .int .i64 i_93)] ∧ SH (fun _ => False) w w' [Row k_Tomb 28 v_123 l_124]) ?_ ?_
        · rintro a W_125 ⟨v_123, l_124, H, hst, hsh⟩
          subst hJ_126
          dsimp only at H
          refine wp_region_lit ?_
          refine r_t hst trivial rfl (x_move hst rfl) ?_; intro a hst
          refine r_t hst trivial rfl (x_arI (r := w64 (i_93 + 1)) hst rfl rfl rfl) ?_; intro a hst
          refine r_t hst trivial rfl (x_assign hst rfl) ?_; intro a hst
          refine wpList_nil ?_
          refine then_normal ?_
          exact ⟨k_116, Nat.lt_succ_self _, v_123, l_124, (w64 (i_93 + 1)), H, hst.keep _ ⟨rfl, rfl, rfl, rfl, rfl, rfl, trivial⟩, hsh.pick [0]⟩
        · refine wp_block ?_
          refine wp_seq ?_
          refine wp_region_lit ?_
          refine r_t hst trivial rfl (x_move hst rfl) ?_; intro a hst
          refine r_t hst trivial rfl (x_move hst rfl) ?_; intro a hst
          obtain ⟨x308, hx308, H⟩ := Option.bind_eq_some_iff.1 H
          refine r_t hst trivial rfl (x_indexAddr hst Tryd.underlying22 el_28 rfl rfl hra0 hx308) ?_; intro a hst
          refine r_t hst trivial rfl (x_loadEsF (j := 0) (cs := [.string x308.Begin, .string x308.End, .int .u64 x308.Seq]) (ps := [.string x308.Begin, .string x308.End, .int .u64 x308.Seq]) hst ag_28 rfl hra0 (Same.sh0 hsa0 hsh) hx308 rfl (fun _ h => h) rfl) ?_; intro a hst
          refine r_alloc hst hsh trivial rfl zr_28 ?_
          intro g309 a w310 hgg309 hsh hst
          refine r_storeBs (i := 0) (cs' := [.string x308.Begin, .string x308.End, .int .u64 x308.Seq]) (vs := [.string x308.Begin, .string x308.End, .int .u64 x308.Seq]) hst hsh trivial ag_28 rfl rfl rfl rfl rfl rfl ?_; intro a w311 hsh hst
          refine wpList_nil ?_
          refine then_normal ?_
          refine wp_seq ?_
          refine wp_seq ?_
          refine wp_region_lit ?_
          refine r_t hst trivial rfl (x_loadBs (i := 0) (ps := [.string x308.Begin, .string x308.End, .int .u64 x308.Seq]) hst hsh ag_28 rfl rfl rfl) ?_; intro a hst
          obtain ⟨r315, hr315, H⟩ := Option.bind_eq_some_iff.1 H
          refine r_callD hst trivial rfl fn_18 rfl (r09_Valid.calls _ x308 r315 hr315) ?_
          rintro e w316 ⟨rfl, hc⟩
          replace hsh := hsh.call0 hc
          clear hc
          refine ⟨_, rfl, fun a hst => ?_⟩
          refine r_t hst trivial rfl (x_notB hst rfl) ?_; intro a hst
          refine wpList_nil ?_
          refine then_normal ?_
          by_cases c317 : (!r315) = true
          · rw [if_pos c317] at H
            refine wp_condT hst rfl c317 ?_
            refine wp_exit ?_
            refine then_exit ?_
            refine block_hit ?_
            refine then_normal ?_
            exact ⟨v_91, l_92, H, hst.keep _ ⟨rfl, rfl, rfl, rfl, rfl, rfl, trivial⟩, hsh.pick [1]⟩
          · rw [if_neg c317] at H
            replace c317 := Bool.eq_false_iff.2 c317
            refine wp_condF hst rfl c317 ?_
            refine wp_skip ?_
            refine then_normal ?_
            obtain ⟨J_129, hJ_129, H⟩ := Jn.elim H
            refine wp_cut (fun a w' => ∃ (s_127 : ByteArray), J_129 s_127 = some r ∧ ST Tryd.f9.ntmps a [(0, va0), (1, .string a1), (2, .string a2), (6, (.slice none 0 0)), (7, v_91), (8, .int .i64 i_93), (9, .pointer (some ⟨g309, 0, none⟩))] ∧ SH (fun _ => False) w w' [Row k_Tomb 28 v_91 l_92, Box g309 [.string s_127, .string x308.End, .int .u64 x308.Seq] 28]) ?_ ?_
            · rintro a W_128 ⟨s_127, H, hst, hsh⟩
              subst hJ_129
              dsimp only at H
              obtain ⟨J_132, hJ_132, H⟩ := Jn.elim H
              refine wp_cut (fun a w' => ∃ (s_130 : ByteArray), J_132 s_130 = some r ∧ ST Tryd.f9.ntmps a [(0, va0), (1, .string a1), (2, .string a2), (6, (.slice none 0 0)), (7, v_91), (8, .int .i64 i_93), (9, .pointer (some ⟨g309, 0, none⟩))] ∧ SH (fun _ => False) w w' [Row k_Tomb 28 v_91 l_92, Box g309 [.string s_127, .string s_130, .int .u64 x308.Seq] 28]) ?_ ?_
              · rintro a W_131 ⟨s_130, H, hst, hsh⟩
                subst hJ_132
                dsimp only at H
                refine wp_seq ?_
                refine wp_region_lit ?_
                refine r_t hst trivial rfl (x_fieldAddr (j' := 0) hst fa_28_0 rfl rfl) ?_; intro a hst
                refine r_t hst trivial rfl (x_loadB (i := 1) hst hsh sc_9 rfl rfl rfl) ?_; intro a hst
                refine r_t hst trivial rfl (x_fieldAddr (j' := 1) hst fa_28_1 rfl rfl) ?_; intro a hst
                refine r_t hst trivial rfl (x_loadB (i := 1) hst hsh sc_9 rfl rfl rfl) ?_; intro a hst
                refine r_t hst trivial rfl (x_cmpS (b := sLt s_127 s_130) hst rfl rfl rfl) ?_; intro a hst
                refine wpList_nil ?_
                refine then_normal ?_
                by_cases c323 : (sLt s_127 s_130) = true
                · rw [if_pos c323] at H
                  refine wp_condT hst rfl c323 ?_
                  refine wp_region_lit ?_
                  refine r_t hst trivial rfl (x_move hst rfl) ?_; intro a hst
                  refine r_t hst trivial rfl (x_loadBs (i := 1) (ps := [.string s_127, .string s_130, .int .u64 x308.Seq]) hst hsh ag_28 rfl rfl rfl) ?_; intro a hst
                  refine r_buildSlice (vs := [.agg #[.string s_127, .string s_130, .int .u64 x308.Seq]]) (cs := [.string s_127, .string s_130, .int .u64 x308.Seq]) hst hsh trivial rfl Tryd.underlying22 el_28 rfl rfl (by simp [Value.cells]) rfl rfl ?_
                  intro g324 a w325 hgg324 hsh hst
                  replace hsh := hsh.pick [1, 0, 0]
                  obtain ⟨l326, hl326, H⟩ := Option.bind_eq_some_iff.1 H
                  refine r_append1 (xx := (⟨s_127, s_130, x308.Seq⟩ : Tomb)) (C := []) (M := [Box g309 [.string s_127, .string s_130, .int .u64 x308.Seq] 28]) hst hsh trivial rfl Tryd.underlying22 el_28 (by decide) (by decide) (by decide) rfl rfl (fun _ _ _ => rfl) hl326 ?_
                  intro v327 a w328 hsh hst
                  refine r_t hst trivial rfl (x_assign hst rfl) ?_; intro a hst
                  refine wpList_nil ?_
                  refine block_normal ?_
                  refine then_normal ?_
                  exact ⟨v327, l326, H, hst.keep _ ⟨rfl, rfl, rfl, rfl, rfl, rfl, trivial⟩, hsh.pick [0]⟩
                · rw [if_neg c323] at H
                  replace c323 := Bool.eq_false_iff.2 c323
                  refine wp_condF hst rfl c323 ?_
                  refine wp_skip ?_
                  refine block_normal ?_
                  refine then_normal ?_
                  exact ⟨v_91, l_92, H, hst.keep _ ⟨rfl, rfl, rfl, rfl, rfl, rfl, trivial⟩, hsh.pick [0]⟩
              · refine wp_seq ?_
                refine wp_region_lit ?_
                refine r_t hst trivial rfl (x_move hst rfl) ?_; intro a hst
                refine r_t hst trivial rfl (x_cmpS (b := (!sEq a2 (ByteArray.mk #[]))) hst rfl rfl rfl) ?_; intro a hst
                refine r_t hst trivial rfl (x_move hst rfl) ?_; intro a hst
                refine wl_join0 (N := Tryd.f9.ntmps) 8 [(0, va0), (1, .string a1), (2, .string a2), (6, (.slice none 0 0)), (7, v_91), (8, .int .i64 i_93), (9, .pointer (some ⟨g309, 0, none⟩)), (36, .bool ((!sEq a2 (ByteArray.mk #[])) && (sLt a2 x308.End)))] ?_ ?_
                · intro a hst
                  refine wpList_nil ?_
                  refine then_normal ?_
                  by_cases c330 : ((!sEq a2 (ByteArray.mk #[])) && (sLt a2 x308.End)) = true
                  · rw [if_pos c330] at H
                    refine wp_condT hst rfl c330 ?_
                    refine wp_region_lit ?_
                    refine r_t hst trivial rfl (x_move hst rfl) ?_; intro a hst
                    refine r_t hst trivial rfl (x_fieldAddr (j' := 1) hst fa_28_1 rfl rfl) ?_; intro a hst
                    refine r_storeB (i := 1) (cs' := [.string s_127, .string a2, .int .u64 x308.Seq]) hst hsh trivial sc_9 rfl rfl rfl rfl rfl rfl ?_; intro a w331 hsh hst
                    refine wpList_nil ?_
                    refine then_normal ?_
                    exact ⟨a2, H, hst.keep _ ⟨rfl, rfl, rfl, rfl, rfl, rfl, rfl, trivial⟩, hsh.pick [1, 0]⟩
                  · rw [if_neg c330] at H
                    replace c330 := Bool.eq_false_iff.2 c330
                    refine wp_condF hst rfl c330 ?_
                    refine wp_skip ?_
                    refine then_normal ?_
                    exact ⟨x308.End, H, hst.keep _ ⟨rfl, rfl, rfl, rfl, rfl, rfl, rfl, trivial⟩, hsh.pick [0, 0]⟩
                · intro hj
                  by_cases c329 : (!sEq a2 (ByteArray.mk #[])) = true
                  · refine r_t hst (wt_of 31 rfl rfl c329) rfl (x_move hst rfl) ?_; intro a hst
                    refine r_t hst (wt_of 31 rfl rfl c329) rfl (x_fieldAddr (j' := 1) hst fa_28_1 rfl rfl) ?_; intro a hst
                    refine r_t hst (wt_of 31 rfl rfl c329) rfl (x_loadB (i := 1) hst hsh sc_9 rfl rfl rfl) ?_; intro a hst
                    refine r_t hst (wt_of 31 rfl rfl c329) rfl (x_cmpS (b := sLt a2 x308.End) hst rfl rfl rfl) ?_; intro a hst
                    refine r_t hst trivial rfl (x_andT hst rfl c329 rfl) ?_; intro a hst
                    exact hj _ (hst.keep _ ⟨rfl, rfl, rfl, rfl, rfl, rfl, rfl, rfl, trivial⟩)
                  · replace c329 := Bool.eq_false_iff.2 c329
                    refine r_not hst 31 rfl rfl c329 rfl ?_; intro a hst
                    refine r_not hst 31 rfl rfl c329 rfl ?_; intro a hst
                    refine r_not hst 31 rfl rfl c329 rfl ?_; intro a hst
                    refine r_not hst 31 rfl rfl c329 rfl ?_; intro a hst
                    refine r_t hst trivial rfl (x_andF (sLt a2 x308.End) hst rfl c329 rfl) ?_; intro a hst
                    exact hj _ (hst.keep _ ⟨rfl, rfl, rfl, rfl, rfl, rfl, rfl, rfl, trivial⟩)
            · refine wp_seq ?_
              refine wp_region_lit ?_
              refine r_t hst trivial rfl (x_move hst rfl) ?_; intro a hst
              refine r_t hst trivial rfl (x_fieldAddr (j' := 0) hst fa_28_0 rfl rfl) ?_; intro a hst
              refine r_t hst trivial rfl (x_loadB (i := 0) hst hsh sc_9 rfl rfl rfl) ?_; intro a hst
              refine r_t hst trivial rfl (x_cmpS (b := (!(sLt a1 x308.Begin || sEq a1 x308.Begin))) hst rfl rfl rfl) ?_; intro a hst
              refine wpList_nil ?_
              refine then_normal ?_
              by_cases c332 : (!(sLt a1 x308.Begin || sEq a1 x308.Begin)) = true
              · rw [if_pos c332] at H
                refine wp_condT hst rfl c332 ?_
                refine wp_region_lit ?_
                refine r_t hst trivial rfl (x_move hst rfl) ?_; intro a hst
                refine r_t hst trivial rfl (x_fieldAddr (j' := 0) hst fa_28_0 rfl rfl) ?_; intro a hst
                refine r_storeB (i := 0) (cs' := [.string a1, .string x308.End, .int .u64 x308.Seq]) hst hsh trivial sc_9 rfl rfl rfl rfl rfl rfl ?_; intro a w333 hsh hst
                refine wpList_nil ?_
                refine then_normal ?_
                exact ⟨a1, H, hst.keep _ ⟨rfl, rfl, rfl, rfl, rfl, rfl, rfl, trivial⟩, hsh.pick [1, 0]⟩
              · rw [if_neg c332] at H
                replace c332 := Bool.eq_false_iff.2 c332
                refine wp_condF hst rfl c332 ?_
                refine wp_skip ?_
                refine then_normal ?_
                exact ⟨x308.Begin, H, hst.keep _ ⟨rfl, rfl, rfl, rfl, rfl, rfl, rfl, trivial⟩, hsh.pick [1, 0]⟩
      · rw [if_neg c281] at H
        replace c281 := Bool.eq_false_iff.2 c281
        refine wp_condF hst rfl c281 ?_
        refine wp_exit ?_
        refine then_exit ?_
        refine then_exit ?_
        refine block_hit ?_
        refine then_normal ?_
        refine wp_seq ?_
        refine wp_region_lit ?_
        refine r_t hst trivial rfl (x_move hst rfl) ?_; intro a hst
        refine r_t hst trivial rfl (x_assign hst rfl) ?_; intro a hst
        refine wpList_nil ?_
        refine then_normal ?_
        refine wp_ret ?_
        obtain rfl := Option.some.inj H
        exact ret1 hst rfl rfl ⟨v_91, rfl, hsh.pick [0]⟩

set_option maxHeartbeats 4000000 in
set_option maxRecDepth 100000 in
theorem l09_same.calls (k : Nat) (w : World) (va0 : Value) (Za0 : Nat → Prop) (wra0 : World) (hsa0 : Same Za0 wra0 w) (a0 : (List Tomb)) (hra0 : RD k_Tomb Za0 wra0 va0 a0) (va1 : Value) (Za1 : Nat → Prop) (wra1 : World) (hsa1 : Same Za1 wra1 w) (a1 : (List Tomb)) (hra1 : RD k_Tomb Za1 wra1 va1 a1) (r : Bool) (h : l09_same k a0 a1 = some r) :
    Calls Tryd.prog 10 ([va0, va1] : List Value).toArray w fun e w' => e = .returned (.bool r) ∧ SH (fun _ => False) w w' [] := by
  have H := h
  clear h
  unfold l09_same at H
  refine calls_enter Tryd.func10 rfl rfl ?_
  intro a hst
  have hsh := SH.zero (fun _ => False) w
  refine wp_seq ?_
  refine wp_region_lit ?_
  refine r_t hst trivial rfl (x_assign hst rfl) ?_; intro a hst
  refine wpList_nil ?_
  refine then_normal ?_
  refine wp_seq ?_
  refine wp_seq ?_
  refine wp_region_lit ?_
  refine r_t hst trivial rfl (x_move hst rfl) ?_; intro a hst
  refine r_t hst trivial rfl (x_lenSl hst Tryd.underlying22 rfl hra0.slen) ?_; intro a hst
  refine r_t hst trivial rfl (x_move hst rfl) ?_; intro a hst
  refine r_t hst trivial rfl (x_lenSl hst Tryd.underlying22 rfl hra1.slen) ?_; intro a hst
  refine r_t hst trivial rfl (x_cmpI (b := ((a0.length : Int) != (a1.length : Int))) hst rfl rfl rfl) ?_; intro a hst
  refine wpList_nil ?_
  refine then_normal ?_
  by_cases c2 : ((a0.length : Int) != (a1.length : Int)) = true
  · rw [if_pos c2] at H
    refine wp_condT hst rfl c2 ?_
    refine wp_seq ?_
    refine wp_region_lit ?_
    refine r_t hst trivial rfl (x_assign hst rfl) ?_; intro a hst
    refine wpList_nil ?_
    refine then_normal ?_
    refine wp_ret ?_
    refine then_ret ?_
    obtain rfl := Option.some.inj H
    exact ret1 hst rfl rfl ⟨rfl, hsh.pick []⟩
  · rw [if_neg c2] at H
    replace c2 := Bool.eq_false_iff.2 c2
    refine wp_condF hst rfl c2 ?_
    refine wp_skip ?_
    refine then_normal ?_
    refine wp_seq ?_
    refine wp_seq ?_
    refine wp_region_lit ?_
    refine r_t hst trivial rfl (x_assign hst rfl) ?_; intro a hst
    refine wpList_nil ?_
    refine then_normal ?_
    refine wp_block ?_
    refine wp_loop_fuel (fun k_16 a w' => ∃ (i_12 : Int), l09_same.l0 a0 a1 k_16 i_12 = some r ∧ ST Tryd.f10.ntmps a [(0, va0), (1, va1), (4, .bool false), (5, .int .i64 i_12)] ∧ SH (fun _ => False) w w' []) k ?_ ?_
    · exact ⟨0, H, hst.keep _ ⟨rfl, rfl, rfl, rfl, trivial⟩, hsh.pick []⟩
    · rintro k_16 a W_13 ⟨i_12, H, hst, hsh⟩
      cases k_16 with
      | zero => rw [l09_same.l0] at H; cases H
      | succ k_16 =>
        rw [l09_same.l0] at H
        refine wp_seq ?_
        refine wp_seq ?_
        refine wp_region_lit ?_
        refine r_t hst trivial rfl (x_move hst rfl) ?_; intro a hst
        refine r_t hst trivial rfl (x_move hst rfl) ?_; intro a hst
        refine r_t hst trivial rfl (x_lenSl hst Tryd.underlying22 rfl hra0.slen) ?_; intro a hst
        refine r_t hst trivial rfl (x_cmpI (b := decide (i_12 < (a0.length : Int))) hst rfl rfl rfl) ?_; intro a hst
        refine wpList_nil ?_
        refine then_normal ?_
        by_cases c54 : (decide (i_12 < (a0.length : Int))) = true
        · rw [if_pos c54] at H
          refine wp_condT hst rfl c54 ?_
          refine wp_skip ?_
          refine then_normal ?_
          refine wp_seq ?_
          refine wp_block ?_
          refine wp_seq ?_
          refine wp_region_q (fun w' => SH (fun _ => False) w w' []) hsh.drew fo (by kernel_rfl) ?_
          refine q_t hst trivial rfl (fun _ hsh => x_move hst rfl) ?_; intro a hst
          refine q_t hst trivial rfl (fun _ hsh => x_move hst rfl) ?_; intro a hst
          obtain ⟨x59, hx59, H⟩ := Option.bind_eq_some_iff.1 H
          refine q_t hst trivial rfl (fun _ hsh => x_indexAddr hst Tryd.underlying22 el_28 rfl rfl hra0 hx59) ?_; intro a hst
          refine q_t hst trivial rfl (fun _ hsh => x_loadEsF (j := 0) (cs := [.string x59.Begin, .string x59.End, .int .u64 x59.Seq]) (ps := [.string x59.Begin, .string x59.End, .int .u64 x59.Seq]) hst ag_28 rfl hra0 (Same.sh0 hsa0 hsh) hx59 rfl (fun _ h => h) rfl) ?_; intro a hst
          refine q_t hst trivial rfl (fun _ hsh => x_move hst rfl) ?_; intro a hst
          refine q_t hst trivial rfl (fun _ hsh => x_move hst rfl) ?_; intro a hst
          obtain ⟨x60, hx60, H⟩ := Option.bind_eq_some_iff.1 H
          refine q_t hst trivial rfl (fun _ hsh => x_indexAddr hst Tryd.underlying22 el_28 rfl rfl hra1 hx60) ?_; intro a hst
          refine q_t hst trivial rfl (fun _ hsh => x_loadEsF (j := 0) (cs := [.string x60.Begin, .string x60.End, .int .u64 x60.Seq]) (ps := [.string x60.Begin, .string x60.End, .int .u64 x60.Seq]) hst ag_28 rfl hra1 (Same.sh0 hsa1 hsh) hx60 rfl (fun _ h => h) rfl) ?_; intro a hst
          refine q_t hst trivial rfl (fun _ hsh => x_eqSn (b := Tomb.eqb x59 x60) (x0 := x59) (y0 := x60) hst eqof_28 rfl rfl rfl) ?_; intro a hst
          refine q_nil ?_
          intro w61 hsh
          refine then_normal ?_
          by_cases c62 : (!Tomb.eqb x59 x60) = true
          · rw [if_pos c62] at H
            refine wp_condT hst rfl c62 ?_
            refine wp_seq ?_
            refine wp_region_lit ?_
            refine r_t hst trivial rfl (x_assign hst rfl) ?_; intro a hst
            refine wpList_nil ?_
            refine then_normal ?_
            refine wp_ret ?_
            refine block_ret ?_
            refine then_ret ?_
            refine then_ret ?_
            refine block_ret ?_
            refine then_ret ?_
            obtain rfl := Option.some.inj H
            exact ret1 hst rfl rfl ⟨rfl, hsh.pick []⟩
          · rw [if_neg c62] at H
            replace c62 := Bool.eq_false_iff.2 c62
            refine wp_condF hst rfl c62 ?_
            refine wp_skip ?_
            refine block_normal ?_
            refine then_normal ?_
            refine wp_region_lit ?_
            refine r_t hst trivial rfl (x_move hst rfl) ?_; intro a hst
            refine r_t hst trivial rfl (x_arI (r := w64 (i_12 + 1)) hst rfl rfl rfl) ?_; intro a hst
            refine r_t hst trivial rfl (x_assign hst rfl) ?_; intro a hst
            refine wpList_nil ?_
            refine then_normal ?_
            exact ⟨k_16, Nat.lt_succ_self _, (w64 (i_12 + 1)), H, hst.keep _ ⟨rfl, rfl, rfl, rfl, trivial⟩, hsh.pick []⟩
        · rw [if_neg c54] at H
          replace c54 := Bool.eq_false_iff.2 c54
          refine wp_condF hst rfl c54 ?_
          refine wp_exit ?_
          refine then_exit ?_
          refine then_exit ?_
          refine block_hit ?_
          refine then_normal ?_
          refine wp_seq ?_
          refine wp_region_lit ?_
          refine r_t hst trivial rfl (x_assign hst rfl) ?_; intro a hst
          refine wpList_nil ?_
          refine then_normal ?_
          refine wp_ret ?_
          obtain rfl := Option.some.inj H
          exact ret1 hst rfl rfl ⟨rfl, hsh.pick []⟩

set_option maxHeartbeats 4000000 in
set_option maxRecDepth 100000 in
theorem l09_kept.calls (k : Nat) (w : World) (va0 : Value) (Za0 : Nat → Prop) (wra0 : World) (hsa0 : Same Za0 wra0 w) (a0 sa0 : (List Tomb)) (hra0 : WRD k_Tomb Za0 wra0 va0 a0 sa0) (va1 : Value) (Za1 : Nat → Prop) (wra1 : World) (hsa1 : Same Za1 wra1 w) (a1 : (List Tomb)) (hra1 : RD k_Tomb Za1 wra1 va1 a1) (ZG0 : Nat → Prop) (wrG0 : World) (tyG0 : Nat) (hsG0 : Same ZG0 wrG0 w) (hzG0 : ZG0 0) (hbG0 : wrG0.heap[0]? = some (.cells ([.string (ByteArray.mk #[109, 97, 114, 107]), .string (ByteArray.mk #[110, 97, 114, 107]), .int .u64 77] : List Value).toArray tyG0 (0, 0))) (r : Bool) (h : l09_kept k a0 sa0 a1 = some r) :
    Calls Tryd.prog 11 ([va0, va1] : List Value).toArray w fun e w' => e = .returned (.bool r) ∧ SH (fun _ => False) w w' [] := by
  have H := h
  clear h
  unfold l09_kept at H
  refine calls_enter Tryd.func11 rfl rfl ?_
  intro a hst
  have hsh := SH.zero (fun _ => False) w
  refine wp_seq ?_
  refine wp_region_lit ?_
  refine r_t hst trivial rfl (x_assign hst rfl) ?_; intro a hst
  refine wpList_nil ?_
  refine then_normal ?_
  refine wp_seq ?_
  refine wp_region_q (fun w' => SH (fun _ => False) w w' []) hsh.drew fo (by kernel_rfl) ?_
  refine q_t hst trivial rfl (fun _ hsh => x_move hst rfl) ?_; intro a hst
  refine q_t hst trivial rfl (fun _ hsh => x_move hst rfl) ?_; intro a hst
  obtain ⟨r1, hr1, H⟩ := Option.bind_eq_some_iff.1 H
  refine q_call hst trivial rfl fn_10 rfl (fun w9 hsh => q_calls hsh (l09_same.calls k _ _ _ _ (Same.sh0 hsa0 hsh) _ (hra0.rd (by decide)) _ _ _ (Same.sh0 hsa1 hsh) _ hra1 r1 hr1)) ?_; intro a hst
  refine q_t hst trivial rfl (fun _ hsh => x_move hst rfl) ?_; intro a hst
  obtain ⟨J_2, hJ_2, H⟩ := Jn.elim H
  refine q_join 16 (fun a => ∃ (b_1 : Bool), J_2 b_1 = some r ∧ ST Tryd.f11.ntmps a [(4, .bool false), (20, .bool b_1)]) ?_ ?_
  · rintro a ⟨b_1, H, hst⟩
    subst hJ_2
    dsimp only at H
    refine q_t hst trivial rfl (fun _ hsh => x_assign hst rfl) ?_; intro a hst
    refine q_nil ?_
    intro w6 hsh
    refine then_normal ?_
    refine wp_ret ?_
    obtain rfl := Option.some.inj H
    exact ret1 hst rfl rfl ⟨rfl, hsh.pick []⟩
  · intro hj
    by_cases c3 : r1 = true
    · rw [if_pos c3] at H
      refine q_t hst (wt_of 8 rfl rfl c3) rfl (fun _ hsh => x_move hst rfl) ?_; intro a hst
      refine q_t hst (wt_of 8 rfl rfl c3) rfl (fun _ hsh => x_move hst rfl) ?_; intro a hst
      refine q_t hst (wt_of 8 rfl rfl c3) rfl (fun _ hsh => x_lenSl hst Tryd.underlying22 rfl hra1.slen) ?_; intro a hst
      refine q_t hst (wt_of 8 rfl rfl c3) rfl (fun _ hsh => x_arI (r := w64 ((a1.length : Int) + 1)) hst rfl rfl rfl) ?_; intro a hst
      obtain ⟨l7, hl7, H⟩ := Option.bind_eq_some_iff.1 H
      refine q_t hst (wt_of 8 rfl rfl c3) rfl (fun _ hsh => x_cutHW hst Tryd.underlying22 el_28 rfl rfl hra0 hl7) ?_; intro a hst
      refine q_t hst (wt_of 8 rfl rfl c3) rfl (fun _ hsh => x_move hst rfl) ?_; intro a hst
      refine q_t hst (wt_of 8 rfl rfl c3) rfl (fun _ hsh => x_lenSl hst Tryd.underlying22 rfl hra1.slen) ?_; intro a hst
      obtain ⟨x8, hx8, H⟩ := Option.bind_eq_some_iff.1 H
      refine q_t hst (wt_of 8 rfl rfl c3) rfl (fun _ hsh => x_indexAddr hst Tryd.underlying22 el_28 rfl rfl (hra0.cut (by decide) hl7) hx8) ?_; intro a hst
      refine q_t hst (wt_of 8 rfl rfl c3) rfl (fun _ hsh => x_loadEsF (j := 0) (cs := [.string x8.Begin, .string x8.End, .int .u64 x8.Seq]) (ps := [.string x8.Begin, .string x8.End, .int .u64 x8.Seq]) hst ag_28 rfl (hra0.cut (by decide) hl7) (Same.sh0 hsa0 hsh) hx8 rfl (fun _ h => h) rfl) ?_; intro a hst
      refine q_t hst (wt_of 8 rfl rfl c3) rfl (fun _ hsh => x_loadCaps (cs := [.string (ByteArray.mk #[109, 97, 114, 107]), .string (ByteArray.mk #[110, 97, 114, 107]), .int .u64 77]) (ps := [.string (ByteArray.mk #[109, 97, 114, 107]), .string (ByteArray.mk #[110, 97, 114, 107]), .int .u64 77]) hst hbG0 (Same.sh0 hsG0 hsh) hzG0 ag_28 rfl rfl) ?_; intro a hst
      refine q_t hst (wt_of 8 rfl rfl c3) rfl (fun _ hsh => x_eqS (b := Tomb.eqb x8 (⟨(ByteArray.mk #[109, 97, 114, 107]), (ByteArray.mk #[110, 97, 114, 107]), 77⟩ : Tomb)) (x0 := x8) (y0 := (⟨(ByteArray.mk #[109, 97, 114, 107]), (ByteArray.mk #[110, 97, 114, 107]), 77⟩ : Tomb)) hst eqof_28 rfl rfl rfl) ?_; intro a hst
      refine q_t hst trivial rfl (fun _ hsh => x_pickT hst rfl c3 rfl) ?_; intro a hst
      exact hj _ ⟨(Tomb.eqb x8 (⟨(ByteArray.mk #[109, 97, 114, 107]), (ByteArray.mk #[110, 97, 114, 107]), 77⟩ : Tomb)), H, hst.keep _ ⟨rfl, rfl, trivial⟩⟩
    · rw [if_neg c3] at H
      replace c3 := Bool.eq_false_iff.2 c3
      refine q_not hst 8 rfl rfl c3 rfl ?_; intro a hst
      refine q_not hst 8 rfl rfl c3 rfl ?_; intro a hst
      refine q_not hst 8 rfl rfl c3 rfl ?_; intro a hst
      refine q_not hst 8 rfl rfl c3 rfl ?_; intro a hst
      refine q_not hst 8 rfl rfl c3 rfl ?_; intro a hst
      refine q_not hst 8 rfl rfl c3 rfl ?_; intro a hst
      refine q_not hst 8 rfl rfl c3 rfl ?_; intro a hst
      refine q_not hst 8 rfl rfl c3 rfl ?_; intro a hst
      refine q_not hst 8 rfl rfl c3 rfl ?_; intro a hst
      refine q_not hst 8 rfl rfl c3 rfl ?_; intro a hst
      refine q_not hst 8 rfl rfl c3 rfl ?_; intro a hst
      refine q_t hst trivial rfl (fun _ hsh => x_pickF hst rfl c3 rfl) ?_; intro a hst
      exact hj _ ⟨false, H, hst.keep _ ⟨rfl, rfl, trivial⟩⟩

set_option maxHeartbeats 4000000 in
set_option maxRecDepth 100000 in
theorem l09_names.calls (w : World)  (r : Bool) (h : l09_names = some r) :
    Calls Tryd.prog 12 ([] : List Value).toArray w fun e w' => e = .returned (.bool r) ∧ SH (fun _ => False) w w' [] := by
  have H := h
  clear h
  unfold l09_names at H
  refine calls_enter Tryd.func12 rfl rfl ?_
  intro a hst
  have hsh := SH.zero (fun _ => False) w
  refine wp_seq ?_
  refine wp_region_lit ?_
  refine r_t hst trivial rfl (x_assign hst rfl) ?_; intro a hst
  refine wpList_nil ?_
  refine then_normal ?_
  refine wp_seq ?_
  refine wp_region_lit ?_
  refine r_t hst trivial rfl (x_assign hst rfl) ?_; intro a hst
  refine wpList_nil ?_
  refine then_normal ?_
  refine wp_ret ?_
  obtain rfl := Option.some.inj H
  exact ret1 hst rfl rfl ⟨rfl, hsh.pick []⟩

set_option maxHeartbeats 4000000 in
set_option maxRecDepth 100000 in
theorem l09_TombCuts.calls (k : Nat) (w : World) (va0 : Value) (Za0 : Nat → Prop) (wra0 : World) (hsa0 : Same Za0 wra0 w) (a0 : (List Tomb)) (hra0 : RD k_Tomb Za0 wra0 va0 a0) (a1 : ByteArray) (a2 : ByteArray) (ZG0 : Nat → Prop) (wrG0 : World) (tyG0 : Nat) (hsG0 : Same ZG0 wrG0 w) (hzG0 : ZG0 0) (hbG0 : wrG0.heap[0]? = some (.cells ([.string (ByteArray.mk #[109, 97, 114, 107]), .string (ByteArray.mk #[110, 97, 114, 107]), .int .u64 77] : List Value).toArray tyG0 (0, 0))) (r : Bool) (h : l09_TombCuts k a0 a1 a2 = some r) :
    Calls Tryd.prog 3 ([va0, .string a1, .string a2] : List Value).toArray w fun e w' => e = .returned (.bool r) ∧ SH (fun _ => False) w w' [] := by
  have H := h
  clear h
  unfold l09_TombCuts at H
  refine calls_enter Tryd.func3 rfl rfl ?_
  intro a hst
  have hsh := SH.zero (fun _ => False) w
  refine wp_seq ?_
  refine wp_region_lit ?_
  refine r_t hst trivial rfl (x_assign hst rfl) ?_; intro a hst
  refine wpList_nil ?_
  refine then_normal ?_
  refine wp_seq ?_
  refine wp_region_lit ?_
  refine r_t hst trivial rfl (x_move hst rfl) ?_; intro a hst
  obtain ⟨r1, hr1, H⟩ := Option.bind_eq_some_iff.1 H
  refine r_callD hst trivial rfl fn_7 rfl (l09_lent.calls _ _ _ _ (Same.sh0 hsa0 hsh) _ hra0 _ _ _ (Same.sh0 hsG0 hsh) hzG0 hbG0 r1 hr1) ?_
  rintro e w2 ⟨v3, rfl, hc⟩
  replace hsh := hsh.call0 hc
  clear hc
  refine ⟨_, rfl, fun a hst => ?_⟩
  refine r_t hst trivial rfl (x_assign hst rfl) ?_; intro a hst
  refine wpList_nil ?_
  refine then_normal ?_
  refine wp_seq ?_
  refine wp_region_lit ?_
  refine r_t hst trivial rfl (x_move hst rfl) ?_; intro a hst
  refine r_t hst trivial rfl (x_move hst rfl) ?_; intro a hst
  refine r_t hst trivial rfl (x_move hst rfl) ?_; intro a hst
  obtain ⟨r5, hr5, H⟩ := Option.bind_eq_some_iff.1 H
  refine r_callD hst trivial rfl fn_8 rfl (tomb_Cut.calls k _ _ _ _ (Same.refl _ _) _ ((hsh.lent 0 rfl).rd (by decide)) a1 a2 r5 hr5) ?_
  rintro e w6 ⟨v7, rfl, hc⟩
  replace hsh := hsh.call0 hc
  clear hc
  refine ⟨_, rfl, fun a hst => ?_⟩
  refine r_t hst trivial rfl (x_move hst rfl) ?_; intro a hst
  refine r_t hst trivial rfl (x_move hst rfl) ?_; intro a hst
  refine r_t hst trivial rfl (x_move hst rfl) ?_; intro a hst
  obtain ⟨r9, hr9, H⟩ := Option.bind_eq_some_iff.1 H
  refine r_callD hst trivial rfl fn_8 rfl (tomb_Cut.calls k _ _ _ _ (Same.refl _ _) _ ((hsh.lent 1 rfl).rd (by decide)) a1 a2 r9 hr9) ?_
  rintro e w10 ⟨v11, rfl, hc⟩
  replace hsh := hsh.call0 hc
  clear hc
  refine ⟨_, rfl, fun a hst => ?_⟩
  refine r_t hst trivial rfl (x_assign hst rfl) ?_; intro a hst
  refine r_t hst trivial rfl (x_assign hst rfl) ?_; intro a hst
  refine wpList_nil ?_
  refine then_normal ?_
  refine wp_seq ?_
  refine wp_region_lit ?_
  refine r_t hst trivial rfl (x_move hst rfl) ?_; intro a hst
  refine r_t hst trivial rfl (x_move hst rfl) ?_; intro a hst
  refine r_t hst trivial rfl (x_move hst rfl) ?_; intro a hst
  obtain ⟨r13, hr13, H⟩ := Option.bind_eq_some_iff.1 H
  refine r_callD hst trivial rfl fn_9 rfl (r09_Cut.calls k _ _ _ _ (Same.sh0 hsa0 hsh) _ hra0 a1 a2 r13 hr13) ?_
  rintro e w14 ⟨v15, rfl, hc⟩
  replace hsh := hsh.call0 hc
  clear hc
  refine ⟨_, rfl, fun a hst => ?_⟩
  refine r_t hst trivial rfl (x_assign hst rfl) ?_; intro a hst
  refine wpList_nil ?_
  refine then_normal ?_
  refine wp_seq ?_
  refine wp_seq ?_
  refine wp_region_lit ?_
  refine r_t hst trivial rfl (x_move hst rfl) ?_; intro a hst
  refine r_t hst trivial rfl (x_move hst rfl) ?_; intro a hst
  obtain ⟨r20, hr20, H⟩ := Option.bind_eq_some_iff.1 H
  refine r_callD hst trivial rfl fn_10 rfl (l09_same.calls k _ _ _ _ (Same.refl _ _) _ (hsh.row 2 rfl) _ _ _ (Same.refl _ _) _ (hsh.row 0 rfl) r20 hr20) ?_
  rintro e w21 ⟨rfl, hc⟩
  replace hsh := hsh.call0 hc
  clear hc
  refine ⟨_, rfl, fun a hst => ?_⟩
  refine r_t hst trivial rfl (x_notB hst rfl) ?_; intro a hst
  refine wpList_nil ?_
  refine then_normal ?_
  by_cases c22 : (!r20) = true
  · rw [if_pos c22] at H
    refine wp_condT hst rfl c22 ?_
    refine wp_seq ?_
    refine wp_region_lit ?_
    refine r_t hst trivial rfl (x_assign hst rfl) ?_; intro a hst
    refine wpList_nil ?_
    refine then_normal ?_
    refine wp_ret ?_
    refine then_ret ?_
    obtain rfl := Option.some.inj H
    exact ret1 hst rfl rfl ⟨rfl, hsh.pick []⟩
  · rw [if_neg c22] at H
    replace c22 := Bool.eq_false_iff.2 c22
    refine wp_condF hst rfl c22 ?_
    refine wp_skip ?_
    refine then_normal ?_
    refine wp_seq ?_
    refine wp_seq ?_
    refine wp_region_lit ?_
    refine r_t hst trivial rfl (x_assign hst rfl) ?_; intro a hst
    refine wpList_nil ?_
    refine then_normal ?_
    refine wp_block ?_
    refine wp_loop_fuel (fun k_22 a w' => ∃ (l_16 : (List Tomb)), ∃ (i_17 : Int), l09_TombCuts.l0 a0 r1 r9 r13 k_22 l_16 i_17 = some r ∧ ST Tryd.f3.ntmps a [(0, va0), (6, .bool false), (7, v3), (8, v7), (9, v11), (10, v15), (11, .int .i64 i_17)] ∧ SH (fun _ => False) w w' [Lent k_Tomb 28 v3 r1.1 r1.2, Row k_Tomb 28 v7 l_16, Row k_Tomb 28 v11 r9, Row k_Tomb 28 v15 r13]) k ?_ ?_
    · exact ⟨r5, 0, H, hst.keep _ ⟨rfl, rfl, rfl, rfl, rfl, rfl, rfl, trivial⟩, hsh.pick [3, 2, 1, 0]⟩
    · rintro k_22 a W_18 ⟨l_16, i_17, H, hst, hsh⟩
      cases k_22 with
      | zero => rw [l09_TombCuts.l0] at H; cases H
      | succ k_22 =>
        rw [l09_TombCuts.l0] at H
        refine wp_seq ?_
        refine wp_seq ?_
        refine wp_region_lit ?_
        refine r_t hst trivial rfl (x_move hst rfl) ?_; intro a hst
        refine r_t hst trivial rfl (x_move hst rfl) ?_; intro a hst
        refine r_t hst trivial rfl (x_lenSl hst Tryd.underlying22 rfl (hsh.row 1 rfl).slen) ?_; intro a hst
        refine r_t hst trivial rfl (x_cmpI (b := decide (i_17 < (l_16.length : Int))) hst rfl rfl rfl) ?_; intro a hst
        refine wpList_nil ?_
        refine then_normal ?_
        by_cases c64 : (decide (i_17 < (l_16.length : Int))) = true
        · rw [if_pos c64] at H
          refine wp_condT hst rfl c64 ?_
          refine wp_skip ?_
          refine then_normal ?_
          refine wp_seq ?_
          refine wp_block ?_
          refine wp_region_lit ?_
          refine r_t hst trivial rfl (x_move hst rfl) ?_; intro a hst
          refine r_t hst trivial rfl (x_move hst rfl) ?_; intro a hst
          refine r_t hst trivial rfl (x_loadCaps (cs := [.string (ByteArray.mk #[109, 97, 114, 107]), .string (ByteArray.mk #[110, 97, 114, 107]), .int .u64 77]) (ps := [.string (ByteArray.mk #[109, 97, 114, 107]), .string (ByteArray.mk #[110, 97, 114, 107]), .int .u64 77]) hst hbG0 (Same.sh0 hsG0 hsh) hzG0 ag_28 rfl rfl) ?_; intro a hst
          obtain ⟨x68, hx68, H⟩ := Option.bind_eq_some_iff.1 H
          refine r_t hst trivial rfl (x_indexAddr hst Tryd.underlying22 el_28 rfl rfl (hsh.row 1 rfl) hx68) ?_; intro a hst
          obtain ⟨l69, hl69, H⟩ := Option.bind_eq_some_iff.1 H
          refine r_storeEs (i := 1) (off := 0) (new := (⟨(ByteArray.mk #[109, 97, 114, 107]), (ByteArray.mk #[110, 97, 114, 107]), 77⟩ : Tomb)) (vs := [.string (ByteArray.mk #[109, 97, 114, 107]), .string (ByteArray.mk #[110, 97, 114, 107]), .int .u64 77]) (cs' := [.string (ByteArray.mk #[109, 97, 114, 107]), .string (ByteArray.mk #[110, 97, 114, 107]), .int .u64 77]) hst hsh trivial ag_28 rfl rfl rfl hx68 rfl (Nat.le_of_ble_eq_true rfl) rfl (fun _ _ _ h => by rw [h]; rfl) (fun _ _ => rfl) ?_; intro a w70 hsh hst
          rw [← upd_some hl69] at hsh
          refine wpList_nil ?_
          refine block_normal ?_
          refine then_normal ?_
          refine wp_region_lit ?_
          refine r_t hst trivial rfl (x_move hst rfl) ?_; intro a hst
          refine r_t hst trivial rfl (x_arI (r := w64 (i_17 + 1)) hst rfl rfl rfl) ?_; intro a hst
          refine r_t hst trivial rfl (x_assign hst rfl) ?_; intro a hst
          refine wpList_nil ?_
          refine then_normal ?_
          exact ⟨k_22, Nat.lt_succ_self _, l69, (w64 (i_17 + 1)), H, hst.keep _ ⟨rfl, rfl, rfl, rfl, rfl, rfl, rfl, trivial⟩, hsh.pick [1, 0, 0, 0]⟩
        · rw [if_neg c64] at H
          replace c64 := Bool.eq_false_iff.2 c64
          refine wp_condF hst rfl c64 ?_
          refine wp_exit ?_
          refine then_exit ?_
          refine then_exit ?_
          refine block_hit ?_
          refine then_normal ?_
          refine wp_seq ?_
          refine wp_region_lit ?_
          refine r_t hst trivial rfl (x_move hst rfl) ?_; intro a hst
          refine r_t hst trivial rfl (x_move hst rfl) ?_; intro a hst
          obtain ⟨r71, hr71, H⟩ := Option.bind_eq_some_iff.1 H
          refine r_callD hst trivial rfl fn_10 rfl (l09_same.calls k_22 _ _ _ _ (Same.refl _ _) _ (hsh.row 2 rfl) _ _ _ (Same.refl _ _) _ (hsh.row 3 rfl) r71 hr71) ?_
          rintro e w72 ⟨rfl, hc⟩
          replace hsh := hsh.call0 hc
          clear hc
          refine ⟨_, rfl, fun a hst => ?_⟩
          refine r_t hst trivial rfl (x_move hst rfl) ?_; intro a hst
          obtain ⟨J_24, hJ_24, H⟩ := Jn.elim H
          refine wl_join 8 (fun a w' => ∃ (b_23 : Bool), J_24 b_23 = some r ∧ ST Tryd.f3.ntmps a [(6, .bool false), (47, .bool b_23)] ∧ SH (fun _ => False) w w' []) ?_ ?_
          · rintro a W_25 ⟨b_23, H, hst, hsh⟩
            subst hJ_24
            dsimp only at H
            refine r_t hst trivial rfl (x_move hst rfl) ?_; intro a hst
            obtain ⟨J_27, hJ_27, H⟩ := Jn.elim H
            refine wl_join 11 (fun a w' => ∃ (b_26 : Bool), J_27 b_26 = some r ∧ ST Tryd.f3.ntmps a [(6, .bool false), (50, .bool b_26)] ∧ SH (fun _ => False) w w' []) ?_ ?_
            · rintro a W_28 ⟨b_26, H, hst, hsh⟩
              subst hJ_27
              dsimp only at H
              refine r_t hst trivial rfl (x_assign hst rfl) ?_; intro a hst
              refine wpList_nil ?_
              refine then_normal ?_
              refine wp_ret ?_
              obtain rfl := Option.some.inj H
              exact ret1 hst rfl rfl ⟨rfl, hsh.pick []⟩
            · intro hj
              by_cases c76 : b_23 = true
              · rw [if_pos c76] at H
                obtain ⟨r79, hr79, H⟩ := Option.bind_eq_some_iff.1 H
                refine r_callD hst (wt_of 48 rfl rfl c76) rfl fn_12 rfl (l09_names.calls _ r79 hr79) ?_
                rintro e w80 ⟨rfl, hc⟩
                replace hsh := hsh.call0 hc
                clear hc
                refine ⟨_, rfl, fun a hst => ?_⟩
                refine r_t hst trivial rfl (x_pickT hst rfl c76 rfl) ?_; intro a hst
                exact hj _ _ ⟨r79, H, hst.keep _ ⟨rfl, rfl, trivial⟩, hsh.pick []⟩
              · rw [if_neg c76] at H
                replace c76 := Bool.eq_false_iff.2 c76
                refine r_not hst 48 rfl rfl c76 rfl ?_; intro a hst
                refine r_t hst trivial rfl (x_pickF hst rfl c76 rfl) ?_; intro a hst
                exact hj _ _ ⟨false, H, hst.keep _ ⟨rfl, rfl, trivial⟩, hsh.pick []⟩
          · intro hj
            by_cases c73 : r71 = true
            · rw [if_pos c73] at H
              refine r_t hst (wt_of 43 rfl rfl c73) rfl (x_move hst rfl) ?_; intro a hst
              refine r_t hst (wt_of 43 rfl rfl c73) rfl (x_move hst rfl) ?_; intro a hst
              obtain ⟨r81, hr81, H⟩ := Option.bind_eq_some_iff.1 H
              refine r_callD hst (wt_of 43 rfl rfl c73) rfl fn_11 rfl (l09_kept.calls k_22 _ _ _ _ (Same.refl _ _) _ _ (hsh.lent 0 rfl) _ _ _ (Same.sh0 hsa0 hsh) _ hra0 _ _ _ (Same.sh0 hsG0 hsh) hzG0 hbG0 r81 hr81) ?_
              rintro e w82 ⟨rfl, hc⟩
              replace hsh := hsh.call0 hc
              clear hc
              refine ⟨_, rfl, fun a hst => ?_⟩
              refine r_t hst trivial rfl (x_pickT hst rfl c73 rfl) ?_; intro a hst
              exact hj _ _ ⟨r81, H, hst.keep _ ⟨rfl, rfl, trivial⟩, hsh.pick []⟩
            · rw [if_neg c73] at H
              replace c73 := Bool.eq_false_iff.2 c73
              refine r_not hst 43 rfl rfl c73 rfl ?_; intro a hst
              refine r_not hst 43 rfl rfl c73 rfl ?_; intro a hst
              refine r_not hst 43 rfl rfl c73 rfl ?_; intro a hst
              refine r_t hst trivial rfl (x_pickF hst rfl c73 rfl) ?_; intro a hst
              exact hj _ _ ⟨false, H, hst.keep _ ⟨rfl, rfl, trivial⟩, hsh.pick []⟩

set_option maxHeartbeats 4000000 in
set_option maxRecDepth 100000 in
theorem tomb_Cover.calls (k : Nat) (w : World) (va0 : Value) (Za0 : Nat → Prop) (wra0 : World) (hsa0 : Same Za0 wra0 w) (a0 : (List Tomb)) (hra0 : RD k_Tomb Za0 wra0 va0 a0) (a1 : ByteArray) (a2 : Int) (r : (Int × Bool)) (h : tomb_Cover k a0 a1 a2 = some r) :
    Calls Tryd.prog 13 ([va0, .string a1, .int .u64 a2] : List Value).toArray w fun e w' => e = .returned (.tuple #[.int .u64 r.1, .bool r.2]) ∧ SH (fun _ => False) w w' [] := by
  have H := h
  clear h
  unfold tomb_Cover at H
  refine calls_enter Tryd.func13 rfl rfl ?_
  intro a hst
  have hsh := SH.zero (fun _ => False) w
  refine wp_seq ?_
  refine wp_region_lit ?_
  refine r_t hst trivial rfl (x_assign hst rfl) ?_; intro a hst
  refine r_t hst trivial rfl (x_assign hst rfl) ?_; intro a hst
  refine wpList_nil ?_
  refine then_normal ?_
  refine wp_seq ?_
  refine wp_region_lit ?_
  refine r_t hst trivial rfl (x_assign hst rfl) ?_; intro a hst
  refine r_t hst trivial rfl (x_assign hst rfl) ?_; intro a hst
  refine wpList_nil ?_
  refine then_normal ?_
  refine wp_seq ?_
  refine wp_seq ?_
  refine wp_region_lit ?_
  refine r_t hst trivial rfl (x_move hst rfl) ?_; intro a hst
  refine r_t hst trivial rfl (x_lenSl hst Tryd.underlying22 rfl hra0.slen) ?_; intro a hst
  refine r_t hst trivial rfl (x_move hst rfl) ?_; intro a hst
  refine wpList_nil ?_
  refine then_normal ?_
  refine wp_block ?_
  refine wp_loop_fuel (fun k_48 a w' => ∃ (i_36 : Int), ∃ (b_37 : Bool), ∃ (i_38 : Int), tomb_Cover.l0 a0 a1 a2 k_48 i_36 b_37 i_38 = some r ∧ ST Tryd.f13.ntmps a [(1, .string a1), (2, .int .u64 a2), (6, .int .u64 0), (7, .bool false), (8, .int .u64 i_36), (9, .bool b_37), (12, va0), (13, .int .i64 (a0.length : Int)), (14, .int .i64 i_38)] ∧ SH (fun _ => False) w w' []) k ?_ ?_
  · exact ⟨0, false, 0, H, hst.keep _ ⟨rfl, rfl, rfl, rfl, rfl, rfl, rfl, rfl, rfl, trivial⟩, hsh.pick []⟩
  · rintro k_48 a W_39 ⟨i_36, b_37, i_38, H, hst, hsh⟩
    cases k_48 with
    | zero => rw [tomb_Cover.l0] at H; cases H
    | succ k_48 =>
      rw [tomb_Cover.l0] at H
      refine wp_seq ?_
      refine wp_region_lit ?_
      refine r_t hst trivial rfl (x_cmpI (b := decide (i_38 < (a0.length : Int))) hst rfl rfl rfl) ?_; intro a hst
      refine wpList_nil ?_
      refine then_normal ?_
      refine wp_seq ?_
      by_cases c112 : (decide (i_38 < (a0.length : Int))) = true
      · rw [if_pos c112] at H
        refine wp_condT hst rfl c112 ?_
        refine wp_skip ?_
        refine then_normal ?_
        obtain ⟨J_52, hJ_52, H⟩ := Jn.elim H
        refine wp_cut (fun a w' => ∃ (i_49 : Int), ∃ (b_50 : Bool), J_52 i_49 b_50 = some r ∧ ST Tryd.f13.ntmps a [(1, .string a1), (2, .int .u64 a2), (6, .int .u64 0), (7, .bool false), (8, .int .u64 i_49), (9, .bool b_50), (12, va0), (13, .int .i64 (a0.length : Int)), (14, .int .i64 i_38)] ∧ SH (fun _ => False) w w' []) ?_ ?_
        · rintro a W_51 ⟨i_49, b_50, H, hst, hsh⟩
          subst hJ_52
          dsimp only at H
          refine wp_region_lit ?_
          refine r_t hst trivial rfl (x_arI (r := w64 (i_38 + 1)) hst rfl rfl rfl) ?_; intro a hst
          refine r_t hst trivial rfl (x_move hst rfl) ?_; intro a hst
          refine wpList_nil ?_
          refine then_normal ?_
          exact ⟨k_48, Nat.lt_succ_self _, i_49, b_50, (w64 (i_38 + 1)), H, hst.keep _ ⟨rfl, rfl, rfl, rfl, rfl, rfl, rfl, rfl, rfl, trivial⟩, hsh.pick []⟩
        · refine wp_block ?_
          refine wp_seq ?_
          refine wp_region_lit ?_
          obtain ⟨x123, hx123, H⟩ := Option.bind_eq_some_iff.1 H
          refine r_t hst trivial rfl (x_indexAddr hst Tryd.underlying22 el_28 rfl rfl hra0 hx123) ?_; intro a hst
          refine r_t hst trivial rfl (x_loadEsF (j := 0) (cs := [.string x123.Begin, .string x123.End, .int .u64 x123.Seq]) (ps := [.string x123.Begin, .string x123.End, .int .u64 x123.Seq]) hst ag_28 rfl hra0 (Same.sh0 hsa0 hsh) hx123 rfl (fun _ h => h) rfl) ?_; intro a hst
          refine r_alloc hst hsh trivial rfl zr_28 ?_
          intro g124 a w125 hgg124 hsh hst
          refine r_storeBs (i := 0) (cs' := [.string x123.Begin, .string x123.End, .int .u64 x123.Seq]) (vs := [.string x123.Begin, .string x123.End, .int .u64 x123.Seq]) hst hsh trivial ag_28 rfl rfl rfl rfl rfl rfl ?_; intro a w126 hsh hst
          refine wpList_nil ?_
          refine then_normal ?_
          refine wp_seq ?_
          refine wp_region_lit ?_
          refine r_t hst trivial rfl (x_loadBs (i := 0) (ps := [.string x123.Begin, .string x123.End, .int .u64 x123.Seq]) hst hsh ag_28 rfl rfl rfl) ?_; intro a hst
          obtain ⟨r127, hr127, H⟩ := Option.bind_eq_some_iff.1 H
          refine r_callD hst trivial rfl fn_17 rfl (tomb_Valid.calls _ x123 r127 hr127) ?_
          rintro e w128 ⟨rfl, hc⟩
          replace hsh := hsh.call0 hc
          clear hc
          refine ⟨_, rfl, fun a hst => ?_⟩
          refine r_t hst trivial rfl (x_move hst rfl) ?_; intro a hst
          refine wl_join0 (N := Tryd.f13.ntmps) 8 [(1, .string a1), (2, .int .u64 a2), (6, .int .u64 0), (7, .bool false), (8, .int .u64 i_36), (9, .bool b_37), (11, .pointer (some ⟨g124, 0, none⟩)), (12, va0), (13, .int .i64 (a0.length : Int)), (14, .int .i64 i_38), (25, .bool (r127 && (decide (x123.Seq ≤ a2))))] ?_ ?_
          · intro a hst
            refine r_t hst trivial rfl (x_move hst rfl) ?_; intro a hst
            refine wl_join0 (N := Tryd.f13.ntmps) 14 [(1, .string a1), (2, .int .u64 a2), (6, .int .u64 0), (7, .bool false), (8, .int .u64 i_36), (9, .bool b_37), (11, .pointer (some ⟨g124, 0, none⟩)), (12, va0), (13, .int .i64 (a0.length : Int)), (14, .int .i64 i_38), (31, .bool ((r127 && (decide (x123.Seq ≤ a2))) && (sLt x123.Begin a1 || sEq x123.Begin a1)))] ?_ ?_
            · intro a hst
              refine r_t hst trivial rfl (x_move hst rfl) ?_; intro a hst
              refine wl_join0 (N := Tryd.f13.ntmps) 20 [(1, .string a1), (2, .int .u64 a2), (6, .int .u64 0), (7, .bool false), (8, .int .u64 i_36), (9, .bool b_37), (11, .pointer (some ⟨g124, 0, none⟩)), (12, va0), (13, .int .i64 (a0.length : Int)), (14, .int .i64 i_38), (37, .bool (((r127 && (decide (x123.Seq ≤ a2))) && (sLt x123.Begin a1 || sEq x123.Begin a1)) && (sLt a1 x123.End)))] ?_ ?_
              · intro a hst
                refine wpList_nil ?_
                refine then_normal ?_
                by_cases c132 : (((r127 && (decide (x123.Seq ≤ a2))) && (sLt x123.Begin a1 || sEq x123.Begin a1)) && (sLt a1 x123.End)) = true
                · rw [if_pos c132] at H
                  refine wp_condT hst rfl c132 ?_
                  refine wp_region_lit ?_
                  refine r_t hst trivial rfl (x_move hst rfl) ?_; intro a hst
                  refine r_t hst trivial rfl (x_fieldAddr (j' := 2) hst fa_28_2 rfl rfl) ?_; intro a hst
                  refine r_t hst trivial rfl (x_loadB (i := 0) hst hsh sc_26 rfl rfl rfl) ?_; intro a hst
                  refine r_t hst trivial rfl (x_maxI hst rfl rfl) ?_; intro a hst
                  refine r_t hst trivial rfl (x_assign hst rfl) ?_; intro a hst
                  refine r_t hst trivial rfl (x_assign hst rfl) ?_; intro a hst
                  refine wpList_nil ?_
                  refine block_normal ?_
                  refine then_normal ?_
                  exact ⟨(maxI i_36 x123.Seq), true, H, hst.keep _ ⟨rfl, rfl, rfl, rfl, rfl, rfl, rfl, rfl, rfl, trivial⟩, hsh.pick []⟩
                · rw [if_neg c132] at H
                  replace c132 := Bool.eq_false_iff.2 c132
                  refine wp_condF hst rfl c132 ?_
                  refine wp_skip ?_
                  refine block_normal ?_
                  refine then_normal ?_
                  exact ⟨i_36, b_37, H, hst.keep _ ⟨rfl, rfl, rfl, rfl, rfl, rfl, rfl, rfl, rfl, trivial⟩, hsh.pick []⟩
              · intro hj
                by_cases c131 : ((r127 && (decide (x123.Seq ≤ a2))) && (sLt x123.Begin a1 || sEq x123.Begin a1)) = true
                · refine r_t hst (wt_of 32 rfl rfl c131) rfl (x_move hst rfl) ?_; intro a hst
                  refine r_t hst (wt_of 32 rfl rfl c131) rfl (x_fieldAddr (j' := 1) hst fa_28_1 rfl rfl) ?_; intro a hst
                  refine r_t hst (wt_of 32 rfl rfl c131) rfl (x_loadB (i := 0) hst hsh sc_9 rfl rfl rfl) ?_; intro a hst
                  refine r_t hst (wt_of 32 rfl rfl c131) rfl (x_cmpS (b := sLt a1 x123.End) hst rfl rfl rfl) ?_; intro a hst
                  refine r_t hst trivial rfl (x_andT hst rfl c131 rfl) ?_; intro a hst
                  exact hj _ (hst.keep _ ⟨rfl, rfl, rfl, rfl, rfl, rfl, rfl, rfl, rfl, rfl, rfl, trivial⟩)
                · replace c131 := Bool.eq_false_iff.2 c131
                  refine r_not hst 32 rfl rfl c131 rfl ?_; intro a hst
                  refine r_not hst 32 rfl rfl c131 rfl ?_; intro a hst
                  refine r_not hst 32 rfl rfl c131 rfl ?_; intro a hst
                  refine r_not hst 32 rfl rfl c131 rfl ?_; intro a hst
                  refine r_t hst trivial rfl (x_andF (sLt a1 x123.End) hst rfl c131 rfl) ?_; intro a hst
                  exact hj _ (hst.keep _ ⟨rfl, rfl, rfl, rfl, rfl, rfl, rfl, rfl, rfl, rfl, rfl, trivial⟩)
            · intro hj
              by_cases c130 : (r127 && (decide (x123.Seq ≤ a2))) = true
              · refine r_t hst (wt_of 26 rfl rfl c130) rfl (x_fieldAddr (j' := 0) hst fa_28_0 rfl rfl) ?_; intro a hst
                refine r_t hst (wt_of 26 rfl rfl c130) rfl (x_loadB (i := 0) hst hsh sc_9 rfl rfl rfl) ?_; intro a hst
                refine r_t hst (wt_of 26 rfl rfl c130) rfl (x_move hst rfl) ?_; intro a hst
                refine r_t hst (wt_of 26 rfl rfl c130) rfl (x_cmpS (b := (sLt x123.Begin a1 || sEq x123.Begin a1)) hst rfl rfl rfl) ?_; intro a hst
                refine r_t hst trivial rfl (x_andT hst rfl c130 rfl) ?_; intro a hst
                exact hj _ (hst.keep _ ⟨rfl, rfl, rfl, rfl, rfl, rfl, rfl, rfl, rfl, rfl, rfl, trivial⟩)
              · replace c130 := Bool.eq_false_iff.2 c130
                refine r_not hst 26 rfl rfl c130 rfl ?_; intro a hst
                refine r_not hst 26 rfl rfl c130 rfl ?_; intro a hst
                refine r_not hst 26 rfl rfl c130 rfl ?_; intro a hst
                refine r_not hst 26 rfl rfl c130 rfl ?_; intro a hst
                refine r_t hst trivial rfl (x_andF (sLt x123.Begin a1 || sEq x123.Begin a1) hst rfl c130 rfl) ?_; intro a hst
                exact hj _ (hst.keep _ ⟨rfl, rfl, rfl, rfl, rfl, rfl, rfl, rfl, rfl, rfl, rfl, trivial⟩)
          · intro hj
            by_cases c129 : r127 = true
            · refine r_t hst (wt_of 20 rfl rfl c129) rfl (x_fieldAddr (j' := 2) hst fa_28_2 rfl rfl) ?_; intro a hst
              refine r_t hst (wt_of 20 rfl rfl c129) rfl (x_loadB (i := 0) hst hsh sc_26 rfl rfl rfl) ?_; intro a hst
              refine r_t hst (wt_of 20 rfl rfl c129) rfl (x_move hst rfl) ?_; intro a hst
              refine r_t hst (wt_of 20 rfl rfl c129) rfl (x_cmpI (b := decide (x123.Seq ≤ a2)) hst rfl rfl rfl) ?_; intro a hst
              refine r_t hst trivial rfl (x_andT hst rfl c129 rfl) ?_; intro a hst
              exact hj _ (hst.keep _ ⟨rfl, rfl, rfl, rfl, rfl, rfl, rfl, rfl, rfl, rfl, rfl, trivial⟩)
            · replace c129 := Bool.eq_false_iff.2 c129
              refine r_not hst 20 rfl rfl c129 rfl ?_; intro a hst
              refine r_not hst 20 rfl rfl c129 rfl ?_; intro a hst
              refine r_not hst 20 rfl rfl c129 rfl ?_; intro a hst
              refine r_not hst 20 rfl rfl c129 rfl ?_; intro a hst
              refine r_t hst trivial rfl (x_andF (decide (x123.Seq ≤ a2)) hst rfl c129 rfl) ?_; intro a hst
              exact hj _ (hst.keep _ ⟨rfl, rfl, rfl, rfl, rfl, rfl, rfl, rfl, rfl, rfl, rfl, trivial⟩)
      · rw [if_neg c112] at H
        replace c112 := Bool.eq_false_iff.2 c112
        refine wp_condF hst rfl c112 ?_
        refine wp_exit ?_
        refine then_exit ?_
        refine then_exit ?_
        refine block_hit ?_
        refine then_normal ?_
        refine wp_seq ?_
        refine wp_region_lit ?_
        refine r_t hst trivial rfl (x_move hst rfl) ?_; intro a hst
        refine r_t hst trivial rfl (x_move hst rfl) ?_; intro a hst
        refine r_t hst trivial rfl (x_assign hst rfl) ?_; intro a hst
        refine r_t hst trivial rfl (x_assign hst rfl) ?_; intro a hst
        refine wpList_nil ?_
        refine then_normal ?_
        refine wp_ret ?_
        obtain rfl := Option.some.inj H
        exact ret2 hst rfl rfl rfl ⟨rfl, hsh.pick []⟩

set_option maxHeartbeats 4000000 in
set_option maxRecDepth 100000 in
theorem r09_covers.calls (w : World) (a0 : Tomb) (a1 : ByteArray) (r : Bool) (h : r09_covers a0 a1 = some r) :
    Calls Tryd.prog 31 ([.agg #[.string a0.Begin, .string a0.End, .int .u64 a0.Seq], .string a1] : List Value).toArray w fun e w' => e = .returned (.bool r) ∧ SH (fun _ => False) w w' [] := by
  have H := h
  clear h
  unfold r09_covers at H
  refine calls_enter Tryd.func31 rfl rfl ?_
  intro a hst
  have hsh := SH.zero (fun _ => False) w
  refine wp_seq ?_
  refine wp_region_lit ?_
  refine r_box hst hsh trivial rfl rfl rfl ?_
  intro g1 a w2 hgg1 hsh hst
  refine r_t hst trivial rfl (x_assign hst rfl) ?_; intro a hst
  refine wpList_nil ?_
  refine then_normal ?_
  refine wp_seq ?_
  refine wp_region_lit ?_
  refine r_t hst trivial rfl (x_fieldAddr (j' := 0) hst fa_28_0 rfl rfl) ?_; intro a hst
  refine r_t hst trivial rfl (x_loadB (i := 0) hst hsh sc_9 rfl rfl rfl) ?_; intro a hst
  refine r_t hst trivial rfl (x_move hst rfl) ?_; intro a hst
  refine r_t hst trivial rfl (x_cmpS (b := (sLt a0.Begin a1 || sEq a0.Begin a1)) hst rfl rfl rfl) ?_; intro a hst
  refine r_t hst trivial rfl (x_move hst rfl) ?_; intro a hst
  refine wl_join0 (N := Tryd.f31.ntmps) 10 [(4, .bool false), (14, .bool ((sLt a0.Begin a1 || sEq a0.Begin a1) && (sLt a1 a0.End)))] ?_ ?_
  · intro a hst
    refine r_t hst trivial rfl (x_assign hst rfl) ?_; intro a hst
    refine wpList_nil ?_
    refine then_normal ?_
    refine wp_ret ?_
    obtain rfl := Option.some.inj H
    exact ret1 hst rfl rfl ⟨rfl, hsh.pick []⟩
  · intro hj
    by_cases c3 : (sLt a0.Begin a1 || sEq a0.Begin a1) = true
    · refine r_t hst (wt_of 9 rfl rfl c3) rfl (x_move hst rfl) ?_; intro a hst
      refine r_t hst (wt_of 9 rfl rfl c3) rfl (x_fieldAddr (j' := 1) hst fa_28_1 rfl rfl) ?_; intro a hst
      refine r_t hst (wt_of 9 rfl rfl c3) rfl (x_loadB (i := 0) hst hsh sc_9 rfl rfl rfl) ?_; intro a hst
      refine r_t hst (wt_of 9 rfl rfl c3) rfl (x_cmpS (b := sLt a1 a0.End) hst rfl rfl rfl) ?_; intro a hst
      refine r_t hst trivial rfl (x_andT hst rfl c3 rfl) ?_; intro a hst
      exact hj _ (hst.keep _ ⟨rfl, rfl, trivial⟩)
    · replace c3 := Bool.eq_false_iff.2 c3
      refine r_not hst 9 rfl rfl c3 rfl ?_; intro a hst
      refine r_not hst 9 rfl rfl c3 rfl ?_; intro a hst
      refine r_not hst 9 rfl rfl c3 rfl ?_; intro a hst
      refine r_not hst 9 rfl rfl c3 rfl ?_; intro a hst
      refine r_t hst trivial rfl (x_andF (sLt a1 a0.End) hst rfl c3 rfl) ?_; intro a hst
      exact hj _ (hst.keep _ ⟨rfl, rfl, trivial⟩)

set_option maxHeartbeats 4000000 in
set_option maxRecDepth 100000 in
theorem r09_Cover.calls (k : Nat) (w : World) (va0 : Value) (Za0 : Nat → Prop) (wra0 : World) (hsa0 : Same Za0 wra0 w) (a0 : (List Tomb)) (hra0 : RD k_Tomb Za0 wra0 va0 a0) (a1 : ByteArray) (a2 : Int) (r : (Int × Bool)) (h : r09_Cover k a0 a1 a2 = some r) :
    Calls Tryd.prog 14 ([va0, .string a1, .int .u64 a2] : List Value).toArray w fun e w' => e = .returned (.tuple #[.int .u64 r.1, .bool r.2]) ∧ SH (fun _ => False) w w' [] := by
  have H := h
  clear h
  unfold r09_Cover at H
  refine calls_enter Tryd.func14 rfl rfl ?_
  intro a hst
  have hsh := SH.zero (fun _ => False) w
  refine wp_seq ?_
  refine wp_region_lit ?_
  refine r_t hst trivial rfl (x_assign hst rfl) ?_; intro a hst
  refine r_t hst trivial rfl (x_assign hst rfl) ?_; intro a hst
  refine wpList_nil ?_
  refine then_normal ?_
  refine wp_seq ?_
  refine wp_region_lit ?_
  refine r_t hst trivial rfl (x_assign hst rfl) ?_; intro a hst
  refine wpList_nil ?_
  refine then_normal ?_
  refine wp_seq ?_
  refine wp_region_lit ?_
  refine r_t hst trivial rfl (x_assign hst rfl) ?_; intro a hst
  refine wpList_nil ?_
  refine then_normal ?_
  refine wp_seq ?_
  refine wp_seq ?_
  refine wp_region_lit ?_
  refine r_t hst trivial rfl (x_assign hst rfl) ?_; intro a hst
  refine wpList_nil ?_
  refine then_normal ?_
  refine wp_block ?_
  refine wp_loop_fuel (fun k_228 a w' => ∃ (i_180 : Int), ∃ (b_181 : Bool), ∃ (i_182 : Int), r09_Cover.l0 a0 a1 a2 k_228 i_180 b_181 i_182 = some r ∧ ST Tryd.f14.ntmps a [(0, va0), (1, .string a1), (2, .int .u64 a2), (6, .int .u64 0), (7, .bool false), (8, .int .u64 i_180), (9, .bool b_181), (10, .int .i64 i_182)] ∧ SH (fun _ => False) w w' []) k ?_ ?_
  · exact ⟨0, false, 0, H, hst.keep _ ⟨rfl, rfl, rfl, rfl, rfl, rfl, rfl, rfl, trivial⟩, hsh.pick []⟩
  · rintro k_228 a W_183 ⟨i_180, b_181, i_182, H, hst, hsh⟩
    cases k_228 with
    | zero => rw [r09_Cover.l0] at H; cases H
    | succ k_228 =>
      rw [r09_Cover.l0] at H
      refine wp_seq ?_
      refine wp_seq ?_
      refine wp_region_lit ?_
      refine r_t hst trivial rfl (x_move hst rfl) ?_; intro a hst
      refine r_t hst trivial rfl (x_move hst rfl) ?_; intro a hst
      refine r_t hst trivial rfl (x_lenSl hst Tryd.underlying22 rfl hra0.slen) ?_; intro a hst
      refine r_t hst trivial rfl (x_cmpI (b := decide (i_182 < (a0.length : Int))) hst rfl rfl rfl) ?_; intro a hst
      refine wpList_nil ?_
      refine then_normal ?_
      by_cases c232 : (decide (i_182 < (a0.length : Int))) = true
      · rw [if_pos c232] at H
        refine wp_condT hst rfl c232 ?_
        refine wp_skip ?_
        refine then_normal ?_
        obtain ⟨J_250, hJ_250, H⟩ := Jn.elim H
        refine wp_cut (fun a w' => ∃ (i_247 : Int), ∃ (b_248 : Bool), J_250 i_247 b_248 = some r ∧ ST Tryd.f14.ntmps a [(0, va0), (1, .string a1), (2, .int .u64 a2), (6, .int .u64 0), (7, .bool false), (8, .int .u64 i_247), (9, .bool b_248), (10, .int .i64 i_182)] ∧ SH (fun _ => False) w w' []) ?_ ?_
        · rintro a W_249 ⟨i_247, b_248, H, hst, hsh⟩
          subst hJ_250
          dsimp only at H
          refine wp_region_lit ?_
          refine r_t hst trivial rfl (x_move hst rfl) ?_; intro a hst
          refine r_t hst trivial rfl (x_arI (r := w64 (i_182 + 1)) hst rfl rfl rfl) ?_; intro a hst
          refine r_t hst trivial rfl (x_assign hst rfl) ?_; intro a hst
          refine wpList_nil ?_
          refine then_normal ?_
          exact ⟨k_228, Nat.lt_succ_self _, i_247, b_248, (w64 (i_182 + 1)), H, hst.keep _ ⟨rfl, rfl, rfl, rfl, rfl, rfl, rfl, rfl, trivial⟩, hsh.pick []⟩
        · refine wp_block ?_
          refine wp_seq ?_
          refine wp_region_lit ?_
          refine r_t hst trivial rfl (x_move hst rfl) ?_; intro a hst
          refine r_t hst trivial rfl (x_move hst rfl) ?_; intro a hst
          obtain ⟨x255, hx255, H⟩ := Option.bind_eq_some_iff.1 H
          refine r_t hst trivial rfl (x_indexAddr hst Tryd.underlying22 el_28 rfl rfl hra0 hx255) ?_; intro a hst
          refine r_t hst trivial rfl (x_loadEsF (j := 0) (cs := [.string x255.Begin, .string x255.End, .int .u64 x255.Seq]) (ps := [.string x255.Begin, .string x255.End, .int .u64 x255.Seq]) hst ag_28 rfl hra0 (Same.sh0 hsa0 hsh) hx255 rfl (fun _ h => h) rfl) ?_; intro a hst
          obtain ⟨r256, hr256, H⟩ := Option.bind_eq_some_iff.1 H
          refine r_callD hst trivial rfl fn_18 rfl (r09_Valid.calls _ x255 r256 hr256) ?_
          rintro e w257 ⟨rfl, hc⟩
          replace hsh := hsh.call0 hc
          clear hc
          refine ⟨_, rfl, fun a hst => ?_⟩
          refine r_t hst trivial rfl (x_move hst rfl) ?_; intro a hst
          obtain ⟨J_252, hJ_252, H⟩ := Jn.elim H
          refine wl_join 13 (fun a w' => ∃ (b_251 : Bool), J_252 b_251 = some r ∧ ST Tryd.f14.ntmps a [(0, va0), (1, .string a1), (2, .int .u64 a2), (6, .int .u64 0), (7, .bool false), (8, .int .u64 i_180), (9, .bool b_181), (10, .int .i64 i_182), (29, .bool b_251)] ∧ SH (fun _ => False) w w' []) ?_ ?_
          · rintro a W_253 ⟨b_251, H, hst, hsh⟩
            subst hJ_252
            dsimp only at H
            refine r_t hst trivial rfl (x_move hst rfl) ?_; intro a hst
            obtain ⟨J_255, hJ_255, H⟩ := Jn.elim H
            refine wl_join 22 (fun a w' => ∃ (b_254 : Bool), J_255 b_254 = some r ∧ ST Tryd.f14.ntmps a [(0, va0), (1, .string a1), (2, .int .u64 a2), (6, .int .u64 0), (7, .bool false), (8, .int .u64 i_180), (9, .bool b_181), (10, .int .i64 i_182), (38, .bool b_254)] ∧ SH (fun _ => False) w w' []) ?_ ?_
            · rintro a W_256 ⟨b_254, H, hst, hsh⟩
              subst hJ_255
              dsimp only at H
              refine r_t hst trivial rfl (x_move hst rfl) ?_; intro a hst
              obtain ⟨J_261, hJ_261, H⟩ := Jn.elim H
              refine wl_join 35 (fun a w' => ∃ (b_260 : Bool), J_261 b_260 = some r ∧ ST Tryd.f14.ntmps a [(0, va0), (1, .string a1), (2, .int .u64 a2), (6, .int .u64 0), (7, .bool false), (8, .int .u64 i_180), (9, .bool b_181), (10, .int .i64 i_182), (51, .bool b_260)] ∧ SH (fun _ => False) w w' []) ?_ ?_
              · rintro a W_265 ⟨b_260, H, hst, hsh⟩
                subst hJ_261
                dsimp only at H
                refine wpList_nil ?_
                refine then_normal ?_
                by_cases c268 : b_260 = true
                · rw [if_pos c268] at H
                  refine wp_condT hst rfl c268 ?_
                  refine wp_seq ?_
                  refine wp_region_lit ?_
                  refine r_t hst trivial rfl (x_move hst rfl) ?_; intro a hst
                  refine r_t hst trivial rfl (x_move hst rfl) ?_; intro a hst
                  obtain ⟨x269, hx269, H⟩ := Option.bind_eq_some_iff.1 H
                  refine r_t hst trivial rfl (x_indexAddr hst Tryd.underlying22 el_28 rfl rfl hra0 hx269) ?_; intro a hst
                  refine r_t hst trivial rfl (x_fieldAddrE (n' := Int.toNat i_182 * k_Tomb.sz + 2) hst fa_28_2 rfl rfl) ?_; intro a hst
                  refine r_t hst trivial rfl (x_loadEF (j := 2) (cs := [.string x269.Begin, .string x269.End, .int .u64 x269.Seq]) hst sc_26 rfl hra0 (Same.sh0 hsa0 hsh) hx269 rfl (fun _ h => h) rfl) ?_; intro a hst
                  refine r_t hst trivial rfl (x_assign hst rfl) ?_; intro a hst
                  refine wpList_nil ?_
                  refine then_normal ?_
                  refine wp_region_lit ?_
                  refine r_t hst trivial rfl (x_assign hst rfl) ?_; intro a hst
                  refine wpList_nil ?_
                  refine block_normal ?_
                  refine then_normal ?_
                  exact ⟨x269.Seq, true, H, hst.keep _ ⟨rfl, rfl, rfl, rfl, rfl, rfl, rfl, rfl, trivial⟩, hsh.pick []⟩
                · rw [if_neg c268] at H
                  replace c268 := Bool.eq_false_iff.2 c268
                  refine wp_condF hst rfl c268 ?_
                  refine wp_skip ?_
                  refine block_normal ?_
                  refine then_normal ?_
                  exact ⟨i_180, b_181, H, hst.keep _ ⟨rfl, rfl, rfl, rfl, rfl, rfl, rfl, rfl, trivial⟩, hsh.pick []⟩
              · intro hj
                by_cases c264 : b_254 = true
                · rw [if_pos c264] at H
                  refine r_t hst (wt_of 39 rfl rfl c264) rfl (x_move hst rfl) ?_; intro a hst
                  refine r_t hst (wt_of 39 rfl rfl c264) rfl (x_notB hst rfl) ?_; intro a hst
                  refine r_t hst (wt_of 39 rfl rfl c264) rfl (x_move hst rfl) ?_; intro a hst
                  obtain ⟨J_267, hJ_267, H⟩ := Jn.elim H
                  refine wl_join 34 (fun a w' => ∃ (b_266 : Bool), J_267 b_266 = some r ∧ ST Tryd.f14.ntmps a [(0, va0), (1, .string a1), (2, .int .u64 a2), (6, .int .u64 0), (7, .bool false), (8, .int .u64 i_180), (9, .bool b_181), (10, .int .i64 i_182), (39, .bool b_254), (50, .bool b_266)] ∧ SH (fun _ => False) w w' []) ?_ ?_
                  · rintro a W_268 ⟨b_266, H, hst, hsh⟩
                    subst hJ_267
                    dsimp only at H
                    refine r_t hst trivial rfl (x_pickT hst rfl c264 rfl) ?_; intro a hst
                    exact hj _ _ ⟨b_266, H, hst.keep _ ⟨rfl, rfl, rfl, rfl, rfl, rfl, rfl, rfl, rfl, trivial⟩, hsh.pick []⟩
                  · intro hj
                    by_cases c270 : (!b_181) = true
                    · rw [if_pos c270] at H
                      refine r_not hst 42 rfl rfl c270 rfl ?_; intro a hst
                      refine r_not hst 42 rfl rfl c270 rfl ?_; intro a hst
                      refine r_not hst 42 rfl rfl c270 rfl ?_; intro a hst
                      refine r_not hst 42 rfl rfl c270 rfl ?_; intro a hst
                      refine r_not hst 42 rfl rfl c270 rfl ?_; intro a hst
                      refine r_not hst 42 rfl rfl c270 rfl ?_; intro a hst
                      refine r_not hst 42 rfl rfl c270 rfl ?_; intro a hst
                      refine r_t hst (wt_of 39 rfl rfl c264) rfl (x_pickT hst rfl c270 rfl) ?_; intro a hst
                      exact hj _ _ ⟨true, H, hst.keep _ ⟨rfl, rfl, rfl, rfl, rfl, rfl, rfl, rfl, rfl, rfl, trivial⟩, hsh.pick []⟩
                    · rw [if_neg c270] at H
                      replace c270 := Bool.eq_false_iff.2 c270
                      refine r_t hst (wt_of 42 rfl rfl c270) rfl (x_move hst rfl) ?_; intro a hst
                      refine r_t hst (wt_of 42 rfl rfl c270) rfl (x_move hst rfl) ?_; intro a hst
                      obtain ⟨x272, hx272, H⟩ := Option.bind_eq_some_iff.1 H
                      refine r_t hst (wt_of 42 rfl rfl c270) rfl (x_indexAddr hst Tryd.underlying22 el_28 rfl rfl hra0 hx272) ?_; intro a hst
                      refine r_t hst (wt_of 42 rfl rfl c270) rfl (x_fieldAddrE (n' := Int.toNat i_182 * k_Tomb.sz + 2) hst fa_28_2 rfl rfl) ?_; intro a hst
                      refine r_t hst (wt_of 42 rfl rfl c270) rfl (x_loadEF (j := 2) (cs := [.string x272.Begin, .string x272.End, .int .u64 x272.Seq]) hst sc_26 rfl hra0 (Same.sh0 hsa0 hsh) hx272 rfl (fun _ h => h) rfl) ?_; intro a hst
                      refine r_t hst (wt_of 42 rfl rfl c270) rfl (x_move hst rfl) ?_; intro a hst
                      refine r_t hst (wt_of 42 rfl rfl c270) rfl (x_cmpI (b := decide (i_180 < x272.Seq)) hst rfl rfl rfl) ?_; intro a hst
                      refine r_t hst (wt_of 39 rfl rfl c264) rfl (x_pickF hst rfl c270 rfl) ?_; intro a hst
                      exact hj _ _ ⟨(decide (i_180 < x272.Seq)), H, hst.keep _ ⟨rfl, rfl, rfl, rfl, rfl, rfl, rfl, rfl, rfl, rfl, trivial⟩, hsh.pick []⟩
                · rw [if_neg c264] at H
                  replace c264 := Bool.eq_false_iff.2 c264
                  refine r_not hst 39 rfl rfl c264 rfl ?_; intro a hst
                  refine r_not hst 39 rfl rfl c264 rfl ?_; intro a hst
                  refine r_not hst 39 rfl rfl c264 rfl ?_; intro a hst
                  refine r_notU hst 42 rfl rfl rfl ?_; intro a hst
                  refine r_notU hst 42 rfl rfl rfl ?_; intro a hst
                  refine r_notU hst 42 rfl rfl rfl ?_; intro a hst
                  refine r_notU hst 42 rfl rfl rfl ?_; intro a hst
                  refine r_notU hst 42 rfl rfl rfl ?_; intro a hst
                  refine r_notU hst 42 rfl rfl rfl ?_; intro a hst
                  refine r_notU hst 42 rfl rfl rfl ?_; intro a hst
                  refine r_not hst 39 rfl rfl c264 rfl ?_; intro a hst
                  refine r_t hst trivial rfl (x_pickF hst rfl c264 rfl) ?_; intro a hst
                  exact hj _ _ ⟨false, H, hst.keep _ ⟨rfl, rfl, rfl, rfl, rfl, rfl, rfl, rfl, rfl, trivial⟩, hsh.pick []⟩
            · intro hj
              by_cases c262 : b_251 = true
              · rw [if_pos c262] at H
                refine r_t hst (wt_of 30 rfl rfl c262) rfl (x_move hst rfl) ?_; intro a hst
                refine r_t hst (wt_of 30 rfl rfl c262) rfl (x_move hst rfl) ?_; intro a hst
                obtain ⟨x273, hx273, H⟩ := Option.bind_eq_some_iff.1 H
                refine r_t hst (wt_of 30 rfl rfl c262) rfl (x_indexAddr hst Tryd.underlying22 el_28 rfl rfl hra0 hx273) ?_; intro a hst
                refine r_t hst (wt_of 30 rfl rfl c262) rfl (x_fieldAddrE (n' := Int.toNat i_182 * k_Tomb.sz + 2) hst fa_28_2 rfl rfl) ?_; intro a hst
                refine r_t hst (wt_of 30 rfl rfl c262) rfl (x_loadEF (j := 2) (cs := [.string x273.Begin, .string x273.End, .int .u64 x273.Seq]) hst sc_26 rfl hra0 (Same.sh0 hsa0 hsh) hx273 rfl (fun _ h => h) rfl) ?_; intro a hst
                refine r_t hst (wt_of 30 rfl rfl c262) rfl (x_move hst rfl) ?_; intro a hst
                refine r_t hst (wt_of 30 rfl rfl c262) rfl (x_cmpI (b := decide (x273.Seq ≤ a2)) hst rfl rfl rfl) ?_; intro a hst
                refine r_t hst trivial rfl (x_pickT hst rfl c262 rfl) ?_; intro a hst
                exact hj _ _ ⟨(decide (x273.Seq ≤ a2)), H, hst.keep _ ⟨rfl, rfl, rfl, rfl, rfl, rfl, rfl, rfl, rfl, trivial⟩, hsh.pick []⟩
              · rw [if_neg c262] at H
                replace c262 := Bool.eq_false_iff.2 c262
                refine r_not hst 30 rfl rfl c262 rfl ?_; intro a hst
                refine r_not hst 30 rfl rfl c262 rfl ?_; intro a hst
                refine r_not hst 30 rfl rfl c262 rfl ?_; intro a hst
                refine r_not hst 30 rfl rfl c262 rfl ?_; intro a hst
                refine r_not hst 30 rfl rfl c262 rfl ?_; intro a hst
                refine r_not hst 30 rfl rfl c262 rfl ?_; intro a hst
                refine r_not hst 30 rfl rfl c262 rfl ?_; intro a hst
                refine r_t hst trivial rfl (x_pickF hst rfl c262 rfl) ?_; intro a hst
                exact hj _ _ ⟨false, H, hst.keep _ ⟨rfl, rfl, rfl, rfl, rfl, rfl, rfl, rfl, rfl, trivial⟩, hsh.pick []⟩
          · intro hj
            by_cases c258 : r256 = true
            · rw [if_pos c258] at H
              refine r_t hst (wt_of 22 rfl rfl c258) rfl (x_move hst rfl) ?_; intro a hst
              refine r_t hst (wt_of 22 rfl rfl c258) rfl (x_move hst rfl) ?_; intro a hst
              obtain ⟨x274, hx274, H⟩ := Option.bind_eq_some_iff.1 H
              refine r_t hst (wt_of 22 rfl rfl c258) rfl (x_indexAddr hst Tryd.underlying22 el_28 rfl rfl hra0 hx274) ?_; intro a hst
              refine r_t hst (wt_of 22 rfl rfl c258) rfl (x_loadEsF (j := 0) (cs := [.string x274.Begin, .string x274.End, .int .u64 x274.Seq]) (ps := [.string x274.Begin, .string x274.End, .int .u64 x274.Seq]) hst ag_28 rfl hra0 (Same.sh0 hsa0 hsh) hx274 rfl (fun _ h => h) rfl) ?_; intro a hst
              refine r_t hst (wt_of 22 rfl rfl c258) rfl (x_move hst rfl) ?_; intro a hst
              obtain ⟨r275, hr275, H⟩ := Option.bind_eq_some_iff.1 H
              refine r_callD hst (wt_of 22 rfl rfl c258) rfl fn_31 rfl (r09_covers.calls _ x274 a1 r275 hr275) ?_
              rintro e w276 ⟨rfl, hc⟩
              replace hsh := hsh.call0 hc
              clear hc
              refine ⟨_, rfl, fun a hst => ?_⟩
              refine r_t hst trivial rfl (x_pickT hst rfl c258 rfl) ?_; intro a hst
              exact hj _ _ ⟨r275, H, hst.keep _ ⟨rfl, rfl, rfl, rfl, rfl, rfl, rfl, rfl, rfl, trivial⟩, hsh.pick []⟩
            · rw [if_neg c258] at H
              replace c258 := Bool.eq_false_iff.2 c258
              refine r_not hst 22 rfl rfl c258 rfl ?_; intro a hst
              refine r_not hst 22 rfl rfl c258 rfl ?_; intro a hst
              refine r_not hst 22 rfl rfl c258 rfl ?_; intro a hst
              refine r_not hst 22 rfl rfl c258 rfl ?_; intro a hst
              refine r_not hst 22 rfl rfl c258 rfl ?_; intro a hst
              refine r_not hst 22 rfl rfl c258 rfl ?_; intro a hst
              refine r_t hst trivial rfl (x_pickF hst rfl c258 rfl) ?_; intro a hst
              exact hj _ _ ⟨false, H, hst.keep _ ⟨rfl, rfl, rfl, rfl, rfl, rfl, rfl, rfl, rfl, trivial⟩, hsh.pick []⟩
      · rw [if_neg c232] at H
        replace c232 := Bool.eq_false_iff.2 c232
        refine wp_condF hst rfl c232 ?_
        refine wp_exit ?_
        refine then_exit ?_
        refine then_exit ?_
        refine block_hit ?_
        refine then_normal ?_
        refine wp_seq ?_
        refine wp_region_lit ?_
        refine r_t hst trivial rfl (x_move hst rfl) ?_; intro a hst
        refine r_t hst trivial rfl (x_move hst rfl) ?_; intro a hst
        refine r_t hst trivial rfl (x_assign hst rfl) ?_; intro a hst
        refine r_t hst trivial rfl (x_assign hst rfl) ?_; intro a hst
        refine wpList_nil ?_
        refine then_normal ?_
        refine wp_ret ?_
        obtain rfl := Option.some.inj H
        exact ret2 hst rfl rfl rfl ⟨rfl, hsh.pick []⟩

set_option maxHeartbeats 4000000 in
set_option maxRecDepth 100000 in
theorem tomb_Span.calls (k : Nat) (w : World) (va0 : Value) (Za0 : Nat → Prop) (wra0 : World) (hsa0 : Same Za0 wra0 w) (a0 : (List Tomb)) (hra0 : RD k_Tomb Za0 wra0 va0 a0) (r : (ByteArray × ByteArray × Bool)) (h : tomb_Span k a0 = some r) :
    Calls Tryd.prog 15 ([va0] : List Value).toArray w fun e w' => e = .returned (.tuple #[.string r.1, .string r.2.1, .bool r.2.2]) ∧ SH (fun _ => False) w w' [] := by
  have H := h
  clear h
  unfold tomb_Span at H
  refine calls_enter Tryd.func15 rfl rfl ?_
  intro a hst
  have hsh := SH.zero (fun _ => False) w
  refine wp_seq ?_
  refine wp_region_lit ?_
  refine r_t hst trivial rfl (x_assign hst rfl) ?_; intro a hst
  refine r_t hst trivial rfl (x_assign hst rfl) ?_; intro a hst
  refine r_t hst trivial rfl (x_assign hst rfl) ?_; intro a hst
  refine wpList_nil ?_
  refine then_normal ?_
  refine wp_seq ?_
  refine wp_seq ?_
  refine wp_region_lit ?_
  refine r_t hst trivial rfl (x_move hst rfl) ?_; intro a hst
  obtain ⟨r65, hr65, H⟩ := Option.bind_eq_some_iff.1 H
  refine r_callD hst trivial rfl fn_30 rfl (tomb_valid.calls k _ _ _ _ (Same.sh0 hsa0 hsh) _ hra0 r65 hr65) ?_
  rintro e w66 ⟨v67, rfl, hc⟩
  replace hsh := hsh.call0 hc
  clear hc
  refine ⟨_, rfl, fun a hst => ?_⟩
  refine r_t hst trivial rfl (x_lenSl hst Tryd.underlying22 rfl (hsh.row 0 rfl).slen) ?_; intro a hst
  refine r_t hst trivial rfl (x_move hst rfl) ?_; intro a hst
  refine wpList_nil ?_
  refine then_normal ?_
  refine wp_block ?_
  refine wp_loop_fuel (fun k_84 a w' => ∃ (s_64 : ByteArray), ∃ (s_65 : ByteArray), ∃ (b_66 : Bool), ∃ (i_67 : Int), tomb_Span.l0 r65 k_84 s_64 s_65 b_66 i_67 = some r ∧ ST Tryd.f15.ntmps a [(2, .string s_64), (3, .string s_65), (4, .bool b_66), (8, v67), (9, .int .i64 (r65.length : Int)), (10, .int .i64 i_67)] ∧ SH (fun _ => False) w w' [Row k_Tomb 28 v67 r65]) k ?_ ?_
  · exact ⟨(ByteArray.mk #[]), (ByteArray.mk #[]), false, 0, H, hst.keep _ ⟨rfl, rfl, rfl, rfl, rfl, rfl, trivial⟩, hsh.pick [0]⟩
  · rintro k_84 a W_68 ⟨s_64, s_65, b_66, i_67, H, hst, hsh⟩
    cases k_84 with
    | zero => rw [tomb_Span.l0] at H; cases H
    | succ k_84 =>
      rw [tomb_Span.l0] at H
      refine wp_seq ?_
      refine wp_region_lit ?_
      refine r_t hst trivial rfl (x_cmpI (b := decide (i_67 < (r65.length : Int))) hst rfl rfl rfl) ?_; intro a hst
      refine wpList_nil ?_
      refine then_normal ?_
      refine wp_seq ?_
      by_cases c110 : (decide (i_67 < (r65.length : Int))) = true
      · rw [if_pos c110] at H
        refine wp_condT hst rfl c110 ?_
        refine wp_skip ?_
        refine then_normal ?_
        refine wp_seq ?_
        refine wp_block ?_
        refine wp_seq ?_
        refine wp_region_lit ?_
        obtain ⟨x120, hx120, H⟩ := Option.bind_eq_some_iff.1 H
        refine r_t hst trivial rfl (x_indexAddr hst Tryd.underlying22 el_28 rfl rfl (hsh.row 0 rfl) hx120) ?_; intro a hst
        refine r_t hst trivial rfl (x_loadEsF (j := 0) (cs := [.string x120.Begin, .string x120.End, .int .u64 x120.Seq]) (ps := [.string x120.Begin, .string x120.End, .int .u64 x120.Seq]) hst ag_28 rfl (hsh.row 0 rfl) (Same.refl _ _) hx120 rfl (fun _ h => h) rfl) ?_; intro a hst
        refine r_alloc hst hsh trivial rfl zr_28 ?_
        intro g121 a w122 hgg121 hsh hst
        refine r_storeBs (i := 0) (cs' := [.string x120.Begin, .string x120.End, .int .u64 x120.Seq]) (vs := [.string x120.Begin, .string x120.End, .int .u64 x120.Seq]) hst hsh trivial ag_28 rfl rfl rfl rfl rfl rfl ?_; intro a w123 hsh hst
        refine wpList_nil ?_
        refine then_normal ?_
        obtain ⟨J_94, hJ_94, H⟩ := Jn.elim H
        refine wp_cut (fun a w' => ∃ (s_90 : ByteArray), ∃ (s_91 : ByteArray), ∃ (b_92 : Bool), J_94 s_90 s_91 b_92 = some r ∧ ST Tryd.f15.ntmps a [(2, .string s_90), (3, .string s_91), (4, .bool b_92), (6, .pointer (some ⟨g121, 0, none⟩)), (8, v67), (9, .int .i64 (r65.length : Int)), (10, .int .i64 i_67)] ∧ SH (fun _ => False) w w' [Box g121 [.string x120.Begin, .string x120.End, .int .u64 x120.Seq] 28, Row k_Tomb 28 v67 r65]) ?_ ?_
        · rintro a W_93 ⟨s_90, s_91, b_92, H, hst, hsh⟩
          subst hJ_94
          dsimp only at H
          refine wp_region_q (fun w' => SH (fun _ => False) w w' [Box g121 [.string x120.Begin, .string x120.End, .int .u64 x120.Seq] 28, Row k_Tomb 28 v67 r65]) hsh.drew fo (by kernel_rfl) ?_
          refine q_t hst trivial rfl (fun _ hsh => x_move hst rfl) ?_; intro a hst
          refine q_t hst trivial rfl (fun _ hsh => x_fieldAddr (j' := 0) hst fa_28_0 rfl rfl) ?_; intro a hst
          refine q_t hst trivial rfl (fun _ hsh => x_loadB (i := 0) hst hsh sc_9 rfl rfl rfl) ?_; intro a hst
          refine q_t hst trivial rfl (fun _ hsh => x_minS hst rfl rfl) ?_; intro a hst
          refine q_t hst trivial rfl (fun _ hsh => x_move hst rfl) ?_; intro a hst
          refine q_t hst trivial rfl (fun _ hsh => x_fieldAddr (j' := 1) hst fa_28_1 rfl rfl) ?_; intro a hst
          refine q_t hst trivial rfl (fun _ hsh => x_loadB (i := 0) hst hsh sc_9 rfl rfl rfl) ?_; intro a hst
          refine q_t hst trivial rfl (fun _ hsh => x_maxS hst rfl rfl) ?_; intro a hst
          refine q_t hst trivial rfl (fun _ hsh => x_assign hst rfl) ?_; intro a hst
          refine q_t hst trivial rfl (fun _ hsh => x_assign hst rfl) ?_; intro a hst
          refine q_nil ?_
          intro w126 hsh
          refine block_normal ?_
          refine then_normal ?_
          refine wp_region_lit ?_
          refine r_t hst trivial rfl (x_arI (r := w64 (i_67 + 1)) hst rfl rfl rfl) ?_; intro a hst
          refine r_t hst trivial rfl (x_move hst rfl) ?_; intro a hst
          refine wpList_nil ?_
          refine then_normal ?_
          exact ⟨k_84, Nat.lt_succ_self _, (minS s_90 x120.Begin), (maxS s_91 x120.End), b_92, (w64 (i_67 + 1)), H, hst.keep _ ⟨rfl, rfl, rfl, rfl, rfl, rfl, trivial⟩, hsh.pick [1]⟩
        · refine wp_seq ?_
          refine wp_region_lit ?_
          refine r_t hst trivial rfl (x_move hst rfl) ?_; intro a hst
          refine r_t hst trivial rfl (x_notB hst rfl) ?_; intro a hst
          refine wpList_nil ?_
          refine then_normal ?_
          by_cases c127 : (!b_66) = true
          · rw [if_pos c127] at H
            refine wp_condT hst rfl c127 ?_
            refine wp_region_q (fun w' => SH (fun _ => False) w w' [Box g121 [.string x120.Begin, .string x120.End, .int .u64 x120.Seq] 28, Row k_Tomb 28 v67 r65]) hsh.drew fo (by kernel_rfl) ?_
            refine q_t hst trivial rfl (fun _ hsh => x_fieldAddr (j' := 0) hst fa_28_0 rfl rfl) ?_; intro a hst
            refine q_t hst trivial rfl (fun _ hsh => x_loadB (i := 0) hst hsh sc_9 rfl rfl rfl) ?_; intro a hst
            refine q_t hst trivial rfl (fun _ hsh => x_fieldAddr (j' := 1) hst fa_28_1 rfl rfl) ?_; intro a hst
            refine q_t hst trivial rfl (fun _ hsh => x_loadB (i := 0) hst hsh sc_9 rfl rfl rfl) ?_; intro a hst
            refine q_t hst trivial rfl (fun _ hsh => x_assign hst rfl) ?_; intro a hst
            refine q_t hst trivial rfl (fun _ hsh => x_assign hst rfl) ?_; intro a hst
            refine q_t hst trivial rfl (fun _ hsh => x_assign hst rfl) ?_; intro a hst
            refine q_nil ?_
            intro w128 hsh
            refine then_normal ?_
            exact ⟨x120.Begin, x120.End, true, H, hst.keep _ ⟨rfl, rfl, rfl, rfl, rfl, rfl, rfl, trivial⟩, hsh.pick [0, 0]⟩
          · rw [if_neg c127] at H
            replace c127 := Bool.eq_false_iff.2 c127
            refine wp_condF hst rfl c127 ?_
            refine wp_skip ?_
            refine then_normal ?_
            exact ⟨s_64, s_65, b_66, H, hst.keep _ ⟨rfl, rfl, rfl, rfl, rfl, rfl, rfl, trivial⟩, hsh.pick [0, 0]⟩
      · rw [if_neg c110] at H
        replace c110 := Bool.eq_false_iff.2 c110
        refine wp_condF hst rfl c110 ?_
        refine wp_exit ?_
        refine then_exit ?_
        refine then_exit ?_
        refine block_hit ?_
        refine then_normal ?_
        refine wp_seq ?_
        refine wp_region_lit ?_
        refine r_t hst trivial rfl (x_move hst rfl) ?_; intro a hst
        refine r_t hst trivial rfl (x_move hst rfl) ?_; intro a hst
        refine r_t hst trivial rfl (x_move hst rfl) ?_; intro a hst
        refine r_t hst trivial rfl (x_assign hst rfl) ?_; intro a hst
        refine r_t hst trivial rfl (x_assign hst rfl) ?_; intro a hst
        refine r_t hst trivial rfl (x_assign hst rfl) ?_; intro a hst
        refine wpList_nil ?_
        refine then_normal ?_
        refine wp_ret ?_
        obtain rfl := Option.some.inj H
        exact ret3 hst rfl rfl rfl rfl ⟨rfl, hsh.pick []⟩

set_option maxHeartbeats 4000000 in
set_option maxRecDepth 100000 in
theorem r09_All.calls (k : Nat) (w : World) (va0 : Value) (Za0 : Nat → Prop) (wra0 : World) (hsa0 : Same Za0 wra0 w) (a0 : (List Tomb)) (hra0 : RD k_Tomb Za0 wra0 va0 a0) (r : (List Tomb)) (h : r09_All k a0 = some r) :
    Calls Tryd.prog 23 ([va0] : List Value).toArray w fun e w' => ∃ v0_ : Value, e = .returned (v0_) ∧ SH (fun _ => False) w w' [Row k_Tomb 28 v0_ r] := by
  have H := h
  clear h
  unfold r09_All at H
  refine calls_enter Tryd.func23 rfl rfl ?_
  intro a hst
  have hsh := SH.zero (fun _ => False) w
  refine wp_seq ?_
  refine wp_region_lit ?_
  refine r_t hst trivial rfl (x_assign hst rfl) ?_; intro a hst
  refine wpList_nil ?_
  refine then_normal ?_
  refine wp_seq ?_
  refine wp_region_lit ?_
  refine r_t hst trivial rfl (x_assign hst rfl) ?_; intro a hst
  refine wpList_nil ?_
  refine then_normal ?_
  refine wp_seq ?_
  refine wp_seq ?_
  refine wp_region_lit ?_
  refine r_t hst trivial rfl (x_assign hst rfl) ?_; intro a hst
  refine wpList_nil ?_
  refine then_normal ?_
  refine wp_block ?_
  have hsh := hsh.addNil k_Tomb 28
  refine wp_loop_fuel (fun k_56 a w' => ∃ (v_43 : Value), ∃ (l_44 : (List Tomb)), ∃ (i_45 : Int), r09_All.l0 a0 k_56 l_44 i_45 = some r ∧ ST Tryd.f23.ntmps a [(0, va0), (2, (.slice none 0 0)), (3, v_43), (4, .int .i64 i_45)] ∧ SH (fun _ => False) w w' [Row k_Tomb 28 v_43 l_44]) k ?_ ?_
  · exact ⟨(.slice none 0 0), ([]), 0, H, hst.keep _ ⟨rfl, rfl, rfl, rfl, trivial⟩, hsh.pick [0]⟩
  · rintro k_56 a W_46 ⟨v_43, l_44, i_45, H, hst, hsh⟩
    cases k_56 with
    | zero => rw [r09_All.l0] at H; cases H
    | succ k_56 =>
      rw [r09_All.l0] at H
      refine wp_seq ?_
      refine wp_seq ?_
      refine wp_region_lit ?_
      refine r_t hst trivial rfl (x_move hst rfl) ?_; intro a hst
      refine r_t hst trivial rfl (x_move hst rfl) ?_; intro a hst
      refine r_t hst trivial rfl (x_lenSl hst Tryd.underlying22 rfl hra0.slen) ?_; intro a hst
      refine r_t hst trivial rfl (x_cmpI (b := decide (i_45 < (a0.length : Int))) hst rfl rfl rfl) ?_; intro a hst
      refine wpList_nil ?_
      refine then_normal ?_
      by_cases c119 : (decide (i_45 < (a0.length : Int))) = true
      · rw [if_pos c119] at H
        refine wp_condT hst rfl c119 ?_
        refine wp_skip ?_
        refine then_normal ?_
        obtain ⟨J_60, hJ_60, H⟩ := Jn.elim H
        refine wp_cut (fun a w' => ∃ (v_57 : Value), ∃ (l_58 : (List Tomb)), J_60 l_58 = some r ∧ ST Tryd.f23.ntmps a [(0, va0), (2, (.slice none 0 0)), (3, v_57), (4, .int .i64 i_45)] ∧ SH (fun _ => False) w w' [Row k_Tomb 28 v_57 l_58]) ?_ ?_
        · rintro a W_59 ⟨v_57, l_58, H, hst, hsh⟩
          subst hJ_60
          dsimp only at H
          refine wp_region_lit ?_
          refine r_t hst trivial rfl (x_move hst rfl) ?_; intro a hst
          refine r_t hst trivial rfl (x_arI (r := w64 (i_45 + 1)) hst rfl rfl rfl) ?_; intro a hst
          refine r_t hst trivial rfl (x_assign hst rfl) ?_; intro a hst
          refine wpList_nil ?_
          refine then_normal ?_
          exact ⟨k_56, Nat.lt_succ_self _, v_57, l_58, (w64 (i_45 + 1)), H, hst.keep _ ⟨rfl, rfl, rfl, rfl, trivial⟩, hsh.pick [0]⟩
        · refine wp_block ?_
          refine wp_seq ?_
          refine wp_region_lit ?_
          refine r_t hst trivial rfl (x_move hst rfl) ?_; intro a hst
          refine r_t hst trivial rfl (x_move hst rfl) ?_; intro a hst
          obtain ⟨x130, hx130, H⟩ := Option.bind_eq_some_iff.1 H
          refine r_t hst trivial rfl (x_indexAddr hst Tryd.underlying22 el_28 rfl rfl hra0 hx130) ?_; intro a hst
          refine r_t hst trivial rfl (x_loadEsF (j := 0) (cs := [.string x130.Begin, .string x130.End, .int .u64 x130.Seq]) (ps := [.string x130.Begin, .string x130.End, .int .u64 x130.Seq]) hst ag_28 rfl hra0 (Same.sh0 hsa0 hsh) hx130 rfl (fun _ h => h) rfl) ?_; intro a hst
          obtain ⟨r131, hr131, H⟩ := Option.bind_eq_some_iff.1 H
          refine r_callD hst trivial rfl fn_18 rfl (r09_Valid.calls _ x130 r131 hr131) ?_
          rintro e w132 ⟨rfl, hc⟩
          replace hsh := hsh.call0 hc
          clear hc
          refine ⟨_, rfl, fun a hst => ?_⟩
          refine wpList_nil ?_
          refine then_normal ?_
          by_cases c133 : r131 = true
          · rw [if_pos c133] at H
            refine wp_condT hst rfl c133 ?_
            refine wp_region_lit ?_
            refine r_t hst trivial rfl (x_move hst rfl) ?_; intro a hst
            refine r_t hst trivial rfl (x_move hst rfl) ?_; intro a hst
            refine r_t hst trivial rfl (x_move hst rfl) ?_; intro a hst
            obtain ⟨x134, hx134, H⟩ := Option.bind_eq_some_iff.1 H
            refine r_t hst trivial rfl (x_indexAddr hst Tryd.underlying22 el_28 rfl rfl hra0 hx134) ?_; intro a hst
            refine r_t hst trivial rfl (x_loadEsF (j := 0) (cs := [.string x134.Begin, .string x134.End, .int .u64 x134.Seq]) (ps := [.string x134.Begin, .string x134.End, .int .u64 x134.Seq]) hst ag_28 rfl hra0 (Same.sh0 hsa0 hsh) hx134 rfl (fun _ h => h) rfl) ?_; intro a hst
            refine r_buildSlice (vs := [.agg #[.string x134.Begin, .string x134.End, .int .u64 x134.Seq]]) (cs := [.string x134.Begin, .string x134.End, .int .u64 x134.Seq]) hst hsh trivial rfl Tryd.underlying22 el_28 rfl rfl (by simp [Value.cells]) rfl rfl ?_
            intro g135 a w136 hgg135 hsh hst
            replace hsh := hsh.pick [1, 0]
            obtain ⟨l137, hl137, H⟩ := Option.bind_eq_some_iff.1 H
            refine r_append1 (xx := x134) (C := []) (M := []) hst hsh trivial rfl Tryd.underlying22 el_28 (by decide) (by decide) (by decide) rfl rfl (fun _ _ _ => rfl) hl137 ?_
            intro v138 a w139 hsh hst
            refine r_t hst trivial rfl (x_assign hst rfl) ?_; intro a hst
            refine wpList_nil ?_
            refine block_normal ?_
            refine then_normal ?_
            exact ⟨v138, l137, H, hst.keep _ ⟨rfl, rfl, rfl, rfl, trivial⟩, hsh.pick [0]⟩
          · rw [if_neg c133] at H
            replace c133 := Bool.eq_false_iff.2 c133
            refine wp_condF hst rfl c133 ?_
            refine wp_skip ?_
            refine block_normal ?_
            refine then_normal ?_
            exact ⟨v_43, l_44, H, hst.keep _ ⟨rfl, rfl, rfl, rfl, trivial⟩, hsh.pick [0]⟩
      · rw [if_neg c119] at H
        replace c119 := Bool.eq_false_iff.2 c119
        refine wp_condF hst rfl c119 ?_
        refine wp_exit ?_
        refine then_exit ?_
        refine then_exit ?_
        refine block_hit ?_
        refine then_normal ?_
        refine wp_seq ?_
        refine wp_region_lit ?_
        refine r_t hst trivial rfl (x_move hst rfl) ?_; intro a hst
        refine r_t hst trivial rfl (x_assign hst rfl) ?_; intro a hst
        refine wpList_nil ?_
        refine then_normal ?_
        refine wp_ret ?_
        obtain rfl := Option.some.inj H
        exact ret1 hst rfl rfl ⟨v_43, rfl, hsh.pick [0]⟩

set_option maxHeartbeats 4000000 in
set_option maxRecDepth 100000 in
theorem r09_Span.calls (k : Nat) (w : World) (va0 : Value) (Za0 : Nat → Prop) (wra0 : World) (hsa0 : Same Za0 wra0 w) (a0 : (List Tomb)) (hra0 : RD k_Tomb Za0 wra0 va0 a0) (r : (ByteArray × ByteArray × Bool)) (h : r09_Span k a0 = some r) :
    Calls Tryd.prog 16 ([va0] : List Value).toArray w fun e w' => e = .returned (.tuple #[.string r.1, .string r.2.1, .bool r.2.2]) ∧ SH (fun _ => False) w w' [] := by
  have H := h
  clear h
  unfold r09_Span at H
  refine calls_enter Tryd.func16 rfl rfl ?_
  intro a hst
  have hsh := SH.zero (fun _ => False) w
  refine wp_seq ?_
  refine wp_region_lit ?_
  refine r_t hst trivial rfl (x_assign hst rfl) ?_; intro a hst
  refine r_t hst trivial rfl (x_assign hst rfl) ?_; intro a hst
  refine r_t hst trivial rfl (x_assign hst rfl) ?_; intro a hst
  refine wpList_nil ?_
  refine then_normal ?_
  refine wp_seq ?_
  refine wp_region_lit ?_
  refine r_t hst trivial rfl (x_move hst rfl) ?_; intro a hst
  obtain ⟨r1, hr1, H⟩ := Option.bind_eq_some_iff.1 H
  refine r_callD hst trivial rfl fn_23 rfl (r09_All.calls k _ _ _ _ (Same.sh0 hsa0 hsh) _ hra0 r1 hr1) ?_
  rintro e w2 ⟨v3, rfl, hc⟩
  replace hsh := hsh.call0 hc
  clear hc
  refine ⟨_, rfl, fun a hst => ?_⟩
  refine r_t hst trivial rfl (x_assign hst rfl) ?_; intro a hst
  refine wpList_nil ?_
  refine then_normal ?_
  refine wp_seq ?_
  refine wp_seq ?_
  refine wp_region_lit ?_
  refine r_t hst trivial rfl (x_move hst rfl) ?_; intro a hst
  refine r_t hst trivial rfl (x_lenSl hst Tryd.underlying22 rfl (hsh.row 0 rfl).slen) ?_; intro a hst
  refine r_t hst trivial rfl (x_cmpI (b := ((r1.length : Int) == 0)) hst rfl rfl rfl) ?_; intro a hst
  refine wpList_nil ?_
  refine then_normal ?_
  by_cases c6 : ((r1.length : Int) == 0) = true
  · rw [if_pos c6] at H
    refine wp_condT hst rfl c6 ?_
    refine wp_seq ?_
    refine wp_region_lit ?_
    refine r_t hst trivial rfl (x_assign hst rfl) ?_; intro a hst
    refine r_t hst trivial rfl (x_assign hst rfl) ?_; intro a hst
    refine r_t hst trivial rfl (x_assign hst rfl) ?_; intro a hst
    refine wpList_nil ?_
    refine then_normal ?_
    refine wp_ret ?_
    refine then_ret ?_
    obtain rfl := Option.some.inj H
    exact ret3 hst rfl rfl rfl rfl ⟨rfl, hsh.pick []⟩
  · rw [if_neg c6] at H
    replace c6 := Bool.eq_false_iff.2 c6
    refine wp_condF hst rfl c6 ?_
    refine wp_skip ?_
    refine then_normal ?_
    refine wp_seq ?_
    refine wp_region_lit ?_
    refine r_t hst trivial rfl (x_move hst rfl) ?_; intro a hst
    obtain ⟨x7, hx7, H⟩ := Option.bind_eq_some_iff.1 H
    refine r_t hst trivial rfl (x_indexAddr hst Tryd.underlying22 el_28 rfl rfl (hsh.row 0 rfl) hx7) ?_; intro a hst
    refine r_t hst trivial rfl (x_fieldAddrE (n' := Int.toNat 0 * k_Tomb.sz) hst fa_28_0 rfl rfl) ?_; intro a hst
    refine r_t hst trivial rfl (x_loadEF (j := 0) (cs := [.string x7.Begin, .string x7.End, .int .u64 x7.Seq]) hst sc_9 rfl (hsh.row 0 rfl) (Same.refl _ _) hx7 rfl (fun _ h => h) rfl) ?_; intro a hst
    refine r_t hst trivial rfl (x_assign hst rfl) ?_; intro a hst
    refine wpList_nil ?_
    refine then_normal ?_
    refine wp_seq ?_
    refine wp_region_lit ?_
    refine r_t hst trivial rfl (x_move hst rfl) ?_; intro a hst
    obtain ⟨x8, hx8, H⟩ := Option.bind_eq_some_iff.1 H
    refine r_t hst trivial rfl (x_indexAddr hst Tryd.underlying22 el_28 rfl rfl (hsh.row 0 rfl) hx8) ?_; intro a hst
    refine r_t hst trivial rfl (x_fieldAddrE (n' := Int.toNat 0 * k_Tomb.sz + 1) hst fa_28_1 rfl rfl) ?_; intro a hst
    refine r_t hst trivial rfl (x_loadEF (j := 1) (cs := [.string x8.Begin, .string x8.End, .int .u64 x8.Seq]) hst sc_9 rfl (hsh.row 0 rfl) (Same.refl _ _) hx8 rfl (fun _ h => h) rfl) ?_; intro a hst
    refine r_t hst trivial rfl (x_assign hst rfl) ?_; intro a hst
    refine wpList_nil ?_
    refine then_normal ?_
    refine wp_seq ?_
    refine wp_seq ?_
    refine wp_region_lit ?_
    refine r_t hst trivial rfl (x_assign hst rfl) ?_; intro a hst
    refine wpList_nil ?_
    refine then_normal ?_
    refine wp_block ?_
    refine wp_loop_fuel (fun k_78 a w' => ∃ (s_60 : ByteArray), ∃ (s_61 : ByteArray), ∃ (i_62 : Int), r09_Span.l0 r1 k_78 s_60 s_61 i_62 = some r ∧ ST Tryd.f16.ntmps a [(0, v3), (2, .string (ByteArray.mk #[])), (3, .string (ByteArray.mk #[])), (4, .bool false), (5, .string s_60), (6, .string s_61), (7, .int .i64 i_62)] ∧ SH (fun _ => False) w w' [Row k_Tomb 28 v3 r1]) k ?_ ?_
    · exact ⟨x7.Begin, x8.End, 1, H, hst.keep _ ⟨rfl, rfl, rfl, rfl, rfl, rfl, rfl, trivial⟩, hsh.pick [0]⟩
    · rintro k_78 a W_63 ⟨s_60, s_61, i_62, H, hst, hsh⟩
      cases k_78 with
      | zero => rw [r09_Span.l0] at H; cases H
      | succ k_78 =>
        rw [r09_Span.l0] at H
        refine wp_seq ?_
        refine wp_seq ?_
        refine wp_region_lit ?_
        refine r_t hst trivial rfl (x_move hst rfl) ?_; intro a hst
        refine r_t hst trivial rfl (x_move hst rfl) ?_; intro a hst
        refine r_t hst trivial rfl (x_lenSl hst Tryd.underlying22 rfl (hsh.row 0 rfl).slen) ?_; intro a hst
        refine r_t hst trivial rfl (x_cmpI (b := decide (i_62 < (r1.length : Int))) hst rfl rfl rfl) ?_; intro a hst
        refine wpList_nil ?_
        refine then_normal ?_
        by_cases c110 : (decide (i_62 < (r1.length : Int))) = true
        · rw [if_pos c110] at H
          refine wp_condT hst rfl c110 ?_
          refine wp_skip ?_
          refine then_normal ?_
          obtain ⟨J_85, hJ_85, H⟩ := Jn.elim H
          refine wp_cut (fun a w' => ∃ (s_82 : ByteArray), ∃ (s_83 : ByteArray), J_85 s_82 s_83 = some r ∧ ST Tryd.f16.ntmps a [(0, v3), (2, .string (ByteArray.mk #[])), (3, .string (ByteArray.mk #[])), (4, .bool false), (5, .string s_82), (6, .string s_83), (7, .int .i64 i_62)] ∧ SH (fun _ => False) w w' [Row k_Tomb 28 v3 r1]) ?_ ?_
          · rintro a W_84 ⟨s_82, s_83, H, hst, hsh⟩
            subst hJ_85
            dsimp only at H
            refine wp_region_lit ?_
            refine r_t hst trivial rfl (x_move hst rfl) ?_; intro a hst
            refine r_t hst trivial rfl (x_arI (r := w64 (i_62 + 1)) hst rfl rfl rfl) ?_; intro a hst
            refine r_t hst trivial rfl (x_assign hst rfl) ?_; intro a hst
            refine wpList_nil ?_
            refine then_normal ?_
            exact ⟨k_78, Nat.lt_succ_self _, s_82, s_83, (w64 (i_62 + 1)), H, hst.keep _ ⟨rfl, rfl, rfl, rfl, rfl, rfl, rfl, trivial⟩, hsh.pick [0]⟩
          · refine wp_block ?_
            obtain ⟨J_88, hJ_88, H⟩ := Jn.elim H
            refine wp_cut (fun a w' => ∃ (s_86 : ByteArray), J_88 s_86 = some r ∧ ST Tryd.f16.ntmps a [(0, v3), (2, .string (ByteArray.mk #[])), (3, .string (ByteArray.mk #[])), (4, .bool false), (5, .string s_86), (6, .string s_61), (7, .int .i64 i_62)] ∧ SH (fun _ => False) w w' [Row k_Tomb 28 v3 r1]) ?_ ?_
            · rintro a W_87 ⟨s_86, H, hst, hsh⟩
              subst hJ_88
              dsimp only at H
              refine wp_seq ?_
              refine wp_region_lit ?_
              refine r_t hst trivial rfl (x_move hst rfl) ?_; intro a hst
              refine r_t hst trivial rfl (x_move hst rfl) ?_; intro a hst
              obtain ⟨x123, hx123, H⟩ := Option.bind_eq_some_iff.1 H
              refine r_t hst trivial rfl (x_indexAddr hst Tryd.underlying22 el_28 rfl rfl (hsh.row 0 rfl) hx123) ?_; intro a hst
              refine r_t hst trivial rfl (x_fieldAddrE (n' := Int.toNat i_62 * k_Tomb.sz + 1) hst fa_28_1 rfl rfl) ?_; intro a hst
              refine r_t hst trivial rfl (x_loadEF (j := 1) (cs := [.string x123.Begin, .string x123.End, .int .u64 x123.Seq]) hst sc_9 rfl (hsh.row 0 rfl) (Same.refl _ _) hx123 rfl (fun _ h => h) rfl) ?_; intro a hst
              refine r_t hst trivial rfl (x_move hst rfl) ?_; intro a hst
              refine r_t hst trivial rfl (x_cmpS (b := (!(sLt x123.End s_61 || sEq x123.End s_61))) hst rfl rfl rfl) ?_; intro a hst
              refine wpList_nil ?_
              refine then_normal ?_
              by_cases c124 : (!(sLt x123.End s_61 || sEq x123.End s_61)) = true
              · rw [if_pos c124] at H
                refine wp_condT hst rfl c124 ?_
                refine wp_region_lit ?_
                refine r_t hst trivial rfl (x_move hst rfl) ?_; intro a hst
                refine r_t hst trivial rfl (x_move hst rfl) ?_; intro a hst
                obtain ⟨x125, hx125, H⟩ := Option.bind_eq_some_iff.1 H
                refine r_t hst trivial rfl (x_indexAddr hst Tryd.underlying22 el_28 rfl rfl (hsh.row 0 rfl) hx125) ?_; intro a hst
                refine r_t hst trivial rfl (x_fieldAddrE (n' := Int.toNat i_62 * k_Tomb.sz + 1) hst fa_28_1 rfl rfl) ?_; intro a hst
                refine r_t hst trivial rfl (x_loadEF (j := 1) (cs := [.string x125.Begin, .string x125.End, .int .u64 x125.Seq]) hst sc_9 rfl (hsh.row 0 rfl) (Same.refl _ _) hx125 rfl (fun _ h => h) rfl) ?_; intro a hst
                refine r_t hst trivial rfl (x_assign hst rfl) ?_; intro a hst
                refine wpList_nil ?_
                refine block_normal ?_
                refine then_normal ?_
                exact ⟨s_86, x125.End, H, hst.keep _ ⟨rfl, rfl, rfl, rfl, rfl, rfl, rfl, trivial⟩, hsh.pick [0]⟩
              · rw [if_neg c124] at H
                replace c124 := Bool.eq_false_iff.2 c124
                refine wp_condF hst rfl c124 ?_
                refine wp_skip ?_
                refine block_normal ?_
                refine then_normal ?_
                exact ⟨s_86, s_61, H, hst.keep _ ⟨rfl, rfl, rfl, rfl, rfl, rfl, rfl, trivial⟩, hsh.pick [0]⟩
            · refine wp_seq ?_
              refine wp_region_lit ?_
              refine r_t hst trivial rfl (x_move hst rfl) ?_; intro a hst
              refine r_t hst trivial rfl (x_move hst rfl) ?_; intro a hst
              obtain ⟨x126, hx126, H⟩ := Option.bind_eq_some_iff.1 H
              refine r_t hst trivial rfl (x_indexAddr hst Tryd.underlying22 el_28 rfl rfl (hsh.row 0 rfl) hx126) ?_; intro a hst
              refine r_t hst trivial rfl (x_fieldAddrE (n' := Int.toNat i_62 * k_Tomb.sz) hst fa_28_0 rfl rfl) ?_; intro a hst
              refine r_t hst trivial rfl (x_loadEF (j := 0) (cs := [.string x126.Begin, .string x126.End, .int .u64 x126.Seq]) hst sc_9 rfl (hsh.row 0 rfl) (Same.refl _ _) hx126 rfl (fun _ h => h) rfl) ?_; intro a hst
              refine r_t hst trivial rfl (x_move hst rfl) ?_; intro a hst
              refine r_t hst trivial rfl (x_cmpS (b := sLt x126.Begin s_60) hst rfl rfl rfl) ?_; intro a hst
              refine wpList_nil ?_
              refine then_normal ?_
              by_cases c127 : (sLt x126.Begin s_60) = true
              · rw [if_pos c127] at H
                refine wp_condT hst rfl c127 ?_
                refine wp_region_lit ?_
                refine r_t hst trivial rfl (x_move hst rfl) ?_; intro a hst
                refine r_t hst trivial rfl (x_move hst rfl) ?_; intro a hst
                obtain ⟨x128, hx128, H⟩ := Option.bind_eq_some_iff.1 H
                refine r_t hst trivial rfl (x_indexAddr hst Tryd.underlying22 el_28 rfl rfl (hsh.row 0 rfl) hx128) ?_; intro a hst
                refine r_t hst trivial rfl (x_fieldAddrE (n' := Int.toNat i_62 * k_Tomb.sz) hst fa_28_0 rfl rfl) ?_; intro a hst
                refine r_t hst trivial rfl (x_loadEF (j := 0) (cs := [.string x128.Begin, .string x128.End, .int .u64 x128.Seq]) hst sc_9 rfl (hsh.row 0 rfl) (Same.refl _ _) hx128 rfl (fun _ h => h) rfl) ?_; intro a hst
                refine r_t hst trivial rfl (x_assign hst rfl) ?_; intro a hst
                refine wpList_nil ?_
                refine then_normal ?_
                exact ⟨x128.Begin, H, hst.keep _ ⟨rfl, rfl, rfl, rfl, rfl, rfl, rfl, trivial⟩, hsh.pick [0]⟩
              · rw [if_neg c127] at H
                replace c127 := Bool.eq_false_iff.2 c127
                refine wp_condF hst rfl c127 ?_
                refine wp_skip ?_
                refine then_normal ?_
                exact ⟨s_60, H, hst.keep _ ⟨rfl, rfl, rfl, rfl, rfl, rfl, rfl, trivial⟩, hsh.pick [0]⟩
        · rw [if_neg c110] at H
          replace c110 := Bool.eq_false_iff.2 c110
          refine wp_condF hst rfl c110 ?_
          refine wp_exit ?_
          refine then_exit ?_
          refine then_exit ?_
          refine block_hit ?_
          refine then_normal ?_
          refine wp_seq ?_
          refine wp_region_lit ?_
          refine r_t hst trivial rfl (x_move hst rfl) ?_; intro a hst
          refine r_t hst trivial rfl (x_move hst rfl) ?_; intro a hst
          refine r_t hst trivial rfl (x_assign hst rfl) ?_; intro a hst
          refine r_t hst trivial rfl (x_assign hst rfl) ?_; intro a hst
          refine r_t hst trivial rfl (x_assign hst rfl) ?_; intro a hst
          refine wpList_nil ?_
          refine then_normal ?_
          refine wp_ret ?_
          obtain rfl := Option.some.inj H
          exact ret3 hst rfl rfl rfl rfl ⟨rfl, hsh.pick []⟩

set_option maxHeartbeats 4000000 in
set_option maxRecDepth 100000 in
theorem l09_TombCovers.calls (k : Nat) (w : World) (va0 : Value) (Za0 : Nat → Prop) (wra0 : World) (hsa0 : Same Za0 wra0 w) (a0 : (List Tomb)) (hra0 : RD k_Tomb Za0 wra0 va0 a0) (a1 : ByteArray) (a2 : Int) (ZG0 : Nat → Prop) (wrG0 : World) (tyG0 : Nat) (hsG0 : Same ZG0 wrG0 w) (hzG0 : ZG0 0) (hbG0 : wrG0.heap[0]? = some (.cells ([.string (ByteArray.mk #[109, 97, 114, 107]), .string (ByteArray.mk #[110, 97, 114, 107]), .int .u64 77] : List Value).toArray tyG0 (0, 0))) (r : Bool) (h : l09_TombCovers k a0 a1 a2 = some r) :
    Calls Tryd.prog 4 ([va0, .string a1, .int .u64 a2] : List Value).toArray w fun e w' => e = .returned (.bool r) ∧ SH (fun _ => False) w w' [] := by
  have H := h
  clear h
  unfold l09_TombCovers at H
  refine calls_enter Tryd.func4 rfl rfl ?_
  intro a hst
  have hsh := SH.zero (fun _ => False) w
  refine wp_seq ?_
  refine wp_region_lit ?_
  refine r_t hst trivial rfl (x_assign hst rfl) ?_; intro a hst
  refine wpList_nil ?_
  refine then_normal ?_
  refine wp_seq ?_
  refine wp_region_lit ?_
  refine r_t hst trivial rfl (x_move hst rfl) ?_; intro a hst
  obtain ⟨r1, hr1, H⟩ := Option.bind_eq_some_iff.1 H
  refine r_callD hst trivial rfl fn_7 rfl (l09_lent.calls _ _ _ _ (Same.sh0 hsa0 hsh) _ hra0 _ _ _ (Same.sh0 hsG0 hsh) hzG0 hbG0 r1 hr1) ?_
  rintro e w2 ⟨v3, rfl, hc⟩
  replace hsh := hsh.call0 hc
  clear hc
  refine ⟨_, rfl, fun a hst => ?_⟩
  refine r_t hst trivial rfl (x_assign hst rfl) ?_; intro a hst
  refine wpList_nil ?_
  refine then_normal ?_
  refine wp_seq ?_
  refine wp_region_lit ?_
  refine r_t hst trivial rfl (x_move hst rfl) ?_; intro a hst
  refine r_t hst trivial rfl (x_move hst rfl) ?_; intro a hst
  refine r_t hst trivial rfl (x_move hst rfl) ?_; intro a hst
  obtain ⟨r5, hr5, H⟩ := Option.bind_eq_some_iff.1 H
  refine r_callD hst trivial rfl fn_13 rfl (tomb_Cover.calls k _ _ _ _ (Same.refl _ _) _ ((hsh.lent 0 rfl).rd (by decide)) a1 a2 r5 hr5) ?_
  rintro e w6 ⟨rfl, hc⟩
  replace hsh := hsh.call0 hc
  clear hc
  refine ⟨_, rfl, fun a hst => ?_⟩
  refine r_t hst trivial rfl (x_move hst rfl) ?_; intro a hst
  refine r_t hst trivial rfl (x_extract hst rfl rfl) ?_; intro a hst
  refine r_t hst trivial rfl (x_extract hst rfl rfl) ?_; intro a hst
  refine r_t hst trivial rfl (x_assign hst rfl) ?_; intro a hst
  refine r_t hst trivial rfl (x_assign hst rfl) ?_; intro a hst
  refine wpList_nil ?_
  refine then_normal ?_
  refine wp_seq ?_
  refine wp_region_lit ?_
  refine r_t hst trivial rfl (x_move hst rfl) ?_; intro a hst
  refine r_t hst trivial rfl (x_move hst rfl) ?_; intro a hst
  refine r_t hst trivial rfl (x_move hst rfl) ?_; intro a hst
  obtain ⟨r7, hr7, H⟩ := Option.bind_eq_some_iff.1 H
  refine r_callD hst trivial rfl fn_14 rfl (r09_Cover.calls k _ _ _ _ (Same.sh0 hsa0 hsh) _ hra0 a1 a2 r7 hr7) ?_
  rintro e w8 ⟨rfl, hc⟩
  replace hsh := hsh.call0 hc
  clear hc
  refine ⟨_, rfl, fun a hst => ?_⟩
  refine r_t hst trivial rfl (x_move hst rfl) ?_; intro a hst
  refine r_t hst trivial rfl (x_extract hst rfl rfl) ?_; intro a hst
  refine r_t hst trivial rfl (x_extract hst rfl rfl) ?_; intro a hst
  refine r_t hst trivial rfl (x_assign hst rfl) ?_; intro a hst
  refine r_t hst trivial rfl (x_assign hst rfl) ?_; intro a hst
  refine wpList_nil ?_
  refine then_normal ?_
  refine wp_seq ?_
  refine wp_seq ?_
  refine wp_region_lit ?_
  refine r_t hst trivial rfl (x_move hst rfl) ?_; intro a hst
  refine r_t hst trivial rfl (x_move hst rfl) ?_; intro a hst
  refine r_t hst trivial rfl (x_cmpI (b := (r5.1 != r7.1)) hst rfl rfl rfl) ?_; intro a hst
  refine r_t hst trivial rfl (x_move hst rfl) ?_; intro a hst
  refine wl_join0 (N := Tryd.f4.ntmps) 8 [(0, va0), (6, .bool false), (7, v3), (39, .bool ((r5.1 != r7.1) || (!(r5.2 == r7.2))))] ?_ ?_
  · intro a hst
    refine wpList_nil ?_
    refine then_normal ?_
    by_cases c12 : ((r5.1 != r7.1) || (!(r5.2 == r7.2))) = true
    · rw [if_pos c12] at H
      refine wp_condT hst rfl c12 ?_
      refine wp_seq ?_
      refine wp_region_lit ?_
      refine r_t hst trivial rfl (x_assign hst rfl) ?_; intro a hst
      refine wpList_nil ?_
      refine then_normal ?_
      refine wp_ret ?_
      refine then_ret ?_
      obtain rfl := Option.some.inj H
      exact ret1 hst rfl rfl ⟨rfl, hsh.pick []⟩
    · rw [if_neg c12] at H
      replace c12 := Bool.eq_false_iff.2 c12
      refine wp_condF hst rfl c12 ?_
      refine wp_skip ?_
      refine then_normal ?_
      refine wp_seq ?_
      refine wp_region_lit ?_
      refine r_t hst trivial rfl (x_move hst rfl) ?_; intro a hst
      obtain ⟨r13, hr13, H⟩ := Option.bind_eq_some_iff.1 H
      refine r_callD hst trivial rfl fn_15 rfl (tomb_Span.calls k _ _ _ _ (Same.refl _ _) _ ((hsh.lent 0 rfl).rd (by decide)) r13 hr13) ?_
      rintro e w14 ⟨rfl, hc⟩
      replace hsh := hsh.call0 hc
      clear hc
      refine ⟨_, rfl, fun a hst => ?_⟩
      refine r_t hst trivial rfl (x_move hst rfl) ?_; intro a hst
      refine r_t hst trivial rfl (x_extract hst rfl rfl) ?_; intro a hst
      refine r_t hst trivial rfl (x_extract hst rfl rfl) ?_; intro a hst
      refine r_t hst trivial rfl (x_extract hst rfl rfl) ?_; intro a hst
      refine r_t hst trivial rfl (x_assign hst rfl) ?_; intro a hst
      refine r_t hst trivial rfl (x_assign hst rfl) ?_; intro a hst
      refine r_t hst trivial rfl (x_assign hst rfl) ?_; intro a hst
      refine wpList_nil ?_
      refine then_normal ?_
      refine wp_seq ?_
      refine wp_region_lit ?_
      refine r_t hst trivial rfl (x_move hst rfl) ?_; intro a hst
      obtain ⟨r15, hr15, H⟩ := Option.bind_eq_some_iff.1 H
      refine r_callD hst trivial rfl fn_16 rfl (r09_Span.calls k _ _ _ _ (Same.sh0 hsa0 hsh) _ hra0 r15 hr15) ?_
      rintro e w16 ⟨rfl, hc⟩
      replace hsh := hsh.call0 hc
      clear hc
      refine ⟨_, rfl, fun a hst => ?_⟩
      refine r_t hst trivial rfl (x_move hst rfl) ?_; intro a hst
      refine r_t hst trivial rfl (x_extract hst rfl rfl) ?_; intro a hst
      refine r_t hst trivial rfl (x_extract hst rfl rfl) ?_; intro a hst
      refine r_t hst trivial rfl (x_extract hst rfl rfl) ?_; intro a hst
      refine r_t hst trivial rfl (x_assign hst rfl) ?_; intro a hst
      refine r_t hst trivial rfl (x_assign hst rfl) ?_; intro a hst
      refine r_t hst trivial rfl (x_assign hst rfl) ?_; intro a hst
      refine wpList_nil ?_
      refine then_normal ?_
      refine wp_seq ?_
      refine wp_region_lit ?_
      refine r_t hst trivial rfl (x_move hst rfl) ?_; intro a hst
      refine r_t hst trivial rfl (x_move hst rfl) ?_; intro a hst
      refine r_t hst trivial rfl (x_cmpS (b := sEq r13.1 r15.1) hst rfl rfl rfl) ?_; intro a hst
      refine r_t hst trivial rfl (x_move hst rfl) ?_; intro a hst
      refine wl_join0 (N := Tryd.f4.ntmps) 8 [(0, va0), (6, .bool false), (7, v3), (9, .bool r13.2.2), (11, .bool r15.2.2), (59, .bool ((sEq r13.1 r15.1) && (sEq r13.2.1 r15.2.1)))] ?_ ?_
      · intro a hst
        refine r_t hst trivial rfl (x_move hst rfl) ?_; intro a hst
        refine wl_join0 (N := Tryd.f4.ntmps) 13 [(0, va0), (6, .bool false), (7, v3), (64, .bool (((sEq r13.1 r15.1) && (sEq r13.2.1 r15.2.1)) && (r13.2.2 == r15.2.2)))] ?_ ?_
        · intro a hst
          refine r_t hst trivial rfl (x_move hst rfl) ?_; intro a hst
          obtain ⟨J_2, hJ_2, H⟩ := Jn.elim H
          refine wl_join 18 (fun a w' => ∃ (b_1 : Bool), J_2 b_1 = some r ∧ ST Tryd.f4.ntmps a [(6, .bool false), (69, .bool b_1)] ∧ SH (fun _ => False) w w' []) ?_ ?_
          · rintro a W_3 ⟨b_1, H, hst, hsh⟩
            subst hJ_2
            dsimp only at H
            refine r_t hst trivial rfl (x_move hst rfl) ?_; intro a hst
            obtain ⟨J_5, hJ_5, H⟩ := Jn.elim H
            refine wl_join 21 (fun a w' => ∃ (b_4 : Bool), J_5 b_4 = some r ∧ ST Tryd.f4.ntmps a [(6, .bool false), (72, .bool b_4)] ∧ SH (fun _ => False) w w' []) ?_ ?_
            · rintro a W_6 ⟨b_4, H, hst, hsh⟩
              subst hJ_5
              dsimp only at H
              refine r_t hst trivial rfl (x_assign hst rfl) ?_; intro a hst
              refine wpList_nil ?_
              refine then_normal ?_
              refine wp_ret ?_
              obtain rfl := Option.some.inj H
              exact ret1 hst rfl rfl ⟨rfl, hsh.pick []⟩
            · intro hj
              by_cases c22 : b_1 = true
              · rw [if_pos c22] at H
                obtain ⟨r25, hr25, H⟩ := Option.bind_eq_some_iff.1 H
                refine r_callD hst (wt_of 70 rfl rfl c22) rfl fn_12 rfl (l09_names.calls _ r25 hr25) ?_
                rintro e w26 ⟨rfl, hc⟩
                replace hsh := hsh.call0 hc
                clear hc
                refine ⟨_, rfl, fun a hst => ?_⟩
                refine r_t hst trivial rfl (x_pickT hst rfl c22 rfl) ?_; intro a hst
                exact hj _ _ ⟨r25, H, hst.keep _ ⟨rfl, rfl, trivial⟩, hsh.pick []⟩
              · rw [if_neg c22] at H
                replace c22 := Bool.eq_false_iff.2 c22
                refine r_not hst 70 rfl rfl c22 rfl ?_; intro a hst
                refine r_t hst trivial rfl (x_pickF hst rfl c22 rfl) ?_; intro a hst
                exact hj _ _ ⟨false, H, hst.keep _ ⟨rfl, rfl, trivial⟩, hsh.pick []⟩
          · intro hj
            by_cases c19 : (((sEq r13.1 r15.1) && (sEq r13.2.1 r15.2.1)) && (r13.2.2 == r15.2.2)) = true
            · rw [if_pos c19] at H
              refine r_t hst (wt_of 65 rfl rfl c19) rfl (x_move hst rfl) ?_; intro a hst
              refine r_t hst (wt_of 65 rfl rfl c19) rfl (x_move hst rfl) ?_; intro a hst
              obtain ⟨r27, hr27, H⟩ := Option.bind_eq_some_iff.1 H
              refine r_callD hst (wt_of 65 rfl rfl c19) rfl fn_11 rfl (l09_kept.calls k _ _ _ _ (Same.refl _ _) _ _ (hsh.lent 0 rfl) _ _ _ (Same.sh0 hsa0 hsh) _ hra0 _ _ _ (Same.sh0 hsG0 hsh) hzG0 hbG0 r27 hr27) ?_
              rintro e w28 ⟨rfl, hc⟩
              replace hsh := hsh.call0 hc
              clear hc
              refine ⟨_, rfl, fun a hst => ?_⟩
              refine r_t hst trivial rfl (x_pickT hst rfl c19 rfl) ?_; intro a hst
              exact hj _ _ ⟨r27, H, hst.keep _ ⟨rfl, rfl, trivial⟩, hsh.pick []⟩
            · rw [if_neg c19] at H
              replace c19 := Bool.eq_false_iff.2 c19
              refine r_not hst 65 rfl rfl c19 rfl ?_; intro a hst
              refine r_not hst 65 rfl rfl c19 rfl ?_; intro a hst
              refine r_not hst 65 rfl rfl c19 rfl ?_; intro a hst
              refine r_t hst trivial rfl (x_pickF hst rfl c19 rfl) ?_; intro a hst
              exact hj _ _ ⟨false, H, hst.keep _ ⟨rfl, rfl, trivial⟩, hsh.pick []⟩
        · intro hj
          by_cases c18 : ((sEq r13.1 r15.1) && (sEq r13.2.1 r15.2.1)) = true
          · refine r_t hst (wt_of 60 rfl rfl c18) rfl (x_move hst rfl) ?_; intro a hst
            refine r_t hst (wt_of 60 rfl rfl c18) rfl (x_move hst rfl) ?_; intro a hst
            refine r_t hst (wt_of 60 rfl rfl c18) rfl (x_eqB (b := (r13.2.2 == r15.2.2)) hst Tryd.underlying4 rfl rfl rfl) ?_; intro a hst
            refine r_t hst trivial rfl (x_andT hst rfl c18 rfl) ?_; intro a hst
            exact hj _ (hst.keep _ ⟨rfl, rfl, rfl, rfl, trivial⟩)
          · replace c18 := Bool.eq_false_iff.2 c18
            refine r_not hst 60 rfl rfl c18 rfl ?_; intro a hst
            refine r_not hst 60 rfl rfl c18 rfl ?_; intro a hst
            refine r_not hst 60 rfl rfl c18 rfl ?_; intro a hst
            refine r_t hst trivial rfl (x_andF (r13.2.2 == r15.2.2) hst rfl c18 rfl) ?_; intro a hst
            exact hj _ (hst.keep _ ⟨rfl, rfl, rfl, rfl, trivial⟩)
      · intro hj
        by_cases c17 : (sEq r13.1 r15.1) = true
        · refine r_t hst (wt_of 55 rfl rfl c17) rfl (x_move hst rfl) ?_; intro a hst
          refine r_t hst (wt_of 55 rfl rfl c17) rfl (x_move hst rfl) ?_; intro a hst
          refine r_t hst (wt_of 55 rfl rfl c17) rfl (x_cmpS (b := sEq r13.2.1 r15.2.1) hst rfl rfl rfl) ?_; intro a hst
          refine r_t hst trivial rfl (x_andT hst rfl c17 rfl) ?_; intro a hst
          exact hj _ (hst.keep _ ⟨rfl, rfl, rfl, rfl, rfl, rfl, trivial⟩)
        · replace c17 := Bool.eq_false_iff.2 c17
          refine r_not hst 55 rfl rfl c17 rfl ?_; intro a hst
          refine r_not hst 55 rfl rfl c17 rfl ?_; intro a hst
          refine r_not hst 55 rfl rfl c17 rfl ?_; intro a hst
          refine r_t hst trivial rfl (x_andF (sEq r13.2.1 r15.2.1) hst rfl c17 rfl) ?_; intro a hst
          exact hj _ (hst.keep _ ⟨rfl, rfl, rfl, rfl, rfl, rfl, trivial⟩)
  · intro hj
    by_cases c11 : (r5.1 != r7.1) = true
    · refine r_not hst 35 rfl rfl c11 rfl ?_; intro a hst
      refine r_not hst 35 rfl rfl c11 rfl ?_; intro a hst
      refine r_not hst 35 rfl rfl c11 rfl ?_; intro a hst
      refine r_t hst trivial rfl (x_orT (!(r5.2 == r7.2)) hst rfl c11 rfl) ?_; intro a hst
      exact hj _ (hst.keep _ ⟨rfl, rfl, rfl, rfl, trivial⟩)
    · replace c11 := Bool.eq_false_iff.2 c11
      refine r_t hst (wt_of 35 rfl rfl c11) rfl (x_move hst rfl) ?_; intro a hst
      refine r_t hst (wt_of 35 rfl rfl c11) rfl (x_move hst rfl) ?_; intro a hst
      refine r_t hst (wt_of 35 rfl rfl c11) rfl (x_eqB (b := (!(r5.2 == r7.2))) hst Tryd.underlying4 rfl rfl rfl) ?_; intro a hst
      refine r_t hst trivial rfl (x_orF hst rfl c11 rfl) ?_; intro a hst
      exact hj _ (hst.keep _ ⟨rfl, rfl, rfl, rfl, trivial⟩)
end Go.Proofs.YtmbhgfigffahbaaDoor.Mo
