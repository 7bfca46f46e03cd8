/- Printed by gen.py: structures, and the plain twins of Go functions. -/
import Derived.Test.YtmbhgfigffahbaaDoorSyMap
set_option linter.unusedVariables false
set_option linter.unusedSimpArgs false
set_option maxRecDepth 100000
namespace Go.Proofs.YtmbhgfigffahbaaDoor.Mo
open Go Go.Proofs.YtmbhgfigffahbaaDoor.Sy
structure Tomb where
  Begin : ByteArray
  End : ByteArray
  Seq : Int

def Tomb.enc (x : Tomb) : List _root_.Go.Value := [.string x.Begin, .string x.End, .int .u64 x.Seq]

def Tomb.eqb (x y : Tomb) : Bool := sEq x.Begin y.Begin && (sEq x.End y.End && ((x.Seq == y.Seq) && (true)))

def l09_lent (a0 : (List Tomb)) : Option ((List Tomb) × (List Tomb)) := Jn (fun (l_3 : (List Tomb)) (l_4 : (List Tomb)) => some (l_3, l_4)) (fun J_6 => (pushN 5629499534059 ([]) a0).bind fun l55 => (push 5629499534059 l55 (⟨(ByteArray.mk #[109, 97, 114, 107]), (ByteArray.mk #[110, 97, 114, 107]), 77⟩ : Tomb)).bind fun l62 => (cut l62 0 (a0.length : Int)).bind fun l65 => J_6 l65 (List.drop (Int.toNat (a0.length : Int)) l62))

def tomb_Valid (a0 : Tomb) : Option Bool := some (((((!sEq a0.Begin (ByteArray.mk #[])) && (decide ((a0.Begin.size : Int) ≤ 1024))) && (decide ((a0.End.size : Int) ≤ 1025))) && (sLt a0.Begin a0.End)) && (decide (a0.Seq ≤ 72057594037927935)))

def tomb_valid.l0 (a0 : (List Tomb)) : Nat → (List Tomb) → Int → Option (List Tomb)
  | 0, _, _ => none
  | k_56 + 1, l_44, i_45 => if (decide (i_45 < (a0.length : Int))) = true then (Jn (fun (l_58 : (List Tomb)) => tomb_valid.l0 a0 k_56 l_58 (w64 (i_45 + 1))) (fun J_60 => (idx a0 i_45).bind fun x152 => (tomb_Valid x152).bind fun r156 => if r156 = true then ((push 5629499534059 l_44 x152).bind fun l161 => J_60 l161) else (J_60 l_44))) else (some l_44)

def tomb_valid (k : Nat) (a0 : (List Tomb)) : Option (List Tomb) := tomb_valid.l0 a0 k ([]) 0

def tomb_Cut.l0 (a1 : ByteArray) (a2 : ByteArray) (r105 : (List Tomb)) : Nat → (List Tomb) → Int → Option (List Tomb)
  | 0, _, _ => none
  | k_86 + 1, l_68, i_69 => if (decide (i_69 < (r105.length : Int))) = true then (Jn (fun (l_91 : (List Tomb)) => tomb_Cut.l0 a1 a2 r105 k_86 l_91 (w64 (i_69 + 1))) (fun J_93 => (idx r105 i_69).bind fun x193 => Jn (fun (s_94 : ByteArray) => if (sLt (maxS x193.Begin a1) s_94) = true then ((push 5629499534059 l_68 (⟨maxS x193.Begin a1, s_94, x193.Seq⟩ : Tomb)).bind fun l203 => J_93 l203) else (J_93 l_68)) (fun J_96 => if (!sEq a2 (ByteArray.mk #[])) = true then (J_96 (minS x193.End a2)) else (J_96 x193.End)))) else (some l_68)

def tomb_Cut (k : Nat) (a0 : (List Tomb)) (a1 : ByteArray) (a2 : ByteArray) : Option (List Tomb) := (tomb_valid k a0).bind fun r105 => tomb_Cut.l0 a1 a2 r105 k ([]) 0

def r09_Valid (a0 : Tomb) : Option Bool := some (((((decide (1 ≤ (a0.Begin.size : Int))) && (decide ((a0.Begin.size : Int) ≤ 1024))) && (decide ((a0.End.size : Int) ≤ 1025))) && (sLt a0.Begin a0.End)) && (decide (a0.Seq ≤ 72057594037927935)))

def r09_Cut.l0 (a0 : (List Tomb)) (a1 : ByteArray) (a2 : ByteArray) : Nat → (List Tomb) → Int → Option (List Tomb)
  | 0, _, _ => none
  | k_116 + 1, l_92, i_93 => if (decide (i_93 < (a0.length : Int))) = true then (Jn (fun (l_124 : (List Tomb)) => r09_Cut.l0 a0 a1 a2 k_116 l_124 (w64 (i_93 + 1))) (fun J_126 => (idx a0 i_93).bind fun x308 => (r09_Valid x308).bind fun r315 => if (!r315) = true then (J_126 l_92) else (Jn (fun (s_127 : ByteArray) => Jn (fun (s_130 : ByteArray) => if (sLt s_127 s_130) = true then ((push 5629499534059 l_92 (⟨s_127, s_130, x308.Seq⟩ : Tomb)).bind fun l326 => J_126 l326) else (J_126 l_92)) (fun J_132 => if ((!sEq a2 (ByteArray.mk #[])) && (sLt a2 x308.End)) = true then (J_132 a2) else (J_132 x308.End))) (fun J_129 => if (!(sLt a1 x308.Begin || sEq a1 x308.Begin)) = true then (J_129 a1) else (J_129 x308.Begin))))) else (some l_92)

def r09_Cut (k : Nat) (a0 : (List Tomb)) (a1 : ByteArray) (a2 : ByteArray) : Option (List Tomb) := r09_Cut.l0 a0 a1 a2 k ([]) 0

def l09_same.l0 (a0 : (List Tomb)) (a1 : (List Tomb)) : Nat → Int → Option Bool
  | 0, _ => none
  | k_16 + 1, i_12 => if (decide (i_12 < (a0.length : Int))) = true then ((idx a0 i_12).bind fun x59 => (idx a1 i_12).bind fun x60 => if (!Tomb.eqb x59 x60) = true then (some false) else (l09_same.l0 a0 a1 k_16 (w64 (i_12 + 1)))) else (some true)

def l09_same (k : Nat) (a0 : (List Tomb)) (a1 : (List Tomb)) : Option Bool := if ((a0.length : Int) != (a1.length : Int)) = true then (some false) else (l09_same.l0 a0 a1 k 0)

def l09_kept (k : Nat) (a0 : (List Tomb)) (sa0 : (List Tomb)) (a1 : (List Tomb)) : Option Bool := (l09_same k a0 a1).bind fun r1 => Jn (fun (b_1 : Bool) => some b_1) (fun J_2 => if r1 = true then ((cut (a0 ++ sa0) 0 (w64 ((a1.length : Int) + 1))).bind fun l7 => (idx l7 (a1.length : Int)).bind fun x8 => J_2 (Tomb.eqb x8 (⟨(ByteArray.mk #[109, 97, 114, 107]), (ByteArray.mk #[110, 97, 114, 107]), 77⟩ : Tomb))) else (J_2 false))

def l09_names : Option Bool := some true

def l09_TombCuts.l0 (a0 : (List Tomb)) (r1 : ((List Tomb) × (List Tomb))) (r9 : (List Tomb)) (r13 : (List Tomb)) : Nat → (List Tomb) → Int → Option Bool
  | 0, _, _ => none
  | k_22 + 1, l_16, i_17 => if (decide (i_17 < (l_16.length : Int))) = true then ((idx l_16 i_17).bind fun x68 => (upd l_16 i_17 (⟨(ByteArray.mk #[109, 97, 114, 107]), (ByteArray.mk #[110, 97, 114, 107]), 77⟩ : Tomb)).bind fun l69 => l09_TombCuts.l0 a0 r1 r9 r13 k_22 l69 (w64 (i_17 + 1))) else ((l09_same k_22 r9 r13).bind fun r71 => Jn (fun (b_23 : Bool) => Jn (fun (b_26 : Bool) => some b_26) (fun J_27 => if b_23 = true then ((l09_names).bind fun r79 => J_27 r79) else (J_27 false))) (fun J_24 => if r71 = true then ((l09_kept k_22 r1.1 r1.2 a0).bind fun r81 => J_24 r81) else (J_24 false)))

def l09_TombCuts (k : Nat) (a0 : (List Tomb)) (a1 : ByteArray) (a2 : ByteArray) : Option Bool := (l09_lent a0).bind fun r1 => (tomb_Cut k r1.1 a1 a2).bind fun r5 => (tomb_Cut k r1.1 a1 a2).bind fun r9 => (r09_Cut k a0 a1 a2).bind fun r13 => (l09_same k r5 r13).bind fun r20 => if (!r20) = true then (some false) else (l09_TombCuts.l0 a0 r1 r9 r13 k r5 0)

def tomb_Cover.l0 (a0 : (List Tomb)) (a1 : ByteArray) (a2 : Int) : Nat → Int → Bool → Int → Option (Int × Bool)
  | 0, _, _, _ => none
  | k_48 + 1, i_36, b_37, i_38 => if (decide (i_38 < (a0.length : Int))) = true then (Jn (fun (i_49 : Int) (b_50 : Bool) => tomb_Cover.l0 a0 a1 a2 k_48 i_49 b_50 (w64 (i_38 + 1))) (fun J_52 => (idx a0 i_38).bind fun x123 => (tomb_Valid x123).bind fun r127 => if (((r127 && (decide (x123.Seq ≤ a2))) && (sLt x123.Begin a1 || sEq x123.Begin a1)) && (sLt a1 x123.End)) = true then (J_52 (maxI i_36 x123.Seq) true) else (J_52 i_36 b_37))) else (some (i_36, b_37))

def tomb_Cover (k : Nat) (a0 : (List Tomb)) (a1 : ByteArray) (a2 : Int) : Option (Int × Bool) := tomb_Cover.l0 a0 a1 a2 k 0 false 0

def r09_covers (a0 : Tomb) (a1 : ByteArray) : Option Bool := some ((sLt a0.Begin a1 || sEq a0.Begin a1) && (sLt a1 a0.End))

def r09_Cover.l0 (a0 : (List Tomb)) (a1 : ByteArray) (a2 : Int) : Nat → Int → Bool → Int → Option (Int × Bool)
  | 0, _, _, _ => none
  | k_228 + 1, i_180, b_181, i_182 => if (decide (i_182 < (a0.length : Int))) = true then (Jn (fun (i_247 : Int) (b_248 : Bool) => r09_Cover.l0 a0 a1 a2 k_228 i_247 b_248 (w64 (i_182 + 1))) (fun J_250 => (idx a0 i_182).bind fun x255 => (r09_Valid x255).bind fun r256 => Jn (fun (b_251 : Bool) => Jn (fun (b_254 : Bool) => Jn (fun (b_260 : Bool) => if b_260 = true then ((idx a0 i_182).bind fun x269 => J_250 x269.Seq true) else (J_250 i_180 b_181)) (fun J_261 => if b_254 = true then (Jn (fun (b_266 : Bool) => J_261 b_266) (fun J_267 => if (!b_181) = true then (J_267 true) else ((idx a0 i_182).bind fun x272 => J_267 (decide (i_180 < x272.Seq))))) else (J_261 false))) (fun J_255 => if b_251 = true then ((idx a0 i_182).bind fun x273 => J_255 (decide (x273.Seq ≤ a2))) else (J_255 false))) (fun J_252 => if r256 = true then ((idx a0 i_182).bind fun x274 => (r09_covers x274 a1).bind fun r275 => J_252 r275) else (J_252 false)))) else (some (i_180, b_181))

def r09_Cover (k : Nat) (a0 : (List Tomb)) (a1 : ByteArray) (a2 : Int) : Option (Int × Bool) := r09_Cover.l0 a0 a1 a2 k 0 false 0

def tomb_Span.l0 (r65 : (List Tomb)) : Nat → ByteArray → ByteArray → Bool → Int → Option (ByteArray × ByteArray × Bool)
  | 0, _, _, _, _ => none
  | k_84 + 1, s_64, s_65, b_66, i_67 => if (decide (i_67 < (r65.length : Int))) = true then ((idx r65 i_67).bind fun x120 => Jn (fun (s_90 : ByteArray) (s_91 : ByteArray) (b_92 : Bool) => tomb_Span.l0 r65 k_84 (minS s_90 x120.Begin) (maxS s_91 x120.End) b_92 (w64 (i_67 + 1))) (fun J_94 => if (!b_66) = true then (J_94 x120.Begin x120.End true) else (J_94 s_64 s_65 b_66))) else (some (s_64, s_65, b_66))

def tomb_Span (k : Nat) (a0 : (List Tomb)) : Option (ByteArray × ByteArray × Bool) := (tomb_valid k a0).bind fun r65 => tomb_Span.l0 r65 k (ByteArray.mk #[]) (ByteArray.mk #[]) false 0

def r09_All.l0 (a0 : (List Tomb)) : Nat → (List Tomb) → Int → Option (List Tomb)
  | 0, _, _ => none
  | k_56 + 1, l_44, i_45 => if (decide (i_45 < (a0.length : Int))) = true then (Jn (fun (l_58 : (List Tomb)) => r09_All.l0 a0 k_56 l_58 (w64 (i_45 + 1))) (fun J_60 => (idx a0 i_45).bind fun x130 => (r09_Valid x130).bind fun r131 => if r131 = true then ((idx a0 i_45).bind fun x134 => (push 5629499534059 l_44 x134).bind fun l137 => J_60 l137) else (J_60 l_44))) else (some l_44)

def r09_All (k : Nat) (a0 : (List Tomb)) : Option (List Tomb) := r09_All.l0 a0 k ([]) 0

def r09_Span.l0 (r1 : (List Tomb)) : Nat → ByteArray → ByteArray → Int → Option (ByteArray × ByteArray × Bool)
  | 0, _, _, _ => none
  | k_78 + 1, s_60, s_61, i_62 => if (decide (i_62 < (r1.length : Int))) = true then (Jn (fun (s_82 : ByteArray) (s_83 : ByteArray) => r09_Span.l0 r1 k_78 s_82 s_83 (w64 (i_62 + 1))) (fun J_85 => Jn (fun (s_86 : ByteArray) => (idx r1 i_62).bind fun x123 => if (!(sLt x123.End s_61 || sEq x123.End s_61)) = true then ((idx r1 i_62).bind fun x125 => J_85 s_86 x125.End) else (J_85 s_86 s_61)) (fun J_88 => (idx r1 i_62).bind fun x126 => if (sLt x126.Begin s_60) = true then ((idx r1 i_62).bind fun x128 => J_88 x128.Begin) else (J_88 s_60)))) else (some (s_60, s_61, true))

def r09_Span (k : Nat) (a0 : (List Tomb)) : Option (ByteArray × ByteArray × Bool) := (r09_All k a0).bind fun r1 => if ((r1.length : Int) == 0) = true then (some ((ByteArray.mk #[]), (ByteArray.mk #[]), false)) else ((idx r1 0).bind fun x7 => (idx r1 0).bind fun x8 => r09_Span.l0 r1 k x7.Begin x8.End 1)

def l09_TombCovers (k : Nat) (a0 : (List Tomb)) (a1 : ByteArray) (a2 : Int) : Option Bool := (l09_lent a0).bind fun r1 => (tomb_Cover k r1.1 a1 a2).bind fun r5 => (r09_Cover k a0 a1 a2).bind fun r7 => if ((r5.1 != r7.1) || (!(r5.2 == r7.2))) = true then (some false) else ((tomb_Span k r1.1).bind fun r13 => (r09_Span k a0).bind fun r15 => Jn (fun (b_1 : Bool) => Jn (fun (b_4 : Bool) => some b_4) (fun J_5 => if b_1 = true then ((l09_names).bind fun r25 => J_5 r25) else (J_5 false))) (fun J_2 => if (((sEq r13.1 r15.1) && (sEq r13.2.1 r15.2.1)) && (r13.2.2 == r15.2.2)) = true then ((l09_kept k r1.1 r1.2 a0).bind fun r27 => J_2 r27) else (J_2 false)))
end Go.Proofs.YtmbhgfigffahbaaDoor.Mo
