import Derived.Test.YtknedifgapgmbaaSyWnd
set_option linter.unusedVariables false
set_option linter.unusedSectionVars false
set_option linter.unusedSimpArgs false
set_option maxRecDepth 100000
namespace Go.Proofs.Ytknedifgapgmbaa.Mo
open Go Go.Proofs.Ytknedifgapgmbaa.Sy
structure Entry where
  Key : ByteArray
  Seq : Int
  Kind : Int
  Value : ByteArray
def Entry.enc (x : Entry) : List _root_.Go.Value := [.string x.Key, .int .u64 x.Seq, .int .i64 x.Kind, .string x.Value]
def Entry.eqb (x y : Entry) : Bool := sEq x.Key y.Key && ((x.Seq == y.Seq) && ((x.Kind == y.Kind) && (sEq x.Value y.Value && (true))))
structure IKey where
  Key : ByteArray
  Seq : Int
  Kind : Int
def IKey.enc (x : IKey) : List _root_.Go.Value := [.string x.Key, .int .u64 x.Seq, .int .i64 x.Kind]
def IKey.eqb (x y : IKey) : Bool := sEq x.Key y.Key && ((x.Seq == y.Seq) && ((x.Kind == y.Kind) && (true)))
structure R19_Item where
  Entry : Entry
  From : Int
def R19_Item.enc (x : R19_Item) : List _root_.Go.Value := [.string x.Entry.Key, .int .u64 x.Entry.Seq, .int .i64 x.Entry.Kind, .string x.Entry.Value, .int .i64 x.From]
def R19_Item.eqb (x y : R19_Item) : Bool := Entry.eqb x.Entry y.Entry && ((x.From == y.From) && (true))
structure L19_Move where
  Kind : Int
  Key : IKey
def L19_Move.enc (x : L19_Move) : List _root_.Go.Value := [.int .i64 x.Kind, .string x.Key.Key, .int .u64 x.Key.Seq, .int .i64 x.Key.Kind]
def L19_Move.eqb (x y : L19_Move) : Bool := (x.Kind == y.Kind) && (IKey.eqb x.Key y.Key && (true))
structure merge_head where
  e : Entry
  from_ : Int
def merge_head.enc (x : merge_head) : List _root_.Go.Value := [.string x.e.Key, .int .u64 x.e.Seq, .int .i64 x.e.Kind, .string x.e.Value, .int .i64 x.from_]
def merge_head.eqb (x y : merge_head) : Bool := Entry.eqb x.e y.e && ((x.from_ == y.from_) && (true))
def l19_lent.l0 (a0 : (List (List Entry))) : Nat → (List (List Entry)) → Int → Option (List (List Entry))
  | 0, _, _ => none
  | k_34 + 1, l_26, i_27 => if (decide (i_27 < (a0.length : Int))) = true then ((idx a0 i_27).bind fun x198 => (pushN 4691249611691 ([]) x198).bind fun l203 => (push 9382499223535 l_26 l203).bind fun l208 => l19_lent.l0 a0 k_34 l208 (w64 (i_27 + 1))) else (some l_26)
def l19_lent (k : Nat) (a0 : (List (List Entry))) : Option (List (List Entry)) := l19_lent.l0 a0 k ([]) 0
def slices_Grow_Entry_nil (a1 : Int) : Option (List Entry) := if (decide (a1 < 0)) = true then (none) else (Jn (fun (l_3 : (List Entry)) => some l_3) (fun J_5 => if (decide (0 < (w64 (a1 - (w64 (0 - 0)))))) = true then ((mkP 5864062014805 (w64 (a1 - (w64 (0 - 0)))) (⟨(ByteArray.mk #[]), 0, 0, (ByteArray.mk #[])⟩ : Entry)).bind fun l10 => (cut l10 0 0).bind fun l14 => J_5 l14) else (J_5 ([]))))
def slices_Concat_Entry.l1 (a0 : (List (List Entry))) (J_40 : (List Entry) → Option (List Entry)) : Nat → (List Entry) → Int → Option (List Entry)
  | 0, _, _ => none
  | k_54 + 1, l_47, i_48 => if (decide (i_48 < (a0.length : Int))) = true then ((idx a0 i_48).bind fun x189 => (pushN 4691249611691 l_47 x189).bind fun l194 => slices_Concat_Entry.l1 a0 J_40 k_54 l194 (w64 (i_48 + 1))) else (J_40 l_47)
def slices_Concat_Entry.l0 (a0 : (List (List Entry))) : Nat → Int → Int → Option (List Entry)
  | 0, _, _ => none
  | k_22 + 1, i_16, i_17 => if (decide (i_17 < (a0.length : Int))) = true then ((idx a0 i_17).bind fun x79 => if (decide ((w64 (i_16 + (x79.length : Int))) < 0)) = true then (none) else (slices_Concat_Entry.l0 a0 k_22 (w64 (i_16 + (x79.length : Int))) (w64 (i_17 + 1)))) else ((slices_Grow_Entry_nil i_16).bind fun r85 => Jn (fun (l_38 : (List Entry)) => some l_38) (fun J_40 => slices_Concat_Entry.l1 a0 J_40 k_22 r85 0))
def slices_Concat_Entry (k : Nat) (a0 : (List (List Entry))) : Option (List Entry) := slices_Concat_Entry.l0 a0 k 0 0
def slices_Clone_Entry (a0 : (List Entry)) : Option (List Entry) := (pushN 4691249611691 ([]) a0).bind fun l7 => some l7
def slices_insertionSortCmpFunc_Entry.l1 (a1 : Int) (a3 : (Entry → Entry → Option Int)) (J_166 : (List Entry) → Option (List Entry)) : Nat → (List Entry) → Int → Option (List Entry)
  | 0, _, _ => none
  | k_189 + 1, l_177, i_178 => Jn (fun (b_193 : Bool) => if b_193 = true then ((idx l_177 (w64 (i_178 - 1))).bind fun x787 => (idx l_177 i_178).bind fun x788 => (idx l_177 i_178).bind fun x789 => (upd l_177 i_178 x787).bind fun l791 => (idx l791 (w64 (i_178 - 1))).bind fun x793 => (upd l791 (w64 (i_178 - 1)) x788).bind fun l795 => slices_insertionSortCmpFunc_Entry.l1 a1 a3 J_166 k_189 l795 (w64 (i_178 - 1))) else (J_166 l_177)) (fun J_194 => if (decide (a1 < i_178)) = true then ((idx l_177 i_178).bind fun x798 => (idx l_177 (w64 (i_178 - 1))).bind fun x799 => (a3 x798 x799).bind fun r800 => J_194 (decide (r800 < 0))) else (J_194 false))
def slices_insertionSortCmpFunc_Entry.l0 (a1 : Int) (a2 : Int) (a3 : (Entry → Entry → Option Int)) : Nat → (List Entry) → Int → Option (List Entry)
  | 0, _, _ => none
  | k_134 + 1, l_67, i_68 => if (decide (i_68 < a2)) = true then (Jn (fun (l_164 : (List Entry)) => slices_insertionSortCmpFunc_Entry.l0 a1 a2 a3 k_134 l_164 (w64 (i_68 + 1))) (fun J_166 => slices_insertionSortCmpFunc_Entry.l1 a1 a3 J_166 k_134 l_67 i_68)) else (some l_67)
def slices_insertionSortCmpFunc_Entry (k : Nat) (a0 : (List Entry)) (a1 : Int) (a2 : Int) (a3 : (Entry → Entry → Option Int)) : Option (List Entry) := slices_insertionSortCmpFunc_Entry.l0 a1 a2 a3 k a0 (w64 (a1 + 1))
def slices_swapRangeCmpFunc_Entry.l0 (a1 : Int) (a2 : Int) (a3 : Int) : Nat → (List Entry) → Int → Option (List Entry)
  | 0, _, _ => none
  | k_11 + 1, l_5, i_6 => if (decide (i_6 < a3)) = true then ((idx l_5 (w64 (a2 + i_6))).bind fun x63 => (idx l_5 (w64 (a1 + i_6))).bind fun x64 => (idx l_5 (w64 (a1 + i_6))).bind fun x65 => (upd l_5 (w64 (a1 + i_6)) x63).bind fun l67 => (idx l67 (w64 (a2 + i_6))).bind fun x69 => (upd l67 (w64 (a2 + i_6)) x64).bind fun l71 => slices_swapRangeCmpFunc_Entry.l0 a1 a2 a3 k_11 l71 (w64 (i_6 + 1))) else (some l_5)
def slices_swapRangeCmpFunc_Entry (k : Nat) (a0 : (List Entry)) (a1 : Int) (a2 : Int) (a3 : Int) (a4 : (Entry → Entry → Option Int)) : Option (List Entry) := slices_swapRangeCmpFunc_Entry.l0 a1 a2 a3 k a0 0
def slices_rotateCmpFunc_Entry.l0 (a2 : Int) (a4 : (Entry → Entry → Option Int)) : Nat → (List Entry) → Int → Int → Option (List Entry)
  | 0, _, _, _ => none
  | k_32 + 1, l_24, i_25, i_26 => if (i_25 != i_26) = true then (if (decide (i_26 < i_25)) = true then ((slices_swapRangeCmpFunc_Entry k_32 l_24 (w64 (a2 - i_25)) a2 i_26 a4).bind fun r50 => slices_rotateCmpFunc_Entry.l0 a2 a4 k_32 r50 (w64 (i_25 - i_26)) i_26) else ((slices_swapRangeCmpFunc_Entry k_32 l_24 (w64 (a2 - i_25)) (w64 ((w64 (a2 + i_26)) - i_25)) i_25 a4).bind fun r53 => slices_rotateCmpFunc_Entry.l0 a2 a4 k_32 r53 i_25 (w64 (i_26 - i_25)))) else ((slices_swapRangeCmpFunc_Entry k_32 l_24 (w64 (a2 - i_25)) a2 i_25 a4).bind fun r56 => some r56)
def slices_rotateCmpFunc_Entry (k : Nat) (a0 : (List Entry)) (a1 : Int) (a2 : Int) (a3 : Int) (a4 : (Entry → Entry → Option Int)) : Option (List Entry) := slices_rotateCmpFunc_Entry.l0 a2 a4 k a0 (w64 (a2 - a1)) (w64 (a3 - a2))
def slices_symMergeCmpFunc_Entry.l4 (a0 : (List Entry)) (a1 : Int) (a4 : (Entry → Entry → Option Int)) (J_203 : Int → Option (List Entry)) : Nat → Int → Int → Option (List Entry)
  | 0, _, _ => none
  | k_239 + 1, i_233, i_234 => if (decide (i_233 < i_234)) = true then ((idx a0 (w64 ((wu64 (w64 (i_233 + i_234))) / 2 ^ (Int.toNat 1)))).bind fun x845 => (idx a0 a1).bind fun x846 => (a4 x845 x846).bind fun r847 => if (decide (r847 < 0)) = true then (slices_symMergeCmpFunc_Entry.l4 a0 a1 a4 J_203 k_239 (w64 ((w64 ((wu64 (w64 (i_233 + i_234))) / 2 ^ (Int.toNat 1))) + 1)) i_234) else (slices_symMergeCmpFunc_Entry.l4 a0 a1 a4 J_203 k_239 i_233 (w64 ((wu64 (w64 (i_233 + i_234))) / 2 ^ (Int.toNat 1))))) else (J_203 i_233)
def slices_symMergeCmpFunc_Entry.l3 (i_201 : Int) (J_217 : (List Entry) → Option (List Entry)) : Nat → (List Entry) → Int → Option (List Entry)
  | 0, _, _ => none
  | k_228 + 1, l_222, i_223 => if (decide (i_223 < (w64 (i_201 - 1)))) = true then ((idx l_222 (w64 (i_223 + 1))).bind fun x816 => (idx l_222 i_223).bind fun x817 => (idx l_222 i_223).bind fun x818 => (upd l_222 i_223 x816).bind fun l820 => (idx l820 (w64 (i_223 + 1))).bind fun x822 => (upd l820 (w64 (i_223 + 1)) x817).bind fun l824 => slices_symMergeCmpFunc_Entry.l3 i_201 J_217 k_228 l824 (w64 (i_223 + 1))) else (J_217 l_222)
def slices_symMergeCmpFunc_Entry.l2 (a0 : (List Entry)) (a2 : Int) (a4 : (Entry → Entry → Option Int)) (J_153 : Int → Option (List Entry)) : Nat → Int → Int → Option (List Entry)
  | 0, _, _ => none
  | k_189 + 1, i_183, i_184 => if (decide (i_183 < i_184)) = true then ((idx a0 a2).bind fun x652 => (idx a0 (w64 ((wu64 (w64 (i_183 + i_184))) / 2 ^ (Int.toNat 1)))).bind fun x653 => (a4 x652 x653).bind fun r654 => if (!(decide (r654 < 0))) = true then (slices_symMergeCmpFunc_Entry.l2 a0 a2 a4 J_153 k_189 (w64 ((w64 ((wu64 (w64 (i_183 + i_184))) / 2 ^ (Int.toNat 1))) + 1)) i_184) else (slices_symMergeCmpFunc_Entry.l2 a0 a2 a4 J_153 k_189 i_183 (w64 ((wu64 (w64 (i_183 + i_184))) / 2 ^ (Int.toNat 1))))) else (J_153 i_183)
def slices_symMergeCmpFunc_Entry.l1 (i_151 : Int) (J_167 : (List Entry) → Option (List Entry)) : Nat → (List Entry) → Int → Option (List Entry)
  | 0, _, _ => none
  | k_178 + 1, l_172, i_173 => if (decide (i_151 < i_173)) = true then ((idx l_172 (w64 (i_173 - 1))).bind fun x623 => (idx l_172 i_173).bind fun x624 => (idx l_172 i_173).bind fun x625 => (upd l_172 i_173 x623).bind fun l627 => (idx l627 (w64 (i_173 - 1))).bind fun x629 => (upd l627 (w64 (i_173 - 1)) x624).bind fun l631 => slices_symMergeCmpFunc_Entry.l1 i_151 J_167 k_178 l631 (w64 (i_173 - 1))) else (J_167 l_172)
def slices_symMergeCmpFunc_Entry.l0 (a0 : (List Entry)) (a1 : Int) (a2 : Int) (a3 : Int) (a4 : (Entry → Entry → Option Int)) (J_122 : Int → Option (List Entry)) : Nat → Int → Int → Option (List Entry)
  | 0, _, _ => none
  | k_139 + 1, i_133, i_134 => if (decide (i_133 < i_134)) = true then ((idx a0 (w64 ((w64 ((w64 ((w64 ((wu64 (w64 (a1 + a3))) / 2 ^ (Int.toNat 1))) + a2)) - 1)) - (w64 ((wu64 (w64 (i_133 + i_134))) / 2 ^ (Int.toNat 1)))))).bind fun x458 => (idx a0 (w64 ((wu64 (w64 (i_133 + i_134))) / 2 ^ (Int.toNat 1)))).bind fun x459 => (a4 x458 x459).bind fun r460 => if (!(decide (r460 < 0))) = true then (slices_symMergeCmpFunc_Entry.l0 a0 a1 a2 a3 a4 J_122 k_139 (w64 ((w64 ((wu64 (w64 (i_133 + i_134))) / 2 ^ (Int.toNat 1))) + 1)) i_134) else (slices_symMergeCmpFunc_Entry.l0 a0 a1 a2 a3 a4 J_122 k_139 i_133 (w64 ((wu64 (w64 (i_133 + i_134))) / 2 ^ (Int.toNat 1))))) else (J_122 i_133)
def slices_symMergeCmpFunc_Entry : Nat → (List Entry) → Int → Int → Int → (Entry → Entry → Option Int) → Option (List Entry)
  | 0, _, _, _, _, _ => none
  | k + 1, a0, a1, a2, a3, a4 => Jn (Jn (Jn (fun (i_105 : Int) (i_106 : Int) => Jn (fun (i_120 : Int) => Jn (fun (l_123 : (List Entry)) => Jn (fun (l_126 : (List Entry)) => if ((decide ((w64 ((wu64 (w64 (a1 + a3))) / 2 ^ (Int.toNat 1))) < (w64 ((w64 ((w64 ((wu64 (w64 (a1 + a3))) / 2 ^ (Int.toNat 1))) + a2)) - i_120)))) && (decide ((w64 ((w64 ((w64 ((wu64 (w64 (a1 + a3))) / 2 ^ (Int.toNat 1))) + a2)) - i_120)) < a3))) = true then ((slices_symMergeCmpFunc_Entry k l_126 (w64 ((wu64 (w64 (a1 + a3))) / 2 ^ (Int.toNat 1))) (w64 ((w64 ((w64 ((wu64 (w64 (a1 + a3))) / 2 ^ (Int.toNat 1))) + a2)) - i_120)) a3 a4).bind fun r427 => some r427) else (some l_126)) (fun J_128 => if ((decide (a1 < i_120)) && (decide (i_120 < (w64 ((wu64 (w64 (a1 + a3))) / 2 ^ (Int.toNat 1)))))) = true then ((slices_symMergeCmpFunc_Entry k l_123 a1 i_120 (w64 ((wu64 (w64 (a1 + a3))) / 2 ^ (Int.toNat 1))) a4).bind fun r432 => J_128 r432) else (J_128 l_123))) (fun J_125 => if ((decide (i_120 < a2)) && (decide (a2 < (w64 ((w64 ((w64 ((wu64 (w64 (a1 + a3))) / 2 ^ (Int.toNat 1))) + a2)) - i_120))))) = true then ((slices_rotateCmpFunc_Entry k a0 i_120 a2 (w64 ((w64 ((w64 ((wu64 (w64 (a1 + a3))) / 2 ^ (Int.toNat 1))) + a2)) - i_120)) a4).bind fun r437 => J_125 r437) else (J_125 a0))) (fun J_122 => slices_symMergeCmpFunc_Entry.l0 a0 a1 a2 a3 a4 J_122 k i_105 i_106)) (fun J_108 => if (decide ((w64 ((wu64 (w64 (a1 + a3))) / 2 ^ (Int.toNat 1))) < a2)) = true then (J_108 (w64 ((w64 ((w64 ((wu64 (w64 (a1 + a3))) / 2 ^ (Int.toNat 1))) + a2)) - a3)) (w64 ((wu64 (w64 (a1 + a3))) / 2 ^ (Int.toNat 1)))) else (J_108 a1 a2))) (fun J_104 => if ((w64 (a3 - a2)) == 1) = true then (Jn (fun (i_151 : Int) => Jn (fun (l_165 : (List Entry)) => some l_165) (fun J_167 => slices_symMergeCmpFunc_Entry.l1 i_151 J_167 k a0 a2)) (fun J_153 => slices_symMergeCmpFunc_Entry.l2 a0 a2 a4 J_153 k a1 a2)) else (J_104))) (fun J_52 => if ((w64 (a2 - a1)) == 1) = true then (Jn (fun (i_201 : Int) => Jn (fun (l_215 : (List Entry)) => some l_215) (fun J_217 => slices_symMergeCmpFunc_Entry.l3 i_201 J_217 k a0 a1)) (fun J_203 => slices_symMergeCmpFunc_Entry.l4 a0 a1 a4 J_203 k a2 a3)) else (J_52))
def slices_stableCmpFunc_Entry.l2 (a1 : Int) (a2 : (Entry → Entry → Option Int)) (i_71 : Int) (J_129 : (List Entry) → Int → Option (List Entry)) : Nat → (List Entry) → Int → Int → Option (List Entry)
  | 0, _, _, _ => none
  | k_146 + 1, l_138, i_139, i_140 => if (decide (i_140 ≤ a1)) = true then ((slices_symMergeCmpFunc_Entry k_146 l_138 i_139 (w64 (i_139 + i_71)) i_140 a2).bind fun r152 => slices_stableCmpFunc_Entry.l2 a1 a2 i_71 J_129 k_146 r152 i_140 (w64 (i_140 + (w64 (2 * i_71))))) else (J_129 l_138 i_139)
def slices_stableCmpFunc_Entry.l1 (a1 : Int) (a2 : (Entry → Entry → Option Int)) : Nat → (List Entry) → Int → Option (List Entry)
  | 0, _, _ => none
  | k_111 + 1, l_70, i_71 => if (decide (i_71 < a1)) = true then (Jn (fun (l_126 : (List Entry)) (i_127 : Int) => Jn (fun (l_130 : (List Entry)) => slices_stableCmpFunc_Entry.l1 a1 a2 k_111 l_130 (w64 (i_71 * 2))) (fun J_132 => if (decide ((w64 (i_127 + i_71)) < a1)) = true then ((slices_symMergeCmpFunc_Entry k_111 l_126 i_127 (w64 (i_127 + i_71)) a1 a2).bind fun r137 => J_132 r137) else (J_132 l_126))) (fun J_129 => slices_stableCmpFunc_Entry.l2 a1 a2 i_71 J_129 k_111 l_70 0 (w64 (2 * i_71)))) else (some l_70)
def slices_stableCmpFunc_Entry.l0 (a1 : Int) (a2 : (Entry → Entry → Option Int)) : Nat → (List Entry) → Int → Int → Option (List Entry)
  | 0, _, _, _ => none
  | k_28 + 1, l_20, i_21, i_22 => if (decide (i_22 ≤ a1)) = true then ((slices_insertionSortCmpFunc_Entry k_28 l_20 i_21 i_22 a2).bind fun r28 => slices_stableCmpFunc_Entry.l0 a1 a2 k_28 r28 i_22 (w64 (i_22 + 20))) else ((slices_insertionSortCmpFunc_Entry k_28 l_20 i_21 a1 a2).bind fun r31 => slices_stableCmpFunc_Entry.l1 a1 a2 k_28 r31 20)
def slices_stableCmpFunc_Entry (k : Nat) (a0 : (List Entry)) (a1 : Int) (a2 : (Entry → Entry → Option Int)) : Option (List Entry) := slices_stableCmpFunc_Entry.l0 a1 a2 k a0 0 20
def slices_SortStableFunc_Entry (k : Nat) (a0 : (List Entry)) (a1 : (Entry → Entry → Option Int)) : Option (List Entry) := (slices_stableCmpFunc_Entry k a0 (a0.length : Int) a1).bind fun r1 => some r1
def internal_bytealg_CompareString (a0 : ByteArray) (a1 : ByteArray) : Option Int := some (ordS a0 a1)
def strings_Compare (a0 : ByteArray) (a1 : ByteArray) : Option Int := (internal_bytealg_CompareString a0 a1).bind fun r1 => some r1
def cmp_isNaN_uint64 (a0 : Int) : Option Bool := some (a0 != a0)
def cmp_Compare_uint64 (a0 : Int) (a1 : Int) : Option Int := (cmp_isNaN_uint64 a0).bind fun r1 => (cmp_isNaN_uint64 a1).bind fun r3 => if r1 = true then (if r3 = true then (some 0) else (some (-1))) else (if r3 = true then (some 1) else (if (decide (a0 < a1)) = true then (some (-1)) else (if (decide (a1 < a0)) = true then (some 1) else (some 0))))
def cmp_isNaN_int (a0 : Int) : Option Bool := some (a0 != a0)
def cmp_Compare_int (a0 : Int) (a1 : Int) : Option Int := (cmp_isNaN_int a0).bind fun r1 => (cmp_isNaN_int a1).bind fun r3 => if r1 = true then (if r3 = true then (some 0) else (some (-1))) else (if r3 = true then (some 1) else (if (decide (a0 < a1)) = true then (some (-1)) else (if (decide (a1 < a0)) = true then (some 1) else (some 0))))
def cmp_Or_int.l0 (a0 : (List Int)) : Nat → Int → Option Int
  | 0, _ => none
  | k_16 + 1, i_12 => if (decide (i_12 < (a0.length : Int))) = true then ((idx a0 i_12).bind fun x35 => if (x35 != 0) = true then (some x35) else (cmp_Or_int.l0 a0 k_16 (w64 (i_12 + 1)))) else (some 0)
def cmp_Or_int (k : Nat) (a0 : (List Int)) : Option Int := cmp_Or_int.l0 a0 k 0
def ikey_Compare (k : Nat) (a0 : IKey) (a1 : IKey) : Option Int := (strings_Compare a0.Key a1.Key).bind fun r5 => (cmp_Compare_uint64 a1.Seq a0.Seq).bind fun r7 => (cmp_Compare_int a1.Kind a0.Kind).bind fun r10 => (cmp_Or_int k ([r5, r7, r10])).bind fun r16 => some r16
def ikey_entries (k : Nat) (a0 : Entry) (a1 : Entry) : Option Int := (ikey_Compare k (⟨a0.Key, a0.Seq, a0.Kind⟩ : IKey) (⟨a1.Key, a1.Seq, a1.Kind⟩ : IKey)).bind fun r5 => some r5
def ikey_Sorted (k : Nat) (a0 : (List Entry)) : Option (List Entry) := (slices_Clone_Entry a0).bind fun r1 => (slices_SortStableFunc_Entry k r1 (fun x0 x1 => ikey_entries k x0 x1)).bind fun r5 => some r5
def merge_All (k : Nat) (a0 : (List (List Entry))) : Option (List Entry) := (slices_Concat_Entry k a0).bind fun r1 => (ikey_Sorted k r1).bind fun r5 => some r5
def r03_Key (a0 : Entry) : Option IKey := some (⟨a0.Key, a0.Seq, a0.Kind⟩ : IKey)
def r03_Compare (a0 : IKey) (a1 : IKey) : Option Int := if (!sEq a0.Key a1.Key) = true then (if (sLt a0.Key a1.Key) = true then (some (-1)) else (some 1)) else (if (a0.Seq != a1.Seq) = true then (if (decide (a1.Seq < a0.Seq)) = true then (some (-1)) else (some 1)) else (if (a0.Kind != a1.Kind) = true then (if (decide (a1.Kind < a0.Kind)) = true then (some (-1)) else (some 1)) else (some 0)))
def r03_Sorted.l0 (J_43 : (List Entry) → (List Entry) → (List Entry) → Option (List Entry)) : Nat → (List Entry) → (List Entry) → (List Entry) → Option (List Entry)
  | 0, _, _, _ => none
  | k_75 + 1, l_56, l_59, l_63 => if ((decide (0 < (l_56.length : Int))) && (decide (0 < (l_59.length : Int)))) = true then ((idx l_56 0).bind fun x182 => (r03_Key x182).bind fun r183 => (idx l_59 0).bind fun x185 => (r03_Key x185).bind fun r186 => (r03_Compare r183 r186).bind fun r188 => if (decide (r188 ≤ 0)) = true then ((idx l_56 0).bind fun x192 => (push 4691249611691 l_63 x192).bind fun l195 => (cut l_56 1 (l_56.length : Int)).bind fun l198 => r03_Sorted.l0 J_43 k_75 l198 l_59 l195) else ((idx l_59 0).bind fun x199 => (push 4691249611691 l_63 x199).bind fun l202 => (cut l_59 1 (l_59.length : Int)).bind fun l205 => r03_Sorted.l0 J_43 k_75 l_56 l205 l202)) else (J_43 l_56 l_59 l_63)
def r03_Sorted : Nat → (List Entry) → Option (List Entry)
  | 0, _ => none
  | k + 1, a0 => if (decide ((a0.length : Int) < 2)) = true then ((pushN 4691249611691 ([]) a0).bind fun l12 => some l12) else ((cut a0 0 (w64 (Int.tdiv (a0.length : Int) 2))).bind fun l15 => (r03_Sorted k l15).bind fun r16 => (cut a0 (w64 (Int.tdiv (a0.length : Int) 2)) (a0.length : Int)).bind fun l21 => (r03_Sorted k l21).bind fun r22 => Jn (fun (l_34 : (List Entry)) (l_37 : (List Entry)) (l_41 : (List Entry)) => (pushN 4691249611691 l_41 l_34).bind fun l114 => (pushN 4691249611691 l114 l_37).bind fun l117 => some l117) (fun J_43 => r03_Sorted.l0 J_43 k r16 r22 ([])))
def r19_All.l2 (l_5578 : (List R19_Item)) (r25521 : (List Entry)) (i_9038 : Int) (J_9300 : (List R19_Item) → Int → Option (List R19_Item)) : Nat → (List R19_Item) → Int → Option (List R19_Item)
  | 0, _, _ => none
  | k_9326 + 1, l_9313, i_9314 => Jn (fun (b_9330 : Bool) => if b_9330 = true then ((idx l_5578 i_9314).bind fun x28784 => (push 4021071095713 l_9313 x28784).bind fun l28787 => r19_All.l2 l_5578 r25521 i_9038 J_9300 k_9326 l28787 (w64 (i_9314 + 1))) else (J_9300 l_9313 i_9314)) (fun J_9331 => if (decide (i_9314 < (l_5578.length : Int))) = true then ((idx l_5578 i_9314).bind fun x28790 => (r03_Key x28790.Entry).bind fun r28791 => (idx r25521 i_9038).bind fun x28793 => (r03_Key x28793).bind fun r28794 => (r03_Compare r28791 r28794).bind fun r28796 => J_9331 (decide (r28796 ≤ 0))) else (J_9331 false))
def r19_All.l1 (l_5578 : (List R19_Item)) (i_5579 : Int) (r25521 : (List Entry)) (J_8868 : (List R19_Item) → Int → Option (List R19_Item)) : Nat → (List R19_Item) → Int → Int → Option (List R19_Item)
  | 0, _, _, _ => none
  | k_9189 + 1, l_9036, i_9037, i_9038 => if (decide (i_9038 < (r25521.length : Int))) = true then (Jn (fun (l_9260 : (List R19_Item)) (i_9261 : Int) => r19_All.l1 l_5578 i_5579 r25521 J_8868 k_9189 l_9260 i_9261 (w64 (i_9038 + 1))) (fun J_9263 => Jn (fun (l_9297 : (List R19_Item)) (i_9298 : Int) => (idx r25521 i_9038).bind fun x28660 => (push 4021071095713 l_9297 (⟨x28660, i_5579⟩ : R19_Item)).bind fun l28663 => J_9263 l28663 i_9298) (fun J_9300 => r19_All.l2 l_5578 r25521 i_9038 J_9300 k_9189 l_9036 i_9037))) else (J_8868 l_9036 i_9037)
def r19_All.l0 (a0 : (List (List Entry))) : Nat → (List R19_Item) → Int → Option (List R19_Item)
  | 0, _, _ => none
  | k_7459 + 1, l_5578, i_5579 => if (decide (i_5579 < (a0.length : Int))) = true then (Jn (fun (l_8396 : (List R19_Item)) => r19_All.l0 a0 k_7459 l_8396 (w64 (i_5579 + 1))) (fun J_8398 => (idx a0 i_5579).bind fun x25516 => (r03_Sorted k_7459 x25516).bind fun r25521 => Jn (fun (l_8865 : (List R19_Item)) (i_8866 : Int) => (cut l_5578 i_8866 (l_5578.length : Int)).bind fun l27160 => (pushN 4021071095713 l_8865 l27160).bind fun l27161 => J_8398 l27161) (fun J_8868 => r19_All.l1 l_5578 i_5579 r25521 J_8868 k_7459 ([]) 0 0))) else (some l_5578)
def r19_All (k : Nat) (a0 : (List (List Entry))) : Option (List R19_Item) := r19_All.l0 a0 k ([]) 0
def r19_Entries.l0 (a0 : (List R19_Item)) : Nat → (List Entry) → Int → Option (List Entry)
  | 0, _, _ => none
  | k_34 + 1, l_26, i_27 => if (decide (i_27 < (a0.length : Int))) = true then ((idx a0 i_27).bind fun x85 => (push 4691249611691 l_26 x85.Entry).bind fun l88 => r19_Entries.l0 a0 k_34 l88 (w64 (i_27 + 1))) else (some l_26)
def r19_Entries (k : Nat) (a0 : (List R19_Item)) : Option (List Entry) := r19_Entries.l0 a0 k ([]) 0
def l19_same.l0 (a0 : (List Entry)) (a1 : (List Entry)) : Nat → Int → Option Bool
  | 0, _ => none
  | k_16 + 1, i_12 => if (decide (i_12 < (a0.length : Int))) = true then ((idx a0 i_12).bind fun x59 => (idx a1 i_12).bind fun x60 => if (!Entry.eqb x59 x60) = true then (some false) else (l19_same.l0 a0 a1 k_16 (w64 (i_12 + 1)))) else (some true)
def l19_same (k : Nat) (a0 : (List Entry)) (a1 : (List Entry)) : Option Bool := if ((a0.length : Int) != (a1.length : Int)) = true then (some false) else (l19_same.l0 a0 a1 k 0)
def l19_MergeAll.l1 (a0 : (List (List Entry))) (r1 : (List (List Entry))) (J_32 : Option Bool) : Nat → Int → Option Bool
  | 0, _ => none
  | k_40 + 1, i_36 => if (decide (i_36 < (a0.length : Int))) = true then ((idx r1 i_36).bind fun x255 => (idx a0 i_36).bind fun x260 => (l19_same k_40 x255 x260).bind fun r265 => if (!r265) = true then (some false) else (l19_MergeAll.l1 a0 r1 J_32 k_40 (w64 (i_36 + 1)))) else (J_32)
def l19_MergeAll.l0 (a0 : (List (List Entry))) (r1 : (List (List Entry))) (r9 : (List Entry)) (r17 : (List Entry)) : Nat → (List Entry) → Int → Option Bool
  | 0, _, _ => none
  | k_22 + 1, l_16, i_17 => if (decide (i_17 < (l_16.length : Int))) = true then ((idx l_16 i_17).bind fun x72 => (upd l_16 i_17 (⟨(ByteArray.mk #[115, 112, 111, 105, 108, 116]), 0, 0, (ByteArray.mk #[])⟩ : Entry)).bind fun l73 => l19_MergeAll.l0 a0 r1 r9 r17 k_22 l73 (w64 (i_17 + 1))) else (Jn ((l19_same k_22 r9 r17).bind fun r171 => some r171) (fun J_32 => l19_MergeAll.l1 a0 r1 J_32 k_22 0))
def l19_MergeAll (k : Nat) (a0 : (List (List Entry))) : Option Bool := (l19_lent k a0).bind fun r1 => (merge_All k r1).bind fun r5 => (merge_All k r1).bind fun r9 => (r19_All k a0).bind fun r13 => (r19_Entries k r13).bind fun r17 => (l19_same k r5 r17).bind fun r24 => if (!r24) = true then (some false) else (l19_MergeAll.l0 a0 r1 r9 r17 k r5 0)
end Go.Proofs.Ytknedifgapgmbaa.Mo
