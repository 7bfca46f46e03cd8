/- Printed by gen.py: structures, and the plain twins of Go functions. -/
import Derived.Test.YtmbhgfigffahbaaSyDel
set_option linter.unusedVariables false
set_option linter.unusedSimpArgs false
set_option maxRecDepth 100000
namespace Go.Proofs.Ytmbhgfigffahbaa.Mo
open Go Go.Proofs.Ytmbhgfigffahbaa.Sy
structure Tomb where
  Begin : ByteArray
  End : ByteArray
  Seq : Int

def Tomb.enc (x : Tomb) : List _root_.Go.Value := [.string x.Begin, .string x.End, .int .u64 x.Seq]

def Tomb.eqb (x y : Tomb) : Bool := sEq x.Begin y.Begin && (sEq x.End y.End && ((x.Seq == y.Seq) && (true)))

structure Fragment where
  Begin : ByteArray
  End : ByteArray
  Seqs : (List Int)

def tomb_Valid (a0 : Tomb) : Option Bool := some (((((!sEq a0.Begin (ByteArray.mk #[])) && (decide ((a0.Begin.size : Int) ≤ 1024))) && (decide ((a0.End.size : Int) ≤ 1025))) && (sLt a0.Begin a0.End)) && (decide (a0.Seq ≤ 72057594037927935)))

def tomb_valid.l0 (a0 : (List Tomb)) : Nat → (List Tomb) → Int → Option (List Tomb)
  | 0, _, _ => none
  | k_56 + 1, l_44, i_45 => if (decide (i_45 < (a0.length : Int))) = true then (Jn (fun (l_58 : (List Tomb)) => tomb_valid.l0 a0 k_56 l_58 (w64 (i_45 + 1))) (fun J_60 => (idx a0 i_45).bind fun x152 => (tomb_Valid x152).bind fun r156 => if r156 = true then ((push 5629499534059 l_44 x152).bind fun l161 => J_60 l161) else (J_60 l_44))) else (some l_44)

def tomb_valid (k : Nat) (a0 : (List Tomb)) : Option (List Tomb) := tomb_valid.l0 a0 k ([]) 0

def math_bits_Len32 (a0 : Int) : Option Int := Jn (fun (i_1 : Int) (i_2 : Int) => Jn (fun (i_5 : Int) (i_6 : Int) => (sidx (ByteArray.mk #[0, 1, 2, 2, 3, 3, 3, 3, 4, 4, 4, 4, 4, 4, 4, 4, 5, 5, 5, 5, 5, 5, 5, 5, 5, 5, 5, 5, 5, 5, 5, 5, 6, 6, 6, 6, 6, 6, 6, 6, 6, 6, 6, 6, 6, 6, 6, 6, 6, 6, 6, 6, 6, 6, 6, 6, 6, 6, 6, 6, 6, 6, 6, 6, 7, 7, 7, 7, 7, 7, 7, 7, 7, 7, 7, 7, 7, 7, 7, 7, 7, 7, 7, 7, 7, 7, 7, 7, 7, 7, 7, 7, 7, 7, 7, 7, 7, 7, 7, 7, 7, 7, 7, 7, 7, 7, 7, 7, 7, 7, 7, 7, 7, 7, 7, 7, 7, 7, 7, 7, 7, 7, 7, 7, 7, 7, 7, 7, 8, 8, 8, 8, 8, 8, 8, 8, 8, 8, 8, 8, 8, 8, 8, 8, 8, 8, 8, 8, 8, 8, 8, 8, 8, 8, 8, 8, 8, 8, 8, 8, 8, 8, 8, 8, 8, 8, 8, 8, 8, 8, 8, 8, 8, 8, 8, 8, 8, 8, 8, 8, 8, 8, 8, 8, 8, 8, 8, 8, 8, 8, 8, 8, 8, 8, 8, 8, 8, 8, 8, 8, 8, 8, 8, 8, 8, 8, 8, 8, 8, 8, 8, 8, 8, 8, 8, 8, 8, 8, 8, 8, 8, 8, 8, 8, 8, 8, 8, 8, 8, 8, 8, 8, 8, 8, 8, 8, 8, 8, 8, 8, 8, 8, 8, 8, 8, 8, 8, 8, 8, 8, 8, 8, 8, 8, 8, 8]) (wu8 i_5)).bind fun n3 => some (w64 (i_6 + (w64 n3)))) (fun J_8 => if (decide (256 ≤ i_1)) = true then (J_8 (i_1 / 2 ^ (Int.toNat 8)) (w64 (i_2 + 8))) else (J_8 i_1 i_2))) (fun J_4 => if (decide (65536 ≤ a0)) = true then (J_4 (a0 / 2 ^ (Int.toNat 16)) 16) else (J_4 a0 0))

def math_bits_Len64 (a0 : Int) : Option Int := Jn (fun (i_1 : Int) (i_2 : Int) => Jn (fun (i_5 : Int) (i_6 : Int) => Jn (fun (i_9 : Int) (i_10 : Int) => (sidx (ByteArray.mk #[0, 1, 2, 2, 3, 3, 3, 3, 4, 4, 4, 4, 4, 4, 4, 4, 5, 5, 5, 5, 5, 5, 5, 5, 5, 5, 5, 5, 5, 5, 5, 5, 6, 6, 6, 6, 6, 6, 6, 6, 6, 6, 6, 6, 6, 6, 6, 6, 6, 6, 6, 6, 6, 6, 6, 6, 6, 6, 6, 6, 6, 6, 6, 6, 7, 7, 7, 7, 7, 7, 7, 7, 7, 7, 7, 7, 7, 7, 7, 7, 7, 7, 7, 7, 7, 7, 7, 7, 7, 7, 7, 7, 7, 7, 7, 7, 7, 7, 7, 7, 7, 7, 7, 7, 7, 7, 7, 7, 7, 7, 7, 7, 7, 7, 7, 7, 7, 7, 7, 7, 7, 7, 7, 7, 7, 7, 7, 7, 8, 8, 8, 8, 8, 8, 8, 8, 8, 8, 8, 8, 8, 8, 8, 8, 8, 8, 8, 8, 8, 8, 8, 8, 8, 8, 8, 8, 8, 8, 8, 8, 8, 8, 8, 8, 8, 8, 8, 8, 8, 8, 8, 8, 8, 8, 8, 8, 8, 8, 8, 8, 8, 8, 8, 8, 8, 8, 8, 8, 8, 8, 8, 8, 8, 8, 8, 8, 8, 8, 8, 8, 8, 8, 8, 8, 8, 8, 8, 8, 8, 8, 8, 8, 8, 8, 8, 8, 8, 8, 8, 8, 8, 8, 8, 8, 8, 8, 8, 8, 8, 8, 8, 8, 8, 8, 8, 8, 8, 8, 8, 8, 8, 8, 8, 8, 8, 8, 8, 8, 8, 8, 8, 8, 8, 8, 8, 8]) (wu8 i_9)).bind fun n4 => some (w64 (i_10 + (w64 n4)))) (fun J_12 => if (decide (256 ≤ i_5)) = true then (J_12 (i_5 / 2 ^ (Int.toNat 8)) (w64 (i_6 + 8))) else (J_12 i_5 i_6))) (fun J_8 => if (decide (65536 ≤ i_1)) = true then (J_8 (i_1 / 2 ^ (Int.toNat 16)) (w64 (i_2 + 16))) else (J_8 i_1 i_2))) (fun J_4 => if (decide (4294967296 ≤ a0)) = true then (J_4 (a0 / 2 ^ (Int.toNat 32)) 32) else (J_4 a0 0))

def math_bits_Len (a0 : Int) : Option Int := (math_bits_Len64 a0).bind fun r1 => some r1

def cmp_isNaN_string (a0 : ByteArray) : Option Bool := some (!sEq a0 a0)

def cmp_Less_string (a0 : ByteArray) (a1 : ByteArray) : Option Bool := (cmp_isNaN_string a0).bind fun r1 => Jn (fun (b_1 : Bool) => some (b_1 || (sLt a0 a1))) (fun J_2 => if r1 = true then ((cmp_isNaN_string a1).bind fun r7 => J_2 (!r7)) else (J_2 false))

def slices_insertionSortOrdered_string.l1 (a1 : Int) (J_166 : (List ByteArray) → Option (List ByteArray)) : Nat → (List ByteArray) → Int → Option (List ByteArray)
  | 0, _, _ => none
  | k_189 + 1, l_177, i_178 => Jn (fun (b_193 : Bool) => if b_193 = true then ((idx l_177 (w64 (i_178 - 1))).bind fun x784 => (idx l_177 i_178).bind fun x785 => (idx l_177 i_178).bind fun x786 => (upd l_177 i_178 x784).bind fun l788 => (idx l788 (w64 (i_178 - 1))).bind fun x790 => (upd l788 (w64 (i_178 - 1)) x785).bind fun l792 => slices_insertionSortOrdered_string.l1 a1 J_166 k_189 l792 (w64 (i_178 - 1))) else (J_166 l_177)) (fun J_194 => if (decide (a1 < i_178)) = true then ((idx l_177 i_178).bind fun x795 => (idx l_177 (w64 (i_178 - 1))).bind fun x796 => (cmp_Less_string x795 x796).bind fun r797 => J_194 r797) else (J_194 false))

def slices_insertionSortOrdered_string.l0 (a1 : Int) (a2 : Int) : Nat → (List ByteArray) → Int → Option (List ByteArray)
  | 0, _, _ => none
  | k_134 + 1, l_67, i_68 => if (decide (i_68 < a2)) = true then (Jn (fun (l_164 : (List ByteArray)) => slices_insertionSortOrdered_string.l0 a1 a2 k_134 l_164 (w64 (i_68 + 1))) (fun J_166 => slices_insertionSortOrdered_string.l1 a1 J_166 k_134 l_67 i_68)) else (some l_67)

def slices_insertionSortOrdered_string (k : Nat) (a0 : (List ByteArray)) (a1 : Int) (a2 : Int) : Option (List ByteArray) := slices_insertionSortOrdered_string.l0 a1 a2 k a0 (w64 (a1 + 1))

def slices_siftDownOrdered_string.l0 (a2 : Int) (a3 : Int) : Nat → (List ByteArray) → Int → Option (List ByteArray)
  | 0, _, _ => none
  | k_32 + 1, l_16, i_17 => if (decide (a2 ≤ (w64 ((w64 (2 * i_17)) + 1)))) = true then (some l_16) else (Jn (fun (i_36 : Int) => (idx l_16 (w64 (a3 + i_17))).bind fun x114 => (idx l_16 (w64 (a3 + i_36))).bind fun x115 => (cmp_Less_string x114 x115).bind fun r116 => if (!r116) = true then (some l_16) else ((idx l_16 (w64 (a3 + i_36))).bind fun x120 => (idx l_16 (w64 (a3 + i_17))).bind fun x121 => (idx l_16 (w64 (a3 + i_17))).bind fun x122 => (upd l_16 (w64 (a3 + i_17)) x120).bind fun l124 => (idx l124 (w64 (a3 + i_36))).bind fun x126 => (upd l124 (w64 (a3 + i_36)) x121).bind fun l128 => slices_siftDownOrdered_string.l0 a2 a3 k_32 l128 i_36)) (fun J_38 => Jn (fun (b_39 : Bool) => if b_39 = true then (J_38 (w64 ((w64 ((w64 (2 * i_17)) + 1)) + 1))) else (J_38 (w64 ((w64 (2 * i_17)) + 1)))) (fun J_40 => if (decide ((w64 ((w64 ((w64 (2 * i_17)) + 1)) + 1)) < a2)) = true then ((idx l_16 (w64 (a3 + (w64 ((w64 (2 * i_17)) + 1))))).bind fun x138 => (idx l_16 (w64 ((w64 (a3 + (w64 ((w64 (2 * i_17)) + 1)))) + 1))).bind fun x139 => (cmp_Less_string x138 x139).bind fun r140 => J_40 r140) else (J_40 false))))

def slices_siftDownOrdered_string (k : Nat) (a0 : (List ByteArray)) (a1 : Int) (a2 : Int) (a3 : Int) : Option (List ByteArray) := slices_siftDownOrdered_string.l0 a2 a3 k a0 a1

def slices_heapSortOrdered_string.l1 (a1 : Int) : Nat → (List ByteArray) → Int → Option (List ByteArray)
  | 0, _, _ => none
  | k_44 + 1, l_38, i_39 => if (decide (0 ≤ i_39)) = true then ((idx l_38 (w64 (a1 + i_39))).bind fun x125 => (idx l_38 a1).bind fun x126 => (idx l_38 a1).bind fun x127 => (upd l_38 a1 x125).bind fun l129 => (idx l129 (w64 (a1 + i_39))).bind fun x131 => (upd l129 (w64 (a1 + i_39)) x126).bind fun l133 => (slices_siftDownOrdered_string k_44 l133 0 i_39 a1).bind fun r136 => slices_heapSortOrdered_string.l1 a1 k_44 r136 (w64 (i_39 - 1))) else (some l_38)

def slices_heapSortOrdered_string.l0 (a1 : Int) : Nat → (List ByteArray) → Int → Int → Option (List ByteArray)
  | 0, _, _, _ => none
  | k_32 + 1, l_24, i_25, i_26 => if (decide (0 ≤ i_26)) = true then ((slices_siftDownOrdered_string k_32 l_24 i_26 i_25 a1).bind fun r46 => slices_heapSortOrdered_string.l0 a1 k_32 r46 i_25 (w64 (i_26 - 1))) else (slices_heapSortOrdered_string.l1 a1 k_32 l_24 (w64 (i_25 - 1)))

def slices_heapSortOrdered_string (k : Nat) (a0 : (List ByteArray)) (a1 : Int) (a2 : Int) : Option (List ByteArray) := slices_heapSortOrdered_string.l0 a1 k a0 (w64 (a2 - a1)) (w64 (Int.tdiv (w64 ((w64 (a2 - a1)) - 1)) 2))

def slices_nextPowerOfTwo (a0 : Int) : Option Int := (math_bits_Len (wu64 a0)).bind fun r1 => (shlO .u64 1 r1).bind fun n3 => some n3

def slices_xorshift_Next (a0 : Int) : Option (Int × Int) := some ((bits .xor .u64 (bits .xor .u64 (bits .xor .u64 a0 (wu64 (a0 * 2 ^ (Int.toNat 13)))) ((bits .xor .u64 a0 (wu64 (a0 * 2 ^ (Int.toNat 13)))) / 2 ^ (Int.toNat 7))) (wu64 ((bits .xor .u64 (bits .xor .u64 a0 (wu64 (a0 * 2 ^ (Int.toNat 13)))) ((bits .xor .u64 a0 (wu64 (a0 * 2 ^ (Int.toNat 13)))) / 2 ^ (Int.toNat 7))) * 2 ^ (Int.toNat 17)))), (bits .xor .u64 (bits .xor .u64 (bits .xor .u64 a0 (wu64 (a0 * 2 ^ (Int.toNat 13)))) ((bits .xor .u64 a0 (wu64 (a0 * 2 ^ (Int.toNat 13)))) / 2 ^ (Int.toNat 7))) (wu64 ((bits .xor .u64 (bits .xor .u64 a0 (wu64 (a0 * 2 ^ (Int.toNat 13)))) ((bits .xor .u64 a0 (wu64 (a0 * 2 ^ (Int.toNat 13)))) / 2 ^ (Int.toNat 7))) * 2 ^ (Int.toNat 17)))))

def slices_breakPatternsOrdered_string.l0 (a1 : Int) (r5 : Int) : Nat → (List ByteArray) → Int → Int → Int → Option (List ByteArray)
  | 0, _, _, _, _ => none
  | k_32 + 1, l_16, i_17, i_18, i_19 => if (decide (i_19 ≤ (w64 ((w64 (a1 + (w64 ((w64 (Int.tdiv i_17 4)) * 2)))) + 1)))) = true then ((slices_xorshift_Next i_18).bind fun r93 => Jn (fun (i_36 : Int) => (idx l_16 (w64 (a1 + i_36))).bind fun x97 => (idx l_16 i_19).bind fun x98 => (idx l_16 i_19).bind fun x99 => (upd l_16 i_19 x97).bind fun l101 => (idx l101 (w64 (a1 + i_36))).bind fun x103 => (upd l101 (w64 (a1 + i_36)) x98).bind fun l105 => slices_breakPatternsOrdered_string.l0 a1 r5 k_32 l105 i_17 r93.2 (w64 (i_19 + 1))) (fun J_38 => if (decide (i_17 ≤ (w64 (bits .and .u64 r93.1 (wu64 (r5 - 1)))))) = true then (J_38 (w64 ((w64 (bits .and .u64 r93.1 (wu64 (r5 - 1)))) - i_17))) else (J_38 (w64 (bits .and .u64 r93.1 (wu64 (r5 - 1))))))) else (some l_16)

def slices_breakPatternsOrdered_string (k : Nat) (a0 : (List ByteArray)) (a1 : Int) (a2 : Int) : Option (List ByteArray) := if (decide (8 ≤ (w64 (a2 - a1)))) = true then ((slices_nextPowerOfTwo (w64 (a2 - a1))).bind fun r5 => slices_breakPatternsOrdered_string.l0 a1 r5 k a0 (w64 (a2 - a1)) (wu64 (w64 (a2 - a1))) (w64 ((w64 (a1 + (w64 ((w64 (Int.tdiv (w64 (a2 - a1)) 4)) * 2)))) - 1))) else (some a0)

def slices_order2Ordered_string (a0 : (List ByteArray)) (a1 : Int) (a2 : Int) (a3 : Int) : Option (Int × Int × Int) := (idx a0 a2).bind fun x8 => (idx a0 a1).bind fun x9 => (cmp_Less_string x8 x9).bind fun r10 => if r10 = true then (some (a2, a1, w64 (a3 + 1))) else (some (a1, a2, a3))

def slices_medianOrdered_string (a0 : (List ByteArray)) (a1 : Int) (a2 : Int) (a3 : Int) (a4 : Int) : Option (Int × Int) := (slices_order2Ordered_string a0 a1 a2 a4).bind fun r1 => (slices_order2Ordered_string a0 r1.2.1 a3 r1.2.2).bind fun r4 => (slices_order2Ordered_string a0 r1.1 r4.1 r4.2.2).bind fun r7 => some (r7.2.1, r7.2.2)

def slices_medianAdjacentOrdered_string (a0 : (List ByteArray)) (a1 : Int) (a2 : Int) : Option (Int × Int) := (slices_medianOrdered_string a0 (w64 (a1 - 1)) a1 (w64 (a1 + 1)) a2).bind fun r1 => some (r1.1, r1.2)

def slices_choosePivotOrdered_string (a0 : (List ByteArray)) (a1 : Int) (a2 : Int) : Option (Int × Int) := Jn (fun (i_7 : Int) (i_8 : Int) => if (i_7 == 0) = true then (some (i_8, 1)) else (if (i_7 == 12) = true then (some (i_8, 2)) else (some (i_8, 0)))) (fun J_10 => if (decide (8 ≤ (w64 (a2 - a1)))) = true then (Jn (fun (i_11 : Int) (i_12 : Int) (i_13 : Int) (i_14 : Int) => (slices_medianOrdered_string a0 i_12 i_13 i_14 i_11).bind fun r40 => J_10 r40.2 r40.1) (fun J_16 => if (decide (50 ≤ (w64 (a2 - a1)))) = true then ((slices_medianAdjacentOrdered_string a0 (w64 (a1 + (w64 ((w64 (Int.tdiv (w64 (a2 - a1)) 4)) * 1)))) 0).bind fun r44 => (slices_medianAdjacentOrdered_string a0 (w64 (a1 + (w64 ((w64 (Int.tdiv (w64 (a2 - a1)) 4)) * 2)))) r44.2).bind fun r47 => (slices_medianAdjacentOrdered_string a0 (w64 (a1 + (w64 ((w64 (Int.tdiv (w64 (a2 - a1)) 4)) * 3)))) r47.2).bind fun r50 => J_16 r50.2 r44.1 r47.1 r50.1) else (J_16 0 (w64 (a1 + (w64 ((w64 (Int.tdiv (w64 (a2 - a1)) 4)) * 1)))) (w64 (a1 + (w64 ((w64 (Int.tdiv (w64 (a2 - a1)) 4)) * 2)))) (w64 (a1 + (w64 ((w64 (Int.tdiv (w64 (a2 - a1)) 4)) * 3))))))) else (J_10 0 (w64 (a1 + (w64 ((w64 (Int.tdiv (w64 (a2 - a1)) 4)) * 2))))))

def slices_reverseRangeOrdered_string.l0 : Nat → (List ByteArray) → Int → Int → Option (List ByteArray)
  | 0, _, _, _ => none
  | k_15 + 1, l_7, i_8, i_9 => if (decide (i_8 < i_9)) = true then ((idx l_7 i_9).bind fun x29 => (idx l_7 i_8).bind fun x30 => (idx l_7 i_8).bind fun x31 => (upd l_7 i_8 x29).bind fun l33 => (idx l33 i_9).bind fun x35 => (upd l33 i_9 x30).bind fun l37 => slices_reverseRangeOrdered_string.l0 k_15 l37 (w64 (i_8 + 1)) (w64 (i_9 - 1))) else (some l_7)

def slices_reverseRangeOrdered_string (k : Nat) (a0 : (List ByteArray)) (a1 : Int) (a2 : Int) : Option (List ByteArray) := slices_reverseRangeOrdered_string.l0 k a0 a1 (w64 (a2 - 1))

def slices_partialInsertionSortOrdered_string.l3 (a2 : Int) (l_765 : (List ByteArray)) (J_1083 : Int → Option (Bool × (List ByteArray))) : Nat → Int → Option (Bool × (List ByteArray))
  | 0, _ => none
  | k_1139 + 1, i_1129 => Jn (fun (b_1143 : Bool) => if b_1143 = true then (slices_partialInsertionSortOrdered_string.l3 a2 l_765 J_1083 k_1139 (w64 (i_1129 + 1))) else (J_1083 i_1129)) (fun J_1144 => if (decide (i_1129 < a2)) = true then ((idx l_765 i_1129).bind fun x6993 => (idx l_765 (w64 (i_1129 - 1))).bind fun x6994 => (cmp_Less_string x6993 x6994).bind fun r6995 => J_1144 (!r6995)) else (J_1144 false))

def slices_partialInsertionSortOrdered_string.l2 (J_1097 : (List ByteArray) → Option (Bool × (List ByteArray))) : Nat → (List ByteArray) → Int → Option (Bool × (List ByteArray))
  | 0, _, _ => none
  | k_1119 + 1, l_1113, i_1114 => if (decide (1 ≤ i_1114)) = true then ((idx l_1113 i_1114).bind fun x6914 => (idx l_1113 (w64 (i_1114 - 1))).bind fun x6915 => (cmp_Less_string x6914 x6915).bind fun r6916 => if (!r6916) = true then (J_1097 l_1113) else ((idx l_1113 (w64 (i_1114 - 1))).bind fun x6920 => (idx l_1113 i_1114).bind fun x6921 => (idx l_1113 i_1114).bind fun x6922 => (upd l_1113 i_1114 x6920).bind fun l6924 => (idx l6924 (w64 (i_1114 - 1))).bind fun x6926 => (upd l6924 (w64 (i_1114 - 1)) x6921).bind fun l6928 => slices_partialInsertionSortOrdered_string.l2 J_1097 k_1119 l6928 (w64 (i_1114 - 1)))) else (J_1097 l_1113)

def slices_partialInsertionSortOrdered_string.l1 (a2 : Int) (J_1054 : (List ByteArray) → Int → Option (Bool × (List ByteArray))) (i_1081 : Int) : Nat → (List ByteArray) → Int → Option (Bool × (List ByteArray))
  | 0, _, _ => none
  | k_1108 + 1, l_1102, i_1103 => if (decide (i_1103 < a2)) = true then ((idx l_1102 i_1103).bind fun x6769 => (idx l_1102 (w64 (i_1103 - 1))).bind fun x6770 => (cmp_Less_string x6769 x6770).bind fun r6771 => if (!r6771) = true then (J_1054 l_1102 i_1081) else ((idx l_1102 (w64 (i_1103 - 1))).bind fun x6775 => (idx l_1102 i_1103).bind fun x6776 => (idx l_1102 i_1103).bind fun x6777 => (upd l_1102 i_1103 x6775).bind fun l6779 => (idx l6779 (w64 (i_1103 - 1))).bind fun x6781 => (upd l6779 (w64 (i_1103 - 1)) x6776).bind fun l6783 => slices_partialInsertionSortOrdered_string.l1 a2 J_1054 i_1081 k_1108 l6783 (w64 (i_1103 + 1)))) else (J_1054 l_1102 i_1081)

def slices_partialInsertionSortOrdered_string.l0 (a1 : Int) (a2 : Int) : Nat → (List ByteArray) → Int → Int → Option (Bool × (List ByteArray))
  | 0, _, _, _ => none
  | k_959 + 1, l_765, i_766, i_767 => if (decide (i_767 < 5)) = true then (Jn (fun (l_1051 : (List ByteArray)) (i_1052 : Int) => slices_partialInsertionSortOrdered_string.l0 a1 a2 k_959 l_1051 i_1052 (w64 (i_767 + 1))) (fun J_1054 => Jn (fun (i_1081 : Int) => if (i_1081 == a2) = true then (some (true, l_765)) else (if (decide ((w64 (a2 - a1)) < 50)) = true then (some (false, l_765)) else ((idx l_765 (w64 (i_1081 - 1))).bind fun x6485 => (idx l_765 i_1081).bind fun x6486 => (idx l_765 i_1081).bind fun x6487 => (upd l_765 i_1081 x6485).bind fun l6489 => (idx l6489 (w64 (i_1081 - 1))).bind fun x6491 => (upd l6489 (w64 (i_1081 - 1)) x6486).bind fun l6493 => Jn (fun (l_1095 : (List ByteArray)) => if (decide (2 ≤ (w64 (a2 - i_1081)))) = true then (slices_partialInsertionSortOrdered_string.l1 a2 J_1054 i_1081 k_959 l_1095 (w64 (i_1081 + 1))) else (J_1054 l_1095 i_1081)) (fun J_1097 => if (decide (2 ≤ (w64 (i_1081 - a1)))) = true then (slices_partialInsertionSortOrdered_string.l2 J_1097 k_959 l6493 (w64 (i_1081 - 1))) else (J_1097 l6493))))) (fun J_1083 => slices_partialInsertionSortOrdered_string.l3 a2 l_765 J_1083 k_959 i_766))) else (some (false, l_765))

def slices_partialInsertionSortOrdered_string (k : Nat) (a0 : (List ByteArray)) (a1 : Int) (a2 : Int) : Option (Bool × (List ByteArray)) := slices_partialInsertionSortOrdered_string.l0 a1 a2 k a0 (w64 (a1 + 1)) 0

def slices_partitionEqualOrdered_string.l2 (a1 : Int) (l_462 : (List ByteArray)) (i_464 : Int) (J_609 : Int → Option (Int × (List ByteArray))) : Nat → Int → Option (Int × (List ByteArray))
  | 0, _ => none
  | k_684 + 1, i_674 => Jn (fun (b_688 : Bool) => if b_688 = true then (slices_partitionEqualOrdered_string.l2 a1 l_462 i_464 J_609 k_684 (w64 (i_674 + 1))) else (J_609 i_674)) (fun J_689 => if (decide (i_674 ≤ i_464)) = true then ((idx l_462 a1).bind fun x1670 => (idx l_462 i_674).bind fun x1671 => (cmp_Less_string x1670 x1671).bind fun r1672 => J_689 (!r1672)) else (J_689 false))

def slices_partitionEqualOrdered_string.l1 (a1 : Int) (l_462 : (List ByteArray)) (i_607 : Int) (J_638 : Int → Option (Int × (List ByteArray))) : Nat → Int → Option (Int × (List ByteArray))
  | 0, _ => none
  | k_658 + 1, i_648 => Jn (fun (b_662 : Bool) => if b_662 = true then (slices_partitionEqualOrdered_string.l1 a1 l_462 i_607 J_638 k_658 (w64 (i_648 - 1))) else (J_638 i_648)) (fun J_663 => if (decide (i_607 ≤ i_648)) = true then ((idx l_462 a1).bind fun x1604 => (idx l_462 i_648).bind fun x1605 => (cmp_Less_string x1604 x1605).bind fun r1606 => J_663 r1606) else (J_663 false))

def slices_partitionEqualOrdered_string.l0 (a1 : Int) : Nat → (List ByteArray) → Int → Int → Option (Int × (List ByteArray))
  | 0, _, _, _ => none
  | k_580 + 1, l_462, i_463, i_464 => Jn (fun (i_607 : Int) => Jn (fun (i_636 : Int) => if (decide (i_636 < i_607)) = true then (some (i_607, l_462)) else ((idx l_462 i_636).bind fun x1531 => (idx l_462 i_607).bind fun x1532 => (idx l_462 i_607).bind fun x1533 => (upd l_462 i_607 x1531).bind fun l1535 => (idx l1535 i_636).bind fun x1537 => (upd l1535 i_636 x1532).bind fun l1539 => slices_partitionEqualOrdered_string.l0 a1 k_580 l1539 (w64 (i_607 + 1)) (w64 (i_636 - 1)))) (fun J_638 => slices_partitionEqualOrdered_string.l1 a1 l_462 i_607 J_638 k_580 i_464)) (fun J_609 => slices_partitionEqualOrdered_string.l2 a1 l_462 i_464 J_609 k_580 i_463)

def slices_partitionEqualOrdered_string (k : Nat) (a0 : (List ByteArray)) (a1 : Int) (a2 : Int) (a3 : Int) : Option (Int × (List ByteArray)) := (idx a0 a3).bind fun x1 => (idx a0 a1).bind fun x2 => (idx a0 a1).bind fun x3 => (upd a0 a1 x1).bind fun l5 => (idx l5 a3).bind fun x7 => (upd l5 a3 x2).bind fun l9 => slices_partitionEqualOrdered_string.l0 a1 k l9 (w64 (a1 + 1)) (w64 (a2 - 1))

def slices_partitionOrdered_string.l4 (a1 : Int) (l9 : (List ByteArray)) (i_20 : Int) (J_67 : Int → Option (Int × Bool × (List ByteArray))) : Nat → Int → Option (Int × Bool × (List ByteArray))
  | 0, _ => none
  | k_779 + 1, i_769 => Jn (fun (b_783 : Bool) => if b_783 = true then (slices_partitionOrdered_string.l4 a1 l9 i_20 J_67 k_779 (w64 (i_769 - 1))) else (J_67 i_769)) (fun J_784 => if (decide (i_20 ≤ i_769)) = true then ((idx l9 i_769).bind fun x1932 => (idx l9 a1).bind fun x1933 => (cmp_Less_string x1932 x1933).bind fun r1934 => J_784 (!r1934)) else (J_784 false))

def slices_partitionOrdered_string.l3 (a1 : Int) (l_531 : (List ByteArray)) (i_533 : Int) (J_678 : Int → Option (Int × Bool × (List ByteArray))) : Nat → Int → Option (Int × Bool × (List ByteArray))
  | 0, _ => none
  | k_753 + 1, i_743 => Jn (fun (b_757 : Bool) => if b_757 = true then (slices_partitionOrdered_string.l3 a1 l_531 i_533 J_678 k_753 (w64 (i_743 + 1))) else (J_678 i_743)) (fun J_758 => if (decide (i_743 ≤ i_533)) = true then ((idx l_531 i_743).bind fun x1866 => (idx l_531 a1).bind fun x1867 => (cmp_Less_string x1866 x1867).bind fun r1868 => J_758 r1868) else (J_758 false))

def slices_partitionOrdered_string.l2 (a1 : Int) (l_531 : (List ByteArray)) (i_676 : Int) (J_707 : Int → Option (Int × Bool × (List ByteArray))) : Nat → Int → Option (Int × Bool × (List ByteArray))
  | 0, _ => none
  | k_727 + 1, i_717 => Jn (fun (b_731 : Bool) => if b_731 = true then (slices_partitionOrdered_string.l2 a1 l_531 i_676 J_707 k_727 (w64 (i_717 - 1))) else (J_707 i_717)) (fun J_732 => if (decide (i_676 ≤ i_717)) = true then ((idx l_531 i_717).bind fun x1800 => (idx l_531 a1).bind fun x1801 => (cmp_Less_string x1800 x1801).bind fun r1802 => J_732 (!r1802)) else (J_732 false))

def slices_partitionOrdered_string.l1 (a1 : Int) (J_415 : (List ByteArray) → Int → Option (Int × Bool × (List ByteArray))) : Nat → (List ByteArray) → Int → Int → Option (Int × Bool × (List ByteArray))
  | 0, _, _, _ => none
  | k_649 + 1, l_531, i_532, i_533 => Jn (fun (i_676 : Int) => Jn (fun (i_705 : Int) => if (decide (i_705 < i_676)) = true then (J_415 l_531 i_705) else ((idx l_531 i_705).bind fun x1727 => (idx l_531 i_676).bind fun x1728 => (idx l_531 i_676).bind fun x1729 => (upd l_531 i_676 x1727).bind fun l1731 => (idx l1731 i_705).bind fun x1733 => (upd l1731 i_705 x1728).bind fun l1735 => slices_partitionOrdered_string.l1 a1 J_415 k_649 l1735 (w64 (i_676 + 1)) (w64 (i_705 - 1)))) (fun J_707 => slices_partitionOrdered_string.l2 a1 l_531 i_676 J_707 k_649 i_533)) (fun J_678 => slices_partitionOrdered_string.l3 a1 l_531 i_533 J_678 k_649 i_532)

def slices_partitionOrdered_string.l0 (a1 : Int) (l9 : (List ByteArray)) : Nat → Int → Int → Option (Int × Bool × (List ByteArray))
  | 0, _, _ => none
  | k_32 + 1, i_20, i_21 => Jn (fun (b_36 : Bool) => if b_36 = true then (slices_partitionOrdered_string.l0 a1 l9 k_32 (w64 (i_20 + 1)) i_21) else (Jn (fun (i_65 : Int) => if (decide (i_65 < i_20)) = true then ((idx l9 a1).bind fun x175 => (idx l9 i_65).bind fun x176 => (idx l9 i_65).bind fun x177 => (upd l9 i_65 x175).bind fun l179 => (idx l179 a1).bind fun x181 => (upd l179 a1 x176).bind fun l183 => some (i_65, true, l183)) else ((idx l9 i_65).bind fun x186 => (idx l9 i_20).bind fun x187 => (idx l9 i_20).bind fun x188 => (upd l9 i_20 x186).bind fun l190 => (idx l190 i_65).bind fun x192 => (upd l190 i_65 x187).bind fun l194 => Jn (fun (l_412 : (List ByteArray)) (i_413 : Int) => (idx l_412 a1).bind fun x1028 => (idx l_412 i_413).bind fun x1029 => (idx l_412 i_413).bind fun x1030 => (upd l_412 i_413 x1028).bind fun l1032 => (idx l1032 a1).bind fun x1034 => (upd l1032 a1 x1029).bind fun l1036 => some (i_413, false, l1036)) (fun J_415 => slices_partitionOrdered_string.l1 a1 J_415 k_32 l194 (w64 (i_20 + 1)) (w64 (i_65 - 1))))) (fun J_67 => slices_partitionOrdered_string.l4 a1 l9 i_20 J_67 k_32 i_21))) (fun J_37 => if (decide (i_20 ≤ i_21)) = true then ((idx l9 i_20).bind fun x1936 => (idx l9 a1).bind fun x1937 => (cmp_Less_string x1936 x1937).bind fun r1938 => J_37 r1938) else (J_37 false))

def slices_partitionOrdered_string (k : Nat) (a0 : (List ByteArray)) (a1 : Int) (a2 : Int) (a3 : Int) : Option (Int × Bool × (List ByteArray)) := (idx a0 a3).bind fun x1 => (idx a0 a1).bind fun x2 => (idx a0 a1).bind fun x3 => (upd a0 a1 x1).bind fun l5 => (idx l5 a3).bind fun x7 => (upd l5 a3 x2).bind fun l9 => slices_partitionOrdered_string.l0 a1 l9 k (w64 (a1 + 1)) (w64 (a2 - 1))

def slices_pdqsortOrdered_string.l0 (RCALL : (List ByteArray) → Int → Int → Int → Option (List ByteArray)) : Nat → (List ByteArray) → Int → Int → Int → Bool → Bool → Option (List ByteArray)
  | 0, _, _, _, _, _, _ => none
  | k_60 + 1, l_28, i_29, i_30, i_31, b_32, b_33 => if (decide ((w64 (i_30 - i_29)) ≤ 12)) = true then ((slices_insertionSortOrdered_string k_60 l_28 i_29 i_30).bind fun r178 => some r178) else (if (i_31 == 0) = true then ((slices_heapSortOrdered_string k_60 l_28 i_29 i_30).bind fun r186 => some r186) else (Jn (fun (l_61 : (List ByteArray)) (i_62 : Int) => (slices_choosePivotOrdered_string l_61 i_29 i_30).bind fun r193 => Jn (fun (l_65 : (List ByteArray)) (i_66 : Int) (i_67 : Int) => Jn (fun (l_70 : (List ByteArray)) => Jn (fun (b_76 : Bool) => if b_76 = true then ((slices_partitionEqualOrdered_string k_60 l_70 i_29 i_30 i_66).bind fun r227 => slices_pdqsortOrdered_string.l0 RCALL k_60 r227.2 r227.1 i_30 i_62 b_32 b_33) else ((slices_partitionOrdered_string k_60 l_70 i_29 i_30 i_66).bind fun r230 => if (decide ((w64 (r230.1 - i_29)) < (w64 (i_30 - r230.1)))) = true then ((RCALL r230.2.2 i_29 r230.1 i_62).bind fun r234 => slices_pdqsortOrdered_string.l0 RCALL k_60 r234 (w64 (r230.1 + 1)) i_30 i_62 (decide ((w64 (Int.tdiv (w64 (i_30 - i_29)) 8)) ≤ (w64 (r230.1 - i_29)))) r230.2.1) else ((RCALL r230.2.2 (w64 (r230.1 + 1)) i_30 i_62).bind fun r237 => slices_pdqsortOrdered_string.l0 RCALL k_60 r237 i_29 r230.1 i_62 (decide ((w64 (Int.tdiv (w64 (i_30 - i_29)) 8)) ≤ (w64 (i_30 - r230.1)))) r230.2.1))) (fun J_77 => if (decide (0 < i_29)) = true then ((idx l_70 (w64 (i_29 - 1))).bind fun x240 => (idx l_70 i_66).bind fun x241 => (cmp_Less_string x240 x241).bind fun r242 => J_77 (!r242)) else (J_77 false))) (fun J_72 => if ((b_32 && b_33) && (i_67 == 1)) = true then ((slices_partialInsertionSortOrdered_string k_60 l_65 i_29 i_30).bind fun r247 => if r247.1 = true then (some r247.2) else (J_72 r247.2)) else (J_72 l_65))) (fun J_69 => if (r193.2 == 2) = true then ((slices_reverseRangeOrdered_string k_60 l_61 i_29 i_30).bind fun r252 => J_69 r252 (w64 ((w64 (i_30 - 1)) - (w64 (r193.1 - i_29)))) 1) else (J_69 l_61 r193.1 r193.2))) (fun J_64 => if (!b_32) = true then ((slices_breakPatternsOrdered_string k_60 l_28 i_29 i_30).bind fun r256 => J_64 r256 (w64 (i_31 - 1))) else (J_64 l_28 i_31))))

def slices_pdqsortOrdered_string : Nat → (List ByteArray) → Int → Int → Int → Option (List ByteArray)
  | 0, _, _, _, _ => none
  | k + 1, a0, a1, a2, a3 => slices_pdqsortOrdered_string.l0 (fun x0 x1 x2 x3 => slices_pdqsortOrdered_string k x0 x1 x2 x3) k a0 a1 a2 a3 true true

def slices_Sort_string (k : Nat) (a0 : (List ByteArray)) : Option (List ByteArray) := (math_bits_Len (wu64 (a0.length : Int))).bind fun r1 => (slices_pdqsortOrdered_string k a0 0 (a0.length : Int) r1).bind fun r3 => some r3

def slices_Compact_string.l1 (a0 : (List ByteArray)) (i_468 : Int) (J_674 : (List ByteArray) → Int → Option (List ByteArray)) : Nat → (List ByteArray) → Int → Int → Option (List ByteArray)
  | 0, _, _, _ => none
  | k_696 + 1, l_684, i_685, i_686 => (cut l_684 i_468 (a0.length : Int)).bind fun l1533 => if (decide (i_686 < (l1533.length : Int))) = true then (Jn (fun (l_697 : (List ByteArray)) (i_698 : Int) => slices_Compact_string.l1 a0 i_468 J_674 k_696 l_697 i_698 (w64 (i_686 + 1))) (fun J_700 => (idx l1533 i_686).bind fun x1543 => (idx l1533 (w64 (i_686 - 1))).bind fun x1544 => if (!sEq x1543 x1544) = true then ((idx l1533 i_686).bind fun x1547 => (idx l_684 i_685).bind fun x1548 => (upd l_684 i_685 x1547).bind fun l1549 => J_700 l1549 (w64 (i_685 + 1))) else (J_700 l_684 i_685))) else (J_674 l_684 i_685)

def slices_Compact_string.l0 (a0 : (List ByteArray)) : Nat → Int → Option (List ByteArray)
  | 0, _ => none
  | k_586 + 1, i_468 => if (decide (i_468 < (a0.length : Int))) = true then (Jn (slices_Compact_string.l0 a0 k_586 (w64 (i_468 + 1))) (fun J_644 => (idx a0 i_468).bind fun x1423 => (idx a0 (w64 (i_468 - 1))).bind fun x1424 => if (sEq x1423 x1424) = true then ((cut a0 i_468 (a0.length : Int)).bind fun l1427 => Jn (fun (l_671 : (List ByteArray)) (i_672 : Int) => (cut l_671 i_672 (l_671.length : Int)).bind fun l1488 => (cut (clr l_671 (Int.toNat i_672) (Int.toNat (l_671.length : Int)) (ByteArray.mk #[])) 0 i_672).bind fun l1490 => some l1490) (fun J_674 => slices_Compact_string.l1 a0 i_468 J_674 k_586 a0 i_468 1)) else (J_644))) else (some a0)

def slices_Compact_string (k : Nat) (a0 : (List ByteArray)) : Option (List ByteArray) := if (decide ((a0.length : Int) < 2)) = true then (some a0) else (slices_Compact_string.l0 a0 k 1)

def tomb_unlike_string (k : Nat) (a0 : (List ByteArray)) : Option (List ByteArray) := (slices_Sort_string k a0).bind fun r1 => (slices_Compact_string k r1).bind fun r4 => some r4

def cmp_isNaN_uint64 (a0 : Int) : Option Bool := some (a0 != a0)

def cmp_Less_uint64 (a0 : Int) (a1 : Int) : Option Bool := (cmp_isNaN_uint64 a0).bind fun r1 => Jn (fun (b_1 : Bool) => some (b_1 || (decide (a0 < a1)))) (fun J_2 => if r1 = true then ((cmp_isNaN_uint64 a1).bind fun r7 => J_2 (!r7)) else (J_2 false))

def slices_insertionSortOrdered_uint64.l1 (a1 : Int) (J_166 : (List Int) → Option (List Int)) : Nat → (List Int) → Int → Option (List Int)
  | 0, _, _ => none
  | k_189 + 1, l_177, i_178 => Jn (fun (b_193 : Bool) => if b_193 = true then ((idx l_177 (w64 (i_178 - 1))).bind fun x784 => (idx l_177 i_178).bind fun x785 => (idx l_177 i_178).bind fun x786 => (upd l_177 i_178 x784).bind fun l788 => (idx l788 (w64 (i_178 - 1))).bind fun x790 => (upd l788 (w64 (i_178 - 1)) x785).bind fun l792 => slices_insertionSortOrdered_uint64.l1 a1 J_166 k_189 l792 (w64 (i_178 - 1))) else (J_166 l_177)) (fun J_194 => if (decide (a1 < i_178)) = true then ((idx l_177 i_178).bind fun x795 => (idx l_177 (w64 (i_178 - 1))).bind fun x796 => (cmp_Less_uint64 x795 x796).bind fun r797 => J_194 r797) else (J_194 false))

def slices_insertionSortOrdered_uint64.l0 (a1 : Int) (a2 : Int) : Nat → (List Int) → Int → Option (List Int)
  | 0, _, _ => none
  | k_134 + 1, l_67, i_68 => if (decide (i_68 < a2)) = true then (Jn (fun (l_164 : (List Int)) => slices_insertionSortOrdered_uint64.l0 a1 a2 k_134 l_164 (w64 (i_68 + 1))) (fun J_166 => slices_insertionSortOrdered_uint64.l1 a1 J_166 k_134 l_67 i_68)) else (some l_67)

def slices_insertionSortOrdered_uint64 (k : Nat) (a0 : (List Int)) (a1 : Int) (a2 : Int) : Option (List Int) := slices_insertionSortOrdered_uint64.l0 a1 a2 k a0 (w64 (a1 + 1))

def slices_siftDownOrdered_uint64.l0 (a2 : Int) (a3 : Int) : Nat → (List Int) → Int → Option (List Int)
  | 0, _, _ => none
  | k_32 + 1, l_16, i_17 => if (decide (a2 ≤ (w64 ((w64 (2 * i_17)) + 1)))) = true then (some l_16) else (Jn (fun (i_36 : Int) => (idx l_16 (w64 (a3 + i_17))).bind fun x114 => (idx l_16 (w64 (a3 + i_36))).bind fun x115 => (cmp_Less_uint64 x114 x115).bind fun r116 => if (!r116) = true then (some l_16) else ((idx l_16 (w64 (a3 + i_36))).bind fun x120 => (idx l_16 (w64 (a3 + i_17))).bind fun x121 => (idx l_16 (w64 (a3 + i_17))).bind fun x122 => (upd l_16 (w64 (a3 + i_17)) x120).bind fun l124 => (idx l124 (w64 (a3 + i_36))).bind fun x126 => (upd l124 (w64 (a3 + i_36)) x121).bind fun l128 => slices_siftDownOrdered_uint64.l0 a2 a3 k_32 l128 i_36)) (fun J_38 => Jn (fun (b_39 : Bool) => if b_39 = true then (J_38 (w64 ((w64 ((w64 (2 * i_17)) + 1)) + 1))) else (J_38 (w64 ((w64 (2 * i_17)) + 1)))) (fun J_40 => if (decide ((w64 ((w64 ((w64 (2 * i_17)) + 1)) + 1)) < a2)) = true then ((idx l_16 (w64 (a3 + (w64 ((w64 (2 * i_17)) + 1))))).bind fun x138 => (idx l_16 (w64 ((w64 (a3 + (w64 ((w64 (2 * i_17)) + 1)))) + 1))).bind fun x139 => (cmp_Less_uint64 x138 x139).bind fun r140 => J_40 r140) else (J_40 false))))

def slices_siftDownOrdered_uint64 (k : Nat) (a0 : (List Int)) (a1 : Int) (a2 : Int) (a3 : Int) : Option (List Int) := slices_siftDownOrdered_uint64.l0 a2 a3 k a0 a1

def slices_heapSortOrdered_uint64.l1 (a1 : Int) : Nat → (List Int) → Int → Option (List Int)
  | 0, _, _ => none
  | k_44 + 1, l_38, i_39 => if (decide (0 ≤ i_39)) = true then ((idx l_38 (w64 (a1 + i_39))).bind fun x125 => (idx l_38 a1).bind fun x126 => (idx l_38 a1).bind fun x127 => (upd l_38 a1 x125).bind fun l129 => (idx l129 (w64 (a1 + i_39))).bind fun x131 => (upd l129 (w64 (a1 + i_39)) x126).bind fun l133 => (slices_siftDownOrdered_uint64 k_44 l133 0 i_39 a1).bind fun r136 => slices_heapSortOrdered_uint64.l1 a1 k_44 r136 (w64 (i_39 - 1))) else (some l_38)

def slices_heapSortOrdered_uint64.l0 (a1 : Int) : Nat → (List Int) → Int → Int → Option (List Int)
  | 0, _, _, _ => none
  | k_32 + 1, l_24, i_25, i_26 => if (decide (0 ≤ i_26)) = true then ((slices_siftDownOrdered_uint64 k_32 l_24 i_26 i_25 a1).bind fun r46 => slices_heapSortOrdered_uint64.l0 a1 k_32 r46 i_25 (w64 (i_26 - 1))) else (slices_heapSortOrdered_uint64.l1 a1 k_32 l_24 (w64 (i_25 - 1)))

def slices_heapSortOrdered_uint64 (k : Nat) (a0 : (List Int)) (a1 : Int) (a2 : Int) : Option (List Int) := slices_heapSortOrdered_uint64.l0 a1 k a0 (w64 (a2 - a1)) (w64 (Int.tdiv (w64 ((w64 (a2 - a1)) - 1)) 2))

def slices_breakPatternsOrdered_uint64.l0 (a1 : Int) (r5 : Int) : Nat → (List Int) → Int → Int → Int → Option (List Int)
  | 0, _, _, _, _ => none
  | k_32 + 1, l_16, i_17, i_18, i_19 => if (decide (i_19 ≤ (w64 ((w64 (a1 + (w64 ((w64 (Int.tdiv i_17 4)) * 2)))) + 1)))) = true then ((slices_xorshift_Next i_18).bind fun r93 => Jn (fun (i_36 : Int) => (idx l_16 (w64 (a1 + i_36))).bind fun x97 => (idx l_16 i_19).bind fun x98 => (idx l_16 i_19).bind fun x99 => (upd l_16 i_19 x97).bind fun l101 => (idx l101 (w64 (a1 + i_36))).bind fun x103 => (upd l101 (w64 (a1 + i_36)) x98).bind fun l105 => slices_breakPatternsOrdered_uint64.l0 a1 r5 k_32 l105 i_17 r93.2 (w64 (i_19 + 1))) (fun J_38 => if (decide (i_17 ≤ (w64 (bits .and .u64 r93.1 (wu64 (r5 - 1)))))) = true then (J_38 (w64 ((w64 (bits .and .u64 r93.1 (wu64 (r5 - 1)))) - i_17))) else (J_38 (w64 (bits .and .u64 r93.1 (wu64 (r5 - 1))))))) else (some l_16)

def slices_breakPatternsOrdered_uint64 (k : Nat) (a0 : (List Int)) (a1 : Int) (a2 : Int) : Option (List Int) := if (decide (8 ≤ (w64 (a2 - a1)))) = true then ((slices_nextPowerOfTwo (w64 (a2 - a1))).bind fun r5 => slices_breakPatternsOrdered_uint64.l0 a1 r5 k a0 (w64 (a2 - a1)) (wu64 (w64 (a2 - a1))) (w64 ((w64 (a1 + (w64 ((w64 (Int.tdiv (w64 (a2 - a1)) 4)) * 2)))) - 1))) else (some a0)

def slices_order2Ordered_uint64 (a0 : (List Int)) (a1 : Int) (a2 : Int) (a3 : Int) : Option (Int × Int × Int) := (idx a0 a2).bind fun x8 => (idx a0 a1).bind fun x9 => (cmp_Less_uint64 x8 x9).bind fun r10 => if r10 = true then (some (a2, a1, w64 (a3 + 1))) else (some (a1, a2, a3))

def slices_medianOrdered_uint64 (a0 : (List Int)) (a1 : Int) (a2 : Int) (a3 : Int) (a4 : Int) : Option (Int × Int) := (slices_order2Ordered_uint64 a0 a1 a2 a4).bind fun r1 => (slices_order2Ordered_uint64 a0 r1.2.1 a3 r1.2.2).bind fun r4 => (slices_order2Ordered_uint64 a0 r1.1 r4.1 r4.2.2).bind fun r7 => some (r7.2.1, r7.2.2)

def slices_medianAdjacentOrdered_uint64 (a0 : (List Int)) (a1 : Int) (a2 : Int) : Option (Int × Int) := (slices_medianOrdered_uint64 a0 (w64 (a1 - 1)) a1 (w64 (a1 + 1)) a2).bind fun r1 => some (r1.1, r1.2)

def slices_choosePivotOrdered_uint64 (a0 : (List Int)) (a1 : Int) (a2 : Int) : Option (Int × Int) := Jn (fun (i_7 : Int) (i_8 : Int) => if (i_7 == 0) = true then (some (i_8, 1)) else (if (i_7 == 12) = true then (some (i_8, 2)) else (some (i_8, 0)))) (fun J_10 => if (decide (8 ≤ (w64 (a2 - a1)))) = true then (Jn (fun (i_11 : Int) (i_12 : Int) (i_13 : Int) (i_14 : Int) => (slices_medianOrdered_uint64 a0 i_12 i_13 i_14 i_11).bind fun r40 => J_10 r40.2 r40.1) (fun J_16 => if (decide (50 ≤ (w64 (a2 - a1)))) = true then ((slices_medianAdjacentOrdered_uint64 a0 (w64 (a1 + (w64 ((w64 (Int.tdiv (w64 (a2 - a1)) 4)) * 1)))) 0).bind fun r44 => (slices_medianAdjacentOrdered_uint64 a0 (w64 (a1 + (w64 ((w64 (Int.tdiv (w64 (a2 - a1)) 4)) * 2)))) r44.2).bind fun r47 => (slices_medianAdjacentOrdered_uint64 a0 (w64 (a1 + (w64 ((w64 (Int.tdiv (w64 (a2 - a1)) 4)) * 3)))) r47.2).bind fun r50 => J_16 r50.2 r44.1 r47.1 r50.1) else (J_16 0 (w64 (a1 + (w64 ((w64 (Int.tdiv (w64 (a2 - a1)) 4)) * 1)))) (w64 (a1 + (w64 ((w64 (Int.tdiv (w64 (a2 - a1)) 4)) * 2)))) (w64 (a1 + (w64 ((w64 (Int.tdiv (w64 (a2 - a1)) 4)) * 3))))))) else (J_10 0 (w64 (a1 + (w64 ((w64 (Int.tdiv (w64 (a2 - a1)) 4)) * 2))))))

def slices_reverseRangeOrdered_uint64.l0 : Nat → (List Int) → Int → Int → Option (List Int)
  | 0, _, _, _ => none
  | k_15 + 1, l_7, i_8, i_9 => if (decide (i_8 < i_9)) = true then ((idx l_7 i_9).bind fun x29 => (idx l_7 i_8).bind fun x30 => (idx l_7 i_8).bind fun x31 => (upd l_7 i_8 x29).bind fun l33 => (idx l33 i_9).bind fun x35 => (upd l33 i_9 x30).bind fun l37 => slices_reverseRangeOrdered_uint64.l0 k_15 l37 (w64 (i_8 + 1)) (w64 (i_9 - 1))) else (some l_7)

def slices_reverseRangeOrdered_uint64 (k : Nat) (a0 : (List Int)) (a1 : Int) (a2 : Int) : Option (List Int) := slices_reverseRangeOrdered_uint64.l0 k a0 a1 (w64 (a2 - 1))

def slices_partialInsertionSortOrdered_uint64.l3 (a2 : Int) (l_765 : (List Int)) (J_1083 : Int → Option (Bool × (List Int))) : Nat → Int → Option (Bool × (List Int))
  | 0, _ => none
  | k_1139 + 1, i_1129 => Jn (fun (b_1143 : Bool) => if b_1143 = true then (slices_partialInsertionSortOrdered_uint64.l3 a2 l_765 J_1083 k_1139 (w64 (i_1129 + 1))) else (J_1083 i_1129)) (fun J_1144 => if (decide (i_1129 < a2)) = true then ((idx l_765 i_1129).bind fun x6993 => (idx l_765 (w64 (i_1129 - 1))).bind fun x6994 => (cmp_Less_uint64 x6993 x6994).bind fun r6995 => J_1144 (!r6995)) else (J_1144 false))

def slices_partialInsertionSortOrdered_uint64.l2 (J_1097 : (List Int) → Option (Bool × (List Int))) : Nat → (List Int) → Int → Option (Bool × (List Int))
  | 0, _, _ => none
  | k_1119 + 1, l_1113, i_1114 => if (decide (1 ≤ i_1114)) = true then ((idx l_1113 i_1114).bind fun x6914 => (idx l_1113 (w64 (i_1114 - 1))).bind fun x6915 => (cmp_Less_uint64 x6914 x6915).bind fun r6916 => if (!r6916) = true then (J_1097 l_1113) else ((idx l_1113 (w64 (i_1114 - 1))).bind fun x6920 => (idx l_1113 i_1114).bind fun x6921 => (idx l_1113 i_1114).bind fun x6922 => (upd l_1113 i_1114 x6920).bind fun l6924 => (idx l6924 (w64 (i_1114 - 1))).bind fun x6926 => (upd l6924 (w64 (i_1114 - 1)) x6921).bind fun l6928 => slices_partialInsertionSortOrdered_uint64.l2 J_1097 k_1119 l6928 (w64 (i_1114 - 1)))) else (J_1097 l_1113)

def slices_partialInsertionSortOrdered_uint64.l1 (a2 : Int) (J_1054 : (List Int) → Int → Option (Bool × (List Int))) (i_1081 : Int) : Nat → (List Int) → Int → Option (Bool × (List Int))
  | 0, _, _ => none
  | k_1108 + 1, l_1102, i_1103 => if (decide (i_1103 < a2)) = true then ((idx l_1102 i_1103).bind fun x6769 => (idx l_1102 (w64 (i_1103 - 1))).bind fun x6770 => (cmp_Less_uint64 x6769 x6770).bind fun r6771 => if (!r6771) = true then (J_1054 l_1102 i_1081) else ((idx l_1102 (w64 (i_1103 - 1))).bind fun x6775 => (idx l_1102 i_1103).bind fun x6776 => (idx l_1102 i_1103).bind fun x6777 => (upd l_1102 i_1103 x6775).bind fun l6779 => (idx l6779 (w64 (i_1103 - 1))).bind fun x6781 => (upd l6779 (w64 (i_1103 - 1)) x6776).bind fun l6783 => slices_partialInsertionSortOrdered_uint64.l1 a2 J_1054 i_1081 k_1108 l6783 (w64 (i_1103 + 1)))) else (J_1054 l_1102 i_1081)

def slices_partialInsertionSortOrdered_uint64.l0 (a1 : Int) (a2 : Int) : Nat → (List Int) → Int → Int → Option (Bool × (List Int))
  | 0, _, _, _ => none
  | k_959 + 1, l_765, i_766, i_767 => if (decide (i_767 < 5)) = true then (Jn (fun (l_1051 : (List Int)) (i_1052 : Int) => slices_partialInsertionSortOrdered_uint64.l0 a1 a2 k_959 l_1051 i_1052 (w64 (i_767 + 1))) (fun J_1054 => Jn (fun (i_1081 : Int) => if (i_1081 == a2) = true then (some (true, l_765)) else (if (decide ((w64 (a2 - a1)) < 50)) = true then (some (false, l_765)) else ((idx l_765 (w64 (i_1081 - 1))).bind fun x6485 => (idx l_765 i_1081).bind fun x6486 => (idx l_765 i_1081).bind fun x6487 => (upd l_765 i_1081 x6485).bind fun l6489 => (idx l6489 (w64 (i_1081 - 1))).bind fun x6491 => (upd l6489 (w64 (i_1081 - 1)) x6486).bind fun l6493 => Jn (fun (l_1095 : (List Int)) => if (decide (2 ≤ (w64 (a2 - i_1081)))) = true then (slices_partialInsertionSortOrdered_uint64.l1 a2 J_1054 i_1081 k_959 l_1095 (w64 (i_1081 + 1))) else (J_1054 l_1095 i_1081)) (fun J_1097 => if (decide (2 ≤ (w64 (i_1081 - a1)))) = true then (slices_partialInsertionSortOrdered_uint64.l2 J_1097 k_959 l6493 (w64 (i_1081 - 1))) else (J_1097 l6493))))) (fun J_1083 => slices_partialInsertionSortOrdered_uint64.l3 a2 l_765 J_1083 k_959 i_766))) else (some (false, l_765))

def slices_partialInsertionSortOrdered_uint64 (k : Nat) (a0 : (List Int)) (a1 : Int) (a2 : Int) : Option (Bool × (List Int)) := slices_partialInsertionSortOrdered_uint64.l0 a1 a2 k a0 (w64 (a1 + 1)) 0

def slices_partitionEqualOrdered_uint64.l2 (a1 : Int) (l_462 : (List Int)) (i_464 : Int) (J_609 : Int → Option (Int × (List Int))) : Nat → Int → Option (Int × (List Int))
  | 0, _ => none
  | k_684 + 1, i_674 => Jn (fun (b_688 : Bool) => if b_688 = true then (slices_partitionEqualOrdered_uint64.l2 a1 l_462 i_464 J_609 k_684 (w64 (i_674 + 1))) else (J_609 i_674)) (fun J_689 => if (decide (i_674 ≤ i_464)) = true then ((idx l_462 a1).bind fun x1670 => (idx l_462 i_674).bind fun x1671 => (cmp_Less_uint64 x1670 x1671).bind fun r1672 => J_689 (!r1672)) else (J_689 false))

def slices_partitionEqualOrdered_uint64.l1 (a1 : Int) (l_462 : (List Int)) (i_607 : Int) (J_638 : Int → Option (Int × (List Int))) : Nat → Int → Option (Int × (List Int))
  | 0, _ => none
  | k_658 + 1, i_648 => Jn (fun (b_662 : Bool) => if b_662 = true then (slices_partitionEqualOrdered_uint64.l1 a1 l_462 i_607 J_638 k_658 (w64 (i_648 - 1))) else (J_638 i_648)) (fun J_663 => if (decide (i_607 ≤ i_648)) = true then ((idx l_462 a1).bind fun x1604 => (idx l_462 i_648).bind fun x1605 => (cmp_Less_uint64 x1604 x1605).bind fun r1606 => J_663 r1606) else (J_663 false))

def slices_partitionEqualOrdered_uint64.l0 (a1 : Int) : Nat → (List Int) → Int → Int → Option (Int × (List Int))
  | 0, _, _, _ => none
  | k_580 + 1, l_462, i_463, i_464 => Jn (fun (i_607 : Int) => Jn (fun (i_636 : Int) => if (decide (i_636 < i_607)) = true then (some (i_607, l_462)) else ((idx l_462 i_636).bind fun x1531 => (idx l_462 i_607).bind fun x1532 => (idx l_462 i_607).bind fun x1533 => (upd l_462 i_607 x1531).bind fun l1535 => (idx l1535 i_636).bind fun x1537 => (upd l1535 i_636 x1532).bind fun l1539 => slices_partitionEqualOrdered_uint64.l0 a1 k_580 l1539 (w64 (i_607 + 1)) (w64 (i_636 - 1)))) (fun J_638 => slices_partitionEqualOrdered_uint64.l1 a1 l_462 i_607 J_638 k_580 i_464)) (fun J_609 => slices_partitionEqualOrdered_uint64.l2 a1 l_462 i_464 J_609 k_580 i_463)

def slices_partitionEqualOrdered_uint64 (k : Nat) (a0 : (List Int)) (a1 : Int) (a2 : Int) (a3 : Int) : Option (Int × (List Int)) := (idx a0 a3).bind fun x1 => (idx a0 a1).bind fun x2 => (idx a0 a1).bind fun x3 => (upd a0 a1 x1).bind fun l5 => (idx l5 a3).bind fun x7 => (upd l5 a3 x2).bind fun l9 => slices_partitionEqualOrdered_uint64.l0 a1 k l9 (w64 (a1 + 1)) (w64 (a2 - 1))

def slices_partitionOrdered_uint64.l4 (a1 : Int) (l9 : (List Int)) (i_20 : Int) (J_67 : Int → Option (Int × Bool × (List Int))) : Nat → Int → Option (Int × Bool × (List Int))
  | 0, _ => none
  | k_779 + 1, i_769 => Jn (fun (b_783 : Bool) => if b_783 = true then (slices_partitionOrdered_uint64.l4 a1 l9 i_20 J_67 k_779 (w64 (i_769 - 1))) else (J_67 i_769)) (fun J_784 => if (decide (i_20 ≤ i_769)) = true then ((idx l9 i_769).bind fun x1932 => (idx l9 a1).bind fun x1933 => (cmp_Less_uint64 x1932 x1933).bind fun r1934 => J_784 (!r1934)) else (J_784 false))

def slices_partitionOrdered_uint64.l3 (a1 : Int) (l_531 : (List Int)) (i_533 : Int) (J_678 : Int → Option (Int × Bool × (List Int))) : Nat → Int → Option (Int × Bool × (List Int))
  | 0, _ => none
  | k_753 + 1, i_743 => Jn (fun (b_757 : Bool) => if b_757 = true then (slices_partitionOrdered_uint64.l3 a1 l_531 i_533 J_678 k_753 (w64 (i_743 + 1))) else (J_678 i_743)) (fun J_758 => if (decide (i_743 ≤ i_533)) = true then ((idx l_531 i_743).bind fun x1866 => (idx l_531 a1).bind fun x1867 => (cmp_Less_uint64 x1866 x1867).bind fun r1868 => J_758 r1868) else (J_758 false))

def slices_partitionOrdered_uint64.l2 (a1 : Int) (l_531 : (List Int)) (i_676 : Int) (J_707 : Int → Option (Int × Bool × (List Int))) : Nat → Int → Option (Int × Bool × (List Int))
  | 0, _ => none
  | k_727 + 1, i_717 => Jn (fun (b_731 : Bool) => if b_731 = true then (slices_partitionOrdered_uint64.l2 a1 l_531 i_676 J_707 k_727 (w64 (i_717 - 1))) else (J_707 i_717)) (fun J_732 => if (decide (i_676 ≤ i_717)) = true then ((idx l_531 i_717).bind fun x1800 => (idx l_531 a1).bind fun x1801 => (cmp_Less_uint64 x1800 x1801).bind fun r1802 => J_732 (!r1802)) else (J_732 false))

def slices_partitionOrdered_uint64.l1 (a1 : Int) (J_415 : (List Int) → Int → Option (Int × Bool × (List Int))) : Nat → (List Int) → Int → Int → Option (Int × Bool × (List Int))
  | 0, _, _, _ => none
  | k_649 + 1, l_531, i_532, i_533 => Jn (fun (i_676 : Int) => Jn (fun (i_705 : Int) => if (decide (i_705 < i_676)) = true then (J_415 l_531 i_705) else ((idx l_531 i_705).bind fun x1727 => (idx l_531 i_676).bind fun x1728 => (idx l_531 i_676).bind fun x1729 => (upd l_531 i_676 x1727).bind fun l1731 => (idx l1731 i_705).bind fun x1733 => (upd l1731 i_705 x1728).bind fun l1735 => slices_partitionOrdered_uint64.l1 a1 J_415 k_649 l1735 (w64 (i_676 + 1)) (w64 (i_705 - 1)))) (fun J_707 => slices_partitionOrdered_uint64.l2 a1 l_531 i_676 J_707 k_649 i_533)) (fun J_678 => slices_partitionOrdered_uint64.l3 a1 l_531 i_533 J_678 k_649 i_532)

def slices_partitionOrdered_uint64.l0 (a1 : Int) (l9 : (List Int)) : Nat → Int → Int → Option (Int × Bool × (List Int))
  | 0, _, _ => none
  | k_32 + 1, i_20, i_21 => Jn (fun (b_36 : Bool) => if b_36 = true then (slices_partitionOrdered_uint64.l0 a1 l9 k_32 (w64 (i_20 + 1)) i_21) else (Jn (fun (i_65 : Int) => if (decide (i_65 < i_20)) = true then ((idx l9 a1).bind fun x175 => (idx l9 i_65).bind fun x176 => (idx l9 i_65).bind fun x177 => (upd l9 i_65 x175).bind fun l179 => (idx l179 a1).bind fun x181 => (upd l179 a1 x176).bind fun l183 => some (i_65, true, l183)) else ((idx l9 i_65).bind fun x186 => (idx l9 i_20).bind fun x187 => (idx l9 i_20).bind fun x188 => (upd l9 i_20 x186).bind fun l190 => (idx l190 i_65).bind fun x192 => (upd l190 i_65 x187).bind fun l194 => Jn (fun (l_412 : (List Int)) (i_413 : Int) => (idx l_412 a1).bind fun x1028 => (idx l_412 i_413).bind fun x1029 => (idx l_412 i_413).bind fun x1030 => (upd l_412 i_413 x1028).bind fun l1032 => (idx l1032 a1).bind fun x1034 => (upd l1032 a1 x1029).bind fun l1036 => some (i_413, false, l1036)) (fun J_415 => slices_partitionOrdered_uint64.l1 a1 J_415 k_32 l194 (w64 (i_20 + 1)) (w64 (i_65 - 1))))) (fun J_67 => slices_partitionOrdered_uint64.l4 a1 l9 i_20 J_67 k_32 i_21))) (fun J_37 => if (decide (i_20 ≤ i_21)) = true then ((idx l9 i_20).bind fun x1936 => (idx l9 a1).bind fun x1937 => (cmp_Less_uint64 x1936 x1937).bind fun r1938 => J_37 r1938) else (J_37 false))

def slices_partitionOrdered_uint64 (k : Nat) (a0 : (List Int)) (a1 : Int) (a2 : Int) (a3 : Int) : Option (Int × Bool × (List Int)) := (idx a0 a3).bind fun x1 => (idx a0 a1).bind fun x2 => (idx a0 a1).bind fun x3 => (upd a0 a1 x1).bind fun l5 => (idx l5 a3).bind fun x7 => (upd l5 a3 x2).bind fun l9 => slices_partitionOrdered_uint64.l0 a1 l9 k (w64 (a1 + 1)) (w64 (a2 - 1))

def slices_pdqsortOrdered_uint64.l0 (RCALL : (List Int) → Int → Int → Int → Option (List Int)) : Nat → (List Int) → Int → Int → Int → Bool → Bool → Option (List Int)
  | 0, _, _, _, _, _, _ => none
  | k_60 + 1, l_28, i_29, i_30, i_31, b_32, b_33 => if (decide ((w64 (i_30 - i_29)) ≤ 12)) = true then ((slices_insertionSortOrdered_uint64 k_60 l_28 i_29 i_30).bind fun r178 => some r178) else (if (i_31 == 0) = true then ((slices_heapSortOrdered_uint64 k_60 l_28 i_29 i_30).bind fun r186 => some r186) else (Jn (fun (l_61 : (List Int)) (i_62 : Int) => (slices_choosePivotOrdered_uint64 l_61 i_29 i_30).bind fun r193 => Jn (fun (l_65 : (List Int)) (i_66 : Int) (i_67 : Int) => Jn (fun (l_70 : (List Int)) => Jn (fun (b_76 : Bool) => if b_76 = true then ((slices_partitionEqualOrdered_uint64 k_60 l_70 i_29 i_30 i_66).bind fun r227 => slices_pdqsortOrdered_uint64.l0 RCALL k_60 r227.2 r227.1 i_30 i_62 b_32 b_33) else ((slices_partitionOrdered_uint64 k_60 l_70 i_29 i_30 i_66).bind fun r230 => if (decide ((w64 (r230.1 - i_29)) < (w64 (i_30 - r230.1)))) = true then ((RCALL r230.2.2 i_29 r230.1 i_62).bind fun r234 => slices_pdqsortOrdered_uint64.l0 RCALL k_60 r234 (w64 (r230.1 + 1)) i_30 i_62 (decide ((w64 (Int.tdiv (w64 (i_30 - i_29)) 8)) ≤ (w64 (r230.1 - i_29)))) r230.2.1) else ((RCALL r230.2.2 (w64 (r230.1 + 1)) i_30 i_62).bind fun r237 => slices_pdqsortOrdered_uint64.l0 RCALL k_60 r237 i_29 r230.1 i_62 (decide ((w64 (Int.tdiv (w64 (i_30 - i_29)) 8)) ≤ (w64 (i_30 - r230.1)))) r230.2.1))) (fun J_77 => if (decide (0 < i_29)) = true then ((idx l_70 (w64 (i_29 - 1))).bind fun x240 => (idx l_70 i_66).bind fun x241 => (cmp_Less_uint64 x240 x241).bind fun r242 => J_77 (!r242)) else (J_77 false))) (fun J_72 => if ((b_32 && b_33) && (i_67 == 1)) = true then ((slices_partialInsertionSortOrdered_uint64 k_60 l_65 i_29 i_30).bind fun r247 => if r247.1 = true then (some r247.2) else (J_72 r247.2)) else (J_72 l_65))) (fun J_69 => if (r193.2 == 2) = true then ((slices_reverseRangeOrdered_uint64 k_60 l_61 i_29 i_30).bind fun r252 => J_69 r252 (w64 ((w64 (i_30 - 1)) - (w64 (r193.1 - i_29)))) 1) else (J_69 l_61 r193.1 r193.2))) (fun J_64 => if (!b_32) = true then ((slices_breakPatternsOrdered_uint64 k_60 l_28 i_29 i_30).bind fun r256 => J_64 r256 (w64 (i_31 - 1))) else (J_64 l_28 i_31))))

def slices_pdqsortOrdered_uint64 : Nat → (List Int) → Int → Int → Int → Option (List Int)
  | 0, _, _, _, _ => none
  | k + 1, a0, a1, a2, a3 => slices_pdqsortOrdered_uint64.l0 (fun x0 x1 x2 x3 => slices_pdqsortOrdered_uint64 k x0 x1 x2 x3) k a0 a1 a2 a3 true true

def slices_Sort_uint64 (k : Nat) (a0 : (List Int)) : Option (List Int) := (math_bits_Len (wu64 (a0.length : Int))).bind fun r1 => (slices_pdqsortOrdered_uint64 k a0 0 (a0.length : Int) r1).bind fun r3 => some r3

def slices_Compact_uint64.l1 (a0 : (List Int)) (i_468 : Int) (J_674 : (List Int) → Int → Option (List Int)) : Nat → (List Int) → Int → Int → Option (List Int)
  | 0, _, _, _ => none
  | k_696 + 1, l_684, i_685, i_686 => (cut l_684 i_468 (a0.length : Int)).bind fun l1533 => if (decide (i_686 < (l1533.length : Int))) = true then (Jn (fun (l_697 : (List Int)) (i_698 : Int) => slices_Compact_uint64.l1 a0 i_468 J_674 k_696 l_697 i_698 (w64 (i_686 + 1))) (fun J_700 => (idx l1533 i_686).bind fun x1543 => (idx l1533 (w64 (i_686 - 1))).bind fun x1544 => if (x1543 != x1544) = true then ((idx l1533 i_686).bind fun x1547 => (idx l_684 i_685).bind fun x1548 => (upd l_684 i_685 x1547).bind fun l1549 => J_700 l1549 (w64 (i_685 + 1))) else (J_700 l_684 i_685))) else (J_674 l_684 i_685)

def slices_Compact_uint64.l0 (a0 : (List Int)) : Nat → Int → Option (List Int)
  | 0, _ => none
  | k_586 + 1, i_468 => if (decide (i_468 < (a0.length : Int))) = true then (Jn (slices_Compact_uint64.l0 a0 k_586 (w64 (i_468 + 1))) (fun J_644 => (idx a0 i_468).bind fun x1423 => (idx a0 (w64 (i_468 - 1))).bind fun x1424 => if (x1423 == x1424) = true then ((cut a0 i_468 (a0.length : Int)).bind fun l1427 => Jn (fun (l_671 : (List Int)) (i_672 : Int) => (cut l_671 i_672 (l_671.length : Int)).bind fun l1488 => (cut (clr l_671 (Int.toNat i_672) (Int.toNat (l_671.length : Int)) 0) 0 i_672).bind fun l1490 => some l1490) (fun J_674 => slices_Compact_uint64.l1 a0 i_468 J_674 k_586 a0 i_468 1)) else (J_644))) else (some a0)

def slices_Compact_uint64 (k : Nat) (a0 : (List Int)) : Option (List Int) := if (decide ((a0.length : Int) < 2)) = true then (some a0) else (slices_Compact_uint64.l0 a0 k 1)

def tomb_unlike_uint64 (k : Nat) (a0 : (List Int)) : Option (List Int) := (slices_Sort_uint64 k a0).bind fun r1 => (slices_Compact_uint64 k r1).bind fun r4 => some r4

def slices_Reverse_uint64.l0 : Nat → (List Int) → Int → Int → Option (List Int)
  | 0, _, _, _ => none
  | k_15 + 1, l_7, i_8, i_9 => if (decide (i_8 < i_9)) = true then ((idx l_7 i_9).bind fun x62 => (idx l_7 i_8).bind fun x63 => (idx l_7 i_8).bind fun x64 => (upd l_7 i_8 x62).bind fun l66 => (idx l66 i_9).bind fun x68 => (upd l66 i_9 x63).bind fun l70 => slices_Reverse_uint64.l0 k_15 l70 (w64 (i_8 + 1)) (w64 (i_9 - 1))) else (some l_7)

def slices_Reverse_uint64 (k : Nat) (a0 : (List Int)) : Option (List Int) := slices_Reverse_uint64.l0 k a0 0 (w64 ((a0.length : Int) - 1))

def slices_Equal_uint64.l0 (a0 : (List Int)) (a1 : (List Int)) : Nat → Int → Option Bool
  | 0, _ => none
  | k_16 + 1, i_12 => if (decide (i_12 < (a0.length : Int))) = true then ((idx a0 i_12).bind fun x59 => (idx a1 i_12).bind fun x60 => if (x59 != x60) = true then (some false) else (slices_Equal_uint64.l0 a0 a1 k_16 (w64 (i_12 + 1)))) else (some true)

def slices_Equal_uint64 (k : Nat) (a0 : (List Int)) (a1 : (List Int)) : Option Bool := if ((a0.length : Int) != (a1.length : Int)) = true then (some false) else (slices_Equal_uint64.l0 a0 a1 k 0)

def tomb_Fragments.l2 (r1 : (List Tomb)) (x2810 : ByteArray) (x2811 : ByteArray) (J_981 : (List Int) → Option (List Fragment)) : Nat → (List Int) → Int → Option (List Fragment)
  | 0, _, _ => none
  | k_1019 + 1, l_1007, i_1008 => if (decide (i_1008 < (r1.length : Int))) = true then (Jn (fun (l_1021 : (List Int)) => tomb_Fragments.l2 r1 x2810 x2811 J_981 k_1019 l_1021 (w64 (i_1008 + 1))) (fun J_1023 => (idx r1 i_1008).bind fun x3057 => if ((sLt x3057.Begin x2810 || sEq x3057.Begin x2810) && (sLt x2811 x3057.End || sEq x2811 x3057.End)) = true then ((push 28147497670912 l_1007 x3057.Seq).bind fun l3065 => J_1023 l3065) else (J_1023 l_1007))) else (J_981 l_1007)

def tomb_Fragments.l1 (r1 : (List Tomb)) (r142 : (List ByteArray)) (J_531 : (List Fragment) → Option (List Fragment)) : Nat → (List Fragment) → Int → Option (List Fragment)
  | 0, _, _ => none
  | k_865 + 1, l_699, i_700 => if (decide (i_700 < (r142.length : Int))) = true then (Jn (fun (l_944 : (List Fragment)) => tomb_Fragments.l1 r1 r142 J_531 k_865 l_944 (w64 (i_700 + 1))) (fun J_946 => (idx r142 (w64 (i_700 - 1))).bind fun x2810 => (idx r142 i_700).bind fun x2811 => Jn (fun (l_979 : (List Int)) => if ((l_979.length : Int) == 0) = true then (J_946 l_699) else ((tomb_unlike_uint64 k_865 l_979).bind fun r2902 => (slices_Reverse_uint64 k_865 r2902).bind fun r2908 => Jn (fun (b_988 : Bool) => Jn (fun (b_991 : Bool) => if b_991 = true then ((idx l_699 (w64 ((l_699.length : Int) - 1))).bind fun x2964 => (upd l_699 (w64 ((l_699.length : Int) - 1)) (⟨x2964.Begin, x2811, x2964.Seqs⟩ : Fragment)).bind fun l2969 => J_946 l2969) else ((push 4021071095713 l_699 (⟨x2810, x2811, r2908⟩ : Fragment)).bind fun l2973 => J_946 l2973)) (fun J_992 => if b_988 = true then ((idx l_699 (w64 ((l_699.length : Int) - 1))).bind fun x2976 => (slices_Equal_uint64 k_865 x2976.Seqs r2908).bind fun r2981 => J_992 r2981) else (J_992 false))) (fun J_989 => if (decide (0 < (l_699.length : Int))) = true then ((idx l_699 (w64 ((l_699.length : Int) - 1))).bind fun x2983 => J_989 (sEq x2983.End x2810)) else (J_989 false)))) (fun J_981 => tomb_Fragments.l2 r1 x2810 x2811 J_981 k_865 ([]) 0))) else (J_531 l_699)

def tomb_Fragments.l0 (r1 : (List Tomb)) : Nat → (List ByteArray) → Int → Option (List Fragment)
  | 0, _, _ => none
  | k_34 + 1, l_26, i_27 => if (decide (i_27 < (r1.length : Int))) = true then ((idx r1 i_27).bind fun x132 => (pushN 14073748835379 l_26 ([x132.Begin, x132.End])).bind fun l139 => tomb_Fragments.l0 r1 k_34 l139 (w64 (i_27 + 1))) else ((tomb_unlike_string k_34 l_26).bind fun r142 => Jn (fun (l_529 : (List Fragment)) => some l_529) (fun J_531 => tomb_Fragments.l1 r1 r142 J_531 k_34 ([]) 1))

def tomb_Fragments (k : Nat) (a0 : (List Tomb)) : Option (List Fragment) := (tomb_valid k a0).bind fun r1 => tomb_Fragments.l0 r1 k ([]) 0

def l09_covers (a0 : Tomb) (a1 : ByteArray) : Option Bool := some ((((((decide (1 ≤ (a0.Begin.size : Int))) && (decide ((a0.Begin.size : Int) ≤ 1024))) && (decide ((a0.End.size : Int) ≤ 1025))) && (decide (a0.Seq ≤ 72057594037927935))) && (sLt a0.Begin a1 || sEq a0.Begin a1)) && (sLt a1 a0.End))

def tomb_Cover.l0 (a0 : (List Tomb)) (a1 : ByteArray) (a2 : Int) : Nat → Int → Bool → Int → Option (Int × Bool)
  | 0, _, _, _ => none
  | k_48 + 1, i_36, b_37, i_38 => if (decide (i_38 < (a0.length : Int))) = true then (Jn (fun (i_49 : Int) (b_50 : Bool) => tomb_Cover.l0 a0 a1 a2 k_48 i_49 b_50 (w64 (i_38 + 1))) (fun J_52 => (idx a0 i_38).bind fun x123 => (tomb_Valid x123).bind fun r127 => if (((r127 && (decide (x123.Seq ≤ a2))) && (sLt x123.Begin a1 || sEq x123.Begin a1)) && (sLt a1 x123.End)) = true then (J_52 (maxI i_36 x123.Seq) true) else (J_52 i_36 b_37))) else (some (i_36, b_37))

def tomb_Cover (k : Nat) (a0 : (List Tomb)) (a1 : ByteArray) (a2 : Int) : Option (Int × Bool) := tomb_Cover.l0 a0 a1 a2 k 0 false 0

def l09_TombPieces.l5 (a0 : (List Tomb)) (l_557 : (List Int)) (i_3360 : Int) (J_3583 : Bool → Option Bool) : Nat → Bool → Int → Option Bool
  | 0, _, _ => none
  | k_3606 + 1, b_3594, i_3595 => if (decide (i_3595 < (l_557.length : Int))) = true then (Jn (fun (b_3610 : Bool) => l09_TombPieces.l5 a0 l_557 i_3360 J_3583 k_3606 b_3610 (w64 (i_3595 + 1))) (fun J_3611 => if b_3594 = true then (J_3611 true) else ((idx l_557 i_3595).bind fun x9390 => (idx a0 i_3360).bind fun x9391 => J_3611 (x9390 == x9391.Seq)))) else (J_3583 b_3594)

def l09_TombPieces.l4 (a0 : (List Tomb)) (a1 : ByteArray) (l_557 : (List Int)) (J_1162 : Option Bool) : Nat → Int → Option Bool
  | 0, _ => none
  | k_3488 + 1, i_3360 => if (decide (i_3360 < (a0.length : Int))) = true then (Jn (l09_TombPieces.l4 a0 a1 l_557 J_1162 k_3488 (w64 (i_3360 + 1))) (fun J_3551 => Jn (fun (b_3581 : Bool) => (idx a0 i_3360).bind fun x9345 => (l09_covers x9345 a1).bind fun r9346 => if (r9346 && (!b_3581)) = true then (some false) else (J_3551)) (fun J_3583 => l09_TombPieces.l5 a0 l_557 i_3360 J_3583 k_3488 false 0))) else (J_1162)

def l09_TombPieces.l3 (a0 : (List Tomb)) (a1 : ByteArray) (l_557 : (List Int)) (i_2548 : Int) (J_3149 : Bool → Option Bool) : Nat → Bool → Int → Option Bool
  | 0, _, _ => none
  | k_3208 + 1, b_3178, i_3179 => if (decide (i_3179 < (a0.length : Int))) = true then (Jn (fun (b_3224 : Bool) => l09_TombPieces.l3 a0 a1 l_557 i_2548 J_3149 k_3208 b_3224 (w64 (i_3179 + 1))) (fun J_3225 => if b_3178 = true then (J_3225 true) else ((idx a0 i_3179).bind fun x8844 => (l09_covers x8844 a1).bind fun r8845 => Jn (fun (b_3230 : Bool) => J_3225 b_3230) (fun J_3231 => if r8845 = true then ((idx a0 i_3179).bind fun x8850 => (idx l_557 i_2548).bind fun x8851 => J_3231 (x8850.Seq == x8851)) else (J_3231 false))))) else (J_3149 b_3178)

def l09_TombPieces.l2 (a0 : (List Tomb)) (a1 : ByteArray) (l_557 : (List Int)) (J_2192 : Option Bool) : Nat → Int → Option Bool
  | 0, _ => none
  | k_2892 + 1, i_2548 => if (decide (i_2548 < (l_557.length : Int))) = true then (Jn (l09_TombPieces.l2 a0 a1 l_557 J_2192 k_2892 (w64 (i_2548 + 1))) (fun J_3063 => Jn (fun (b_3147 : Bool) => if (!b_3147) = true then (some false) else (J_3063)) (fun J_3149 => l09_TombPieces.l3 a0 a1 l_557 i_2548 J_3149 k_2892 false 0))) else (J_2192)

def l09_TombPieces.l1 (r1 : (List Fragment)) (i_559 : Int) (J_766 : Option Bool) : Nat → Int → Option Bool
  | 0, _ => none
  | k_777 + 1, i_773 => (idx r1 i_559).bind fun x5483 => if (decide (i_773 < (x5483.Seqs.length : Int))) = true then ((idx r1 i_559).bind fun x5503 => (idx x5503.Seqs i_773).bind fun x5508 => (idx r1 i_559).bind fun x5509 => (idx x5509.Seqs (w64 (i_773 - 1))).bind fun x5514 => if (decide (x5514 ≤ x5508)) = true then (some false) else (l09_TombPieces.l1 r1 i_559 J_766 k_777 (w64 (i_773 + 1)))) else (J_766)

def l09_TombPieces.l0 (a0 : (List Tomb)) (a1 : ByteArray) (r1 : (List Fragment)) : Nat → (List Int) → Int → Option Bool
  | 0, _, _ => none
  | k_673 + 1, l_557, i_559 => if (decide (i_559 < (r1.length : Int))) = true then (Jn (fun (l_726 : (List Int)) => l09_TombPieces.l0 a0 a1 r1 k_673 l_726 (w64 (i_559 + 1))) (fun J_729 => (idx r1 i_559).bind fun x5215 => (idx r1 i_559).bind fun x5220 => Jn (fun (b_748 : Bool) => Jn (fun (b_754 : Bool) => if b_754 = true then (some false) else (Jn ((idx r1 i_559).bind fun x5375 => Jn (fun (b_767 : Bool) => if b_767 = true then ((idx r1 i_559).bind fun x5387 => J_729 x5387.Seqs) else (J_729 l_557)) (fun J_768 => if (sLt x5375.Begin a1 || sEq x5375.Begin a1) = true then ((idx r1 i_559).bind fun x5392 => J_768 (sLt a1 x5392.End)) else (J_768 false))) (fun J_766 => l09_TombPieces.l1 r1 i_559 J_766 k_673 1))) (fun J_755 => if b_748 = true then (J_755 true) else ((idx r1 i_559).bind fun x5517 => J_755 ((x5517.Seqs.length : Int) == 0)))) (fun J_749 => if (!sLt x5215.Begin x5220.End) = true then (J_749 true) else (Jn (fun (b_778 : Bool) => J_749 b_778) (fun J_779 => if (decide (0 < i_559)) = true then ((idx r1 (w64 (i_559 - 1))).bind fun x5533 => (idx r1 i_559).bind fun x5538 => J_779 (!(sLt x5533.End x5538.Begin || sEq x5533.End x5538.Begin))) else (J_779 false)))))) else (Jn (Jn ((tomb_Cover k_673 a0 a1 72057594037927935).bind fun r7463 => Jn (fun (b_2196 : Bool) => some b_2196) (fun J_2197 => if (r7463.2 == (decide (0 < (l_557.length : Int)))) = true then (Jn (fun (b_2202 : Bool) => J_2197 b_2202) (fun J_2203 => if (!r7463.2) = true then (J_2203 true) else ((idx l_557 0).bind fun x7471 => J_2203 (r7463.1 == x7471)))) else (J_2197 false))) (fun J_2192 => l09_TombPieces.l2 a0 a1 l_557 J_2192 k_673 0)) (fun J_1162 => l09_TombPieces.l4 a0 a1 l_557 J_1162 k_673 0))

def l09_TombPieces (k : Nat) (a0 : (List Tomb)) (a1 : ByteArray) : Option Bool := (tomb_Fragments k a0).bind fun r1 => l09_TombPieces.l0 a0 a1 r1 k ([]) 0
end Go.Proofs.Ytmbhgfigffahbaa.Mo
