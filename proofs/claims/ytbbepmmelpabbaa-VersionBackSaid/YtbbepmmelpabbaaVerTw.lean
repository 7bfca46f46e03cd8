/- Printed by gen.py: structures, and the plain twins of Go functions. -/
import Derived.Test.YtbbepmmelpabbaaSyRange
set_option linter.unusedVariables false
set_option linter.unusedSectionVars false
set_option linter.unusedSimpArgs false
set_option maxRecDepth 100000
namespace Go.Proofs.Ytbbepmmelpabbaa.Mo
open Go Go.Proofs.Ytbbepmmelpabbaa.Sy
structure File where
  Number : Int
  Size : Int
  Least : ByteArray
  Limit : ByteArray
  Low : Int
  High : Int

def File.enc (x : File) : List _root_.Go.Value := [.int .i64 x.Number, .int .i64 x.Size, .string x.Least, .string x.Limit, .int .u64 x.Low, .int .u64 x.High]

def File.eqb (x y : File) : Bool := (x.Number == y.Number) && ((x.Size == y.Size) && (sEq x.Least y.Least && (sEq x.Limit y.Limit && ((x.Low == y.Low) && ((x.High == y.High) && (true))))))

structure Place where
  Level : Int
  Number : Int

def Place.enc (x : Place) : List _root_.Go.Value := [.int .i64 x.Level, .int .i64 x.Number]

def Place.eqb (x y : Place) : Bool := (x.Level == y.Level) && ((x.Number == y.Number) && (true))

structure Added where
  Level : Int
  File : File

def Added.enc (x : Added) : List _root_.Go.Value := [.int .i64 x.Level, .int .i64 x.File.Number, .int .i64 x.File.Size, .string x.File.Least, .string x.File.Limit, .int .u64 x.File.Low, .int .u64 x.File.High]

def Added.eqb (x y : Added) : Bool := (x.Level == y.Level) && (File.eqb x.File y.File && (true))

structure Edit where
  Log : Int
  Next : Int
  Seq : Int
  Gone : (List Place)
  Come : (List Added)

structure L16_Ask where
  Level : Int
  Least : ByteArray
  Limit : ByteArray
  Key : ByteArray

def L16_Ask.enc (x : L16_Ask) : List _root_.Go.Value := [.int .i64 x.Level, .string x.Least, .string x.Limit, .string x.Key]

def L16_Ask.eqb (x y : L16_Ask) : Bool := (x.Level == y.Level) && (sEq x.Least y.Least && (sEq x.Limit y.Limit && (sEq x.Key y.Key && (true))))

def l16_names : Option Bool := some true

def l16_copied.l0 (a0 : (List (List File))) : Nat → (List (List File)) → Int → Option (List (List File))
  | 0, _, _ => none
  | k_28 + 1, l_21, i_22 => if (decide (i_22 < (a0.length : Int))) = true then ((idx a0 i_22).bind fun x195 => (pushN 3518437208730 ([]) x195).bind fun l200 => (push 9382499223535 l_21 l200).bind fun l205 => l16_copied.l0 a0 k_28 l205 (w64 (i_22 + 1))) else (some l_21)

def l16_copied (k : Nat) (a0 : (List (List File))) : Option (List (List File)) := l16_copied.l0 a0 k ([]) 0

def version_may (a0 : File) : Option Bool := some (((((((((((decide (1 ≤ a0.Number)) && (decide (a0.Number ≤ 2147483647))) && (decide (1 ≤ a0.Size))) && (decide (a0.Size ≤ 268435456))) && (decide (1 ≤ (a0.Least.size : Int)))) && (decide ((a0.Least.size : Int) ≤ 1024))) && (sLt a0.Least a0.Limit)) && (decide ((a0.Limit.size : Int) ≤ 1025))) && (decide (1 ≤ a0.Low))) && (decide (a0.Low ≤ a0.High))) && (decide (a0.High ≤ 72057594037927935)))

def version_Valid.l1 (i_189 : Int) (J_260 : (List (Int × Int)) → Option Bool) (x2384 : (List File)) : Nat → (List (Int × Int)) → Int → Option Bool
  | 0, _, _ => none
  | k_277 + 1, l_268, i_269 => if (decide (i_269 < (x2384.length : Int))) = true then (Jn (fun (l_278 : (List (Int × Int))) => version_Valid.l1 i_189 J_260 x2384 k_277 l_278 (w64 (i_269 + 1))) (fun J_280 => (idx x2384 i_269).bind fun x2565 => if wfi .i64 x2565.Number = true then ((mput .i64 l_268 x2565.Number (w64 ((mget l_268 x2565.Number) + 1))).bind fun l2570 => (version_may x2565).bind fun r2576 => if ((!r2576) || (decide (1 < (mget l2570 x2565.Number)))) = true then (some false) else (if (i_269 == 0) = true then (J_280 l2570) else (if (i_189 == 0) = true then ((idx x2384 (w64 (i_269 - 1))).bind fun x2593 => if (decide (x2565.Number ≤ x2593.Number)) = true then (some false) else (J_280 l2570)) else ((idx x2384 (w64 (i_269 - 1))).bind fun x2596 => if (!(sLt x2596.Limit x2565.Least || sEq x2596.Limit x2565.Least)) = true then (some false) else (J_280 l2570))))) else none)) else (J_260 l_268)

def version_Valid.l0 (a0 : (List (List File))) : Nat → (List (Int × Int)) → Int → Option Bool
  | 0, _, _ => none
  | k_237 + 1, l_188, i_189 => if (decide (i_189 < (a0.length : Int))) = true then (Jn (fun (l_258 : (List (Int × Int))) => version_Valid.l0 a0 k_237 l_258 (w64 (i_189 + 1))) (fun J_260 => (idx a0 i_189).bind fun x2384 => version_Valid.l1 i_189 J_260 x2384 k_237 l_188 0)) else (some true)

def version_Valid (k : Nat) (a0 : (List (List File))) : Option Bool := if ((decide ((a0.length : Int) < 1)) || (decide (7 < (a0.length : Int)))) = true then (some false) else (version_Valid.l0 a0 k ([]) 0)

def r16_May (a0 : File) : Option Bool := some (((((((((((decide (1 ≤ a0.Number)) && (decide (a0.Number ≤ 2147483647))) && (decide (1 ≤ a0.Size))) && (decide (a0.Size ≤ 268435456))) && (decide (1 ≤ (a0.Least.size : Int)))) && (decide ((a0.Least.size : Int) ≤ 1024))) && (decide ((a0.Limit.size : Int) ≤ 1025))) && (sLt a0.Least a0.Limit)) && (decide (1 ≤ a0.Low))) && (decide (a0.Low ≤ a0.High))) && (decide (a0.High ≤ 72057594037927935)))

def r16_sorted.l1 (J_379 : (List Int) → Option (List Int)) : Nat → (List Int) → Int → Option (List Int)
  | 0, _, _ => none
  | k_402 + 1, l_390, i_391 => Jn (fun (b_406 : Bool) => if b_406 = true then ((idx l_390 i_391).bind fun x977 => (idx l_390 (w64 (i_391 - 1))).bind fun x978 => (idx l_390 (w64 (i_391 - 1))).bind fun x979 => (upd l_390 (w64 (i_391 - 1)) x977).bind fun l981 => (idx l981 i_391).bind fun x983 => (upd l981 i_391 x978).bind fun l985 => r16_sorted.l1 J_379 k_402 l985 (w64 (i_391 - 1))) else (J_379 l_390)) (fun J_407 => if (decide (0 < i_391)) = true then ((idx l_390 (w64 (i_391 - 1))).bind fun x988 => (idx l_390 i_391).bind fun x989 => J_407 (decide (x989 < x988))) else (J_407 false))

def r16_sorted.l0 (a0 : (List Int)) : Nat → (List Int) → Int → Option (List Int)
  | 0, _, _ => none
  | k_346 + 1, l_276, i_277 => if (decide (i_277 < (a0.length : Int))) = true then (Jn (fun (l_377 : (List Int)) => r16_sorted.l0 a0 k_346 l_377 (w64 (i_277 + 1))) (fun J_379 => (idx a0 i_277).bind fun x909 => (push 28147497670912 l_276 x909).bind fun l912 => r16_sorted.l1 J_379 k_346 l912 (l_276.length : Int))) else (some l_276)

def r16_sorted (k : Nat) (a0 : (List Int)) : Option (List Int) := r16_sorted.l0 a0 k ([]) 0

def r16_numbers.l1 (a0 : (List (List File))) (i_169 : Int) (J_226 : (List Int) → Option (List Int)) : Nat → (List Int) → Int → Option (List Int)
  | 0, _, _ => none
  | k_240 + 1, l_233, i_234 => (idx a0 i_169).bind fun x1222 => if (decide (i_234 < (x1222.length : Int))) = true then ((idx a0 i_169).bind fun x1239 => (idx x1239 i_234).bind fun x1244 => (push 28147497670912 l_233 x1244.Number).bind fun l1247 => r16_numbers.l1 a0 i_169 J_226 k_240 l1247 (w64 (i_234 + 1))) else (J_226 l_233)

def r16_numbers.l0 (a0 : (List (List File))) : Nat → (List Int) → Int → Option (List Int)
  | 0, _, _ => none
  | k_208 + 1, l_168, i_169 => if (decide (i_169 < (a0.length : Int))) = true then (Jn (fun (l_224 : (List Int)) => r16_numbers.l0 a0 k_208 l_224 (w64 (i_169 + 1))) (fun J_226 => r16_numbers.l1 a0 i_169 J_226 k_208 l_168 0)) else ((r16_sorted k_208 l_168).bind fun r1250 => some r1250)

def r16_numbers (k : Nat) (a0 : (List (List File))) : Option (List Int) := r16_numbers.l0 a0 k ([]) 0

def r16_Valid.l2 (r7577 : (List Int)) (J_1214 : Option Bool) : Nat → Int → Option Bool
  | 0, _ => none
  | k_1222 + 1, i_1218 => if (decide (i_1218 < (r7577.length : Int))) = true then ((idx r7577 (w64 (i_1218 - 1))).bind fun x7637 => (idx r7577 i_1218).bind fun x7638 => if (x7637 == x7638) = true then (some false) else (r16_Valid.l2 r7577 J_1214 k_1222 (w64 (i_1218 + 1)))) else (J_1214)

def r16_Valid.l1 (a0 : (List (List File))) (i_804 : Int) (J_1106 : Option Bool) : Nat → Int → Option Bool
  | 0, _ => none
  | k_1174 + 1, i_1140 => (idx a0 i_804).bind fun x7373 => if (decide (i_1140 < (x7373.length : Int))) = true then ((idx a0 i_804).bind fun x7487 => (idx x7487 i_1140).bind fun x7492 => (r16_May x7492).bind fun r7493 => if (!r7493) = true then (some false) else (Jn (fun (b_1190 : Bool) => Jn (fun (b_1196 : Bool) => if b_1196 = true then (some false) else (r16_Valid.l1 a0 i_804 J_1106 k_1174 (w64 (i_1140 + 1)))) (fun J_1197 => if b_1190 = true then (J_1197 true) else (Jn (fun (b_1202 : Bool) => J_1197 b_1202) (fun J_1203 => if ((decide (0 < i_1140)) && (decide (0 < i_804))) = true then ((idx a0 i_804).bind fun x7553 => (idx x7553 (w64 (i_1140 - 1))).bind fun x7558 => (idx a0 i_804).bind fun x7559 => (idx x7559 i_1140).bind fun x7564 => J_1203 (!(sLt x7558.Limit x7564.Least || sEq x7558.Limit x7564.Least))) else (J_1203 false))))) (fun J_1191 => if ((decide (0 < i_1140)) && (i_804 == 0)) = true then ((idx a0 i_804).bind fun x7565 => (idx x7565 (w64 (i_1140 - 1))).bind fun x7570 => (idx a0 i_804).bind fun x7571 => (idx x7571 i_1140).bind fun x7576 => J_1191 (decide (x7576.Number ≤ x7570.Number))) else (J_1191 false)))) else (J_1106)

def r16_Valid.l0 (a0 : (List (List File))) : Nat → Int → Option Bool
  | 0, _ => none
  | k_1006 + 1, i_804 => if (decide (i_804 < (a0.length : Int))) = true then (Jn (r16_Valid.l0 a0 k_1006 (w64 (i_804 + 1))) (fun J_1106 => r16_Valid.l1 a0 i_804 J_1106 k_1006 0)) else ((r16_numbers k_1006 a0).bind fun r7577 => Jn (some true) (fun J_1214 => r16_Valid.l2 r7577 J_1214 k_1006 1))

def r16_Valid (k : Nat) (a0 : (List (List File))) : Option Bool := if ((decide ((a0.length : Int) < 1)) || (decide (7 < (a0.length : Int)))) = true then (some false) else (r16_Valid.l0 a0 k 0)

def slices_Clone_File (a0 : (List File)) : Option (List File) := (pushN 3518437208730 ([]) a0).bind fun l7 => some l7

def version_copied.l0 (a0 : (List (List File))) : Nat → (List (List File)) → Int → Option (List (List File))
  | 0, _, _ => none
  | k_22 + 1, l_16, i_17 => if (decide (i_17 < (a0.length : Int))) = true then ((idx a0 i_17).bind fun x215 => (slices_Clone_File x215).bind fun r220 => (idx l_16 i_17).bind fun x225 => (upd l_16 i_17 r220).bind fun l231 => version_copied.l0 a0 k_22 l231 (w64 (i_17 + 1))) else (some l_16)

def version_copied (k : Nat) (a0 : (List (List File))) : Option (List (List File)) := (mkS 11728124029610 (a0.length : Int) ([])).bind fun l1 => version_copied.l0 a0 k l1 0

def version_Apply_1 (a0 : File) (c0 : Place) : Option Bool := some (a0.Number == c0.Number)

def slices_IndexFunc_File.l0 (a0 : (List File)) (a1 : (File → Option Bool)) : Nat → Int → Option Int
  | 0, _ => none
  | k_16 + 1, i_12 => if (decide (i_12 < (a0.length : Int))) = true then ((idx a0 i_12).bind fun x57 => (a1 x57).bind fun r58 => if r58 = true then (some i_12) else (slices_IndexFunc_File.l0 a0 a1 k_16 (w64 (i_12 + 1)))) else (some (-1))

def slices_IndexFunc_File (k : Nat) (a0 : (List File)) (a1 : (File → Option Bool)) : Option Int := slices_IndexFunc_File.l0 a0 a1 k 0

def slices_Delete_File (a0 : (List File)) (a1 : Int) (a2 : Int) : Option (List File) := (cut a0 a1 a2).bind fun l1 => if (a1 == a2) = true then (some a0) else ((cut a0 0 a1).bind fun l4 => (cut a0 a2 (a0.length : Int)).bind fun l5 => if a1 < a2 then ((cut (selfApp a0 (Int.toNat a1) (Int.toNat a2)) 0 ((Int.toNat a1 + (a0.length - Int.toNat a2) : Nat) : Int)).bind fun l8 => (cut (selfApp a0 (Int.toNat a1) (Int.toNat a2)) (l8.length : Int) (a0.length : Int)).bind fun l11 => (cut (clr (selfApp a0 (Int.toNat a1) (Int.toNat a2)) (Int.toNat (l8.length : Int)) (Int.toNat (a0.length : Int)) (⟨0, 0, (ByteArray.mk #[]), (ByteArray.mk #[]), 0, 0⟩ : File)) 0 ((Int.toNat a1 + (a0.length - Int.toNat a2) : Nat) : Int)).bind fun l13 => some l13) else none)

def cmp_isNaN_int (a0 : Int) : Option Bool := some (a0 != a0)

def cmp_Compare_int (a0 : Int) (a1 : Int) : Option Int := (cmp_isNaN_int a0).bind fun r1 => (cmp_isNaN_int a1).bind fun r3 => if r1 = true then (if r3 = true then (some 0) else (some (-1))) else (if r3 = true then (some 1) else (if (decide (a0 < a1)) = true then (some (-1)) else (if (decide (a1 < a0)) = true then (some 1) else (some 0))))

def cmp_isNaN_string (a0 : ByteArray) : Option Bool := some (!sEq a0 a0)

def cmp_Compare_string (a0 : ByteArray) (a1 : ByteArray) : Option Int := (cmp_isNaN_string a0).bind fun r1 => (cmp_isNaN_string a1).bind fun r3 => if r1 = true then (if r3 = true then (some 0) else (some (-1))) else (if r3 = true then (some 1) else (if (sLt a0 a1) = true then (some (-1)) else (if (!(sLt a0 a1 || sEq a0 a1)) = true then (some 1) else (some 0))))

def version_sorted_1 (a0 : File) (a1 : File) (c0 : Int) : Option Int := if (c0 == 0) = true then ((cmp_Compare_int a0.Number a1.Number).bind fun r9 => some r9) else ((cmp_Compare_string a0.Least a1.Least).bind fun r11 => some r11)

def slices_insertionSortCmpFunc_File.l1 (a1 : Int) (a3 : (File → File → Option Int)) (J_166 : (List File) → Option (List File)) : Nat → (List File) → Int → Option (List File)
  | 0, _, _ => none
  | k_189 + 1, l_177, i_178 => Jn (fun (b_193 : Bool) => if b_193 = true then ((idx l_177 (w64 (i_178 - 1))).bind fun x784 => (idx l_177 i_178).bind fun x785 => (idx l_177 i_178).bind fun x786 => (upd l_177 i_178 x784).bind fun l788 => (idx l788 (w64 (i_178 - 1))).bind fun x790 => (upd l788 (w64 (i_178 - 1)) x785).bind fun l792 => slices_insertionSortCmpFunc_File.l1 a1 a3 J_166 k_189 l792 (w64 (i_178 - 1))) else (J_166 l_177)) (fun J_194 => if (decide (a1 < i_178)) = true then ((idx l_177 i_178).bind fun x795 => (idx l_177 (w64 (i_178 - 1))).bind fun x796 => (a3 x795 x796).bind fun r797 => J_194 (decide (r797 < 0))) else (J_194 false))

def slices_insertionSortCmpFunc_File.l0 (a1 : Int) (a2 : Int) (a3 : (File → File → Option Int)) : Nat → (List File) → Int → Option (List File)
  | 0, _, _ => none
  | k_134 + 1, l_67, i_68 => if (decide (i_68 < a2)) = true then (Jn (fun (l_164 : (List File)) => slices_insertionSortCmpFunc_File.l0 a1 a2 a3 k_134 l_164 (w64 (i_68 + 1))) (fun J_166 => slices_insertionSortCmpFunc_File.l1 a1 a3 J_166 k_134 l_67 i_68)) else (some l_67)

def slices_insertionSortCmpFunc_File (k : Nat) (a0 : (List File)) (a1 : Int) (a2 : Int) (a3 : (File → File → Option Int)) : Option (List File) := slices_insertionSortCmpFunc_File.l0 a1 a2 a3 k a0 (w64 (a1 + 1))

def slices_swapRangeCmpFunc_File.l0 (a1 : Int) (a2 : Int) (a3 : Int) : Nat → (List File) → Int → Option (List File)
  | 0, _, _ => none
  | k_11 + 1, l_5, i_6 => if (decide (i_6 < a3)) = true then ((idx l_5 (w64 (a2 + i_6))).bind fun x62 => (idx l_5 (w64 (a1 + i_6))).bind fun x63 => (idx l_5 (w64 (a1 + i_6))).bind fun x64 => (upd l_5 (w64 (a1 + i_6)) x62).bind fun l66 => (idx l66 (w64 (a2 + i_6))).bind fun x68 => (upd l66 (w64 (a2 + i_6)) x63).bind fun l70 => slices_swapRangeCmpFunc_File.l0 a1 a2 a3 k_11 l70 (w64 (i_6 + 1))) else (some l_5)

def slices_swapRangeCmpFunc_File (k : Nat) (a0 : (List File)) (a1 : Int) (a2 : Int) (a3 : Int) (a4 : (File → File → Option Int)) : Option (List File) := slices_swapRangeCmpFunc_File.l0 a1 a2 a3 k a0 0

def slices_rotateCmpFunc_File.l0 (a2 : Int) (a4 : (File → File → Option Int)) : Nat → (List File) → Int → Int → Option (List File)
  | 0, _, _, _ => none
  | k_32 + 1, l_24, i_25, i_26 => if (i_25 != i_26) = true then (if (decide (i_26 < i_25)) = true then ((slices_swapRangeCmpFunc_File k_32 l_24 (w64 (a2 - i_25)) a2 i_26 a4).bind fun r49 => slices_rotateCmpFunc_File.l0 a2 a4 k_32 r49 (w64 (i_25 - i_26)) i_26) else ((slices_swapRangeCmpFunc_File k_32 l_24 (w64 (a2 - i_25)) (w64 ((w64 (a2 + i_26)) - i_25)) i_25 a4).bind fun r52 => slices_rotateCmpFunc_File.l0 a2 a4 k_32 r52 i_25 (w64 (i_26 - i_25)))) else ((slices_swapRangeCmpFunc_File k_32 l_24 (w64 (a2 - i_25)) a2 i_25 a4).bind fun r55 => some r55)

def slices_rotateCmpFunc_File (k : Nat) (a0 : (List File)) (a1 : Int) (a2 : Int) (a3 : Int) (a4 : (File → File → Option Int)) : Option (List File) := slices_rotateCmpFunc_File.l0 a2 a4 k a0 (w64 (a2 - a1)) (w64 (a3 - a2))

def slices_symMergeCmpFunc_File.l4 (a0 : (List File)) (a1 : Int) (a4 : (File → File → Option Int)) (J_203 : Int → Option (List File)) : Nat → Int → Int → Option (List File)
  | 0, _, _ => none
  | k_239 + 1, i_233, i_234 => if (decide (i_233 < i_234)) = true then ((idx a0 (w64 ((wu64 (w64 (i_233 + i_234))) / 2 ^ (Int.toNat 1)))).bind fun x842 => (idx a0 a1).bind fun x843 => (a4 x842 x843).bind fun r844 => if (decide (r844 < 0)) = true then (slices_symMergeCmpFunc_File.l4 a0 a1 a4 J_203 k_239 (w64 ((w64 ((wu64 (w64 (i_233 + i_234))) / 2 ^ (Int.toNat 1))) + 1)) i_234) else (slices_symMergeCmpFunc_File.l4 a0 a1 a4 J_203 k_239 i_233 (w64 ((wu64 (w64 (i_233 + i_234))) / 2 ^ (Int.toNat 1))))) else (J_203 i_233)

def slices_symMergeCmpFunc_File.l3 (i_201 : Int) (J_217 : (List File) → Option (List File)) : Nat → (List File) → Int → Option (List File)
  | 0, _, _ => none
  | k_228 + 1, l_222, i_223 => if (decide (i_223 < (w64 (i_201 - 1)))) = true then ((idx l_222 (w64 (i_223 + 1))).bind fun x813 => (idx l_222 i_223).bind fun x814 => (idx l_222 i_223).bind fun x815 => (upd l_222 i_223 x813).bind fun l817 => (idx l817 (w64 (i_223 + 1))).bind fun x819 => (upd l817 (w64 (i_223 + 1)) x814).bind fun l821 => slices_symMergeCmpFunc_File.l3 i_201 J_217 k_228 l821 (w64 (i_223 + 1))) else (J_217 l_222)

def slices_symMergeCmpFunc_File.l2 (a0 : (List File)) (a2 : Int) (a4 : (File → File → Option Int)) (J_153 : Int → Option (List File)) : Nat → Int → Int → Option (List File)
  | 0, _, _ => none
  | k_189 + 1, i_183, i_184 => if (decide (i_183 < i_184)) = true then ((idx a0 a2).bind fun x649 => (idx a0 (w64 ((wu64 (w64 (i_183 + i_184))) / 2 ^ (Int.toNat 1)))).bind fun x650 => (a4 x649 x650).bind fun r651 => if (!(decide (r651 < 0))) = true then (slices_symMergeCmpFunc_File.l2 a0 a2 a4 J_153 k_189 (w64 ((w64 ((wu64 (w64 (i_183 + i_184))) / 2 ^ (Int.toNat 1))) + 1)) i_184) else (slices_symMergeCmpFunc_File.l2 a0 a2 a4 J_153 k_189 i_183 (w64 ((wu64 (w64 (i_183 + i_184))) / 2 ^ (Int.toNat 1))))) else (J_153 i_183)

def slices_symMergeCmpFunc_File.l1 (i_151 : Int) (J_167 : (List File) → Option (List File)) : Nat → (List File) → Int → Option (List File)
  | 0, _, _ => none
  | k_178 + 1, l_172, i_173 => if (decide (i_151 < i_173)) = true then ((idx l_172 (w64 (i_173 - 1))).bind fun x620 => (idx l_172 i_173).bind fun x621 => (idx l_172 i_173).bind fun x622 => (upd l_172 i_173 x620).bind fun l624 => (idx l624 (w64 (i_173 - 1))).bind fun x626 => (upd l624 (w64 (i_173 - 1)) x621).bind fun l628 => slices_symMergeCmpFunc_File.l1 i_151 J_167 k_178 l628 (w64 (i_173 - 1))) else (J_167 l_172)

def slices_symMergeCmpFunc_File.l0 (a0 : (List File)) (a1 : Int) (a2 : Int) (a3 : Int) (a4 : (File → File → Option Int)) (J_122 : Int → Option (List File)) : Nat → Int → Int → Option (List File)
  | 0, _, _ => none
  | k_139 + 1, i_133, i_134 => if (decide (i_133 < i_134)) = true then ((idx a0 (w64 ((w64 ((w64 ((w64 ((wu64 (w64 (a1 + a3))) / 2 ^ (Int.toNat 1))) + a2)) - 1)) - (w64 ((wu64 (w64 (i_133 + i_134))) / 2 ^ (Int.toNat 1)))))).bind fun x455 => (idx a0 (w64 ((wu64 (w64 (i_133 + i_134))) / 2 ^ (Int.toNat 1)))).bind fun x456 => (a4 x455 x456).bind fun r457 => if (!(decide (r457 < 0))) = true then (slices_symMergeCmpFunc_File.l0 a0 a1 a2 a3 a4 J_122 k_139 (w64 ((w64 ((wu64 (w64 (i_133 + i_134))) / 2 ^ (Int.toNat 1))) + 1)) i_134) else (slices_symMergeCmpFunc_File.l0 a0 a1 a2 a3 a4 J_122 k_139 i_133 (w64 ((wu64 (w64 (i_133 + i_134))) / 2 ^ (Int.toNat 1))))) else (J_122 i_133)

def slices_symMergeCmpFunc_File : Nat → (List File) → Int → Int → Int → (File → File → Option Int) → Option (List File)
  | 0, _, _, _, _, _ => none
  | k + 1, a0, a1, a2, a3, a4 => Jn (Jn (Jn (fun (i_105 : Int) (i_106 : Int) => Jn (fun (i_120 : Int) => Jn (fun (l_123 : (List File)) => Jn (fun (l_126 : (List File)) => if ((decide ((w64 ((wu64 (w64 (a1 + a3))) / 2 ^ (Int.toNat 1))) < (w64 ((w64 ((w64 ((wu64 (w64 (a1 + a3))) / 2 ^ (Int.toNat 1))) + a2)) - i_120)))) && (decide ((w64 ((w64 ((w64 ((wu64 (w64 (a1 + a3))) / 2 ^ (Int.toNat 1))) + a2)) - i_120)) < a3))) = true then ((slices_symMergeCmpFunc_File k l_126 (w64 ((wu64 (w64 (a1 + a3))) / 2 ^ (Int.toNat 1))) (w64 ((w64 ((w64 ((wu64 (w64 (a1 + a3))) / 2 ^ (Int.toNat 1))) + a2)) - i_120)) a3 a4).bind fun r424 => some r424) else (some l_126)) (fun J_128 => if ((decide (a1 < i_120)) && (decide (i_120 < (w64 ((wu64 (w64 (a1 + a3))) / 2 ^ (Int.toNat 1)))))) = true then ((slices_symMergeCmpFunc_File k l_123 a1 i_120 (w64 ((wu64 (w64 (a1 + a3))) / 2 ^ (Int.toNat 1))) a4).bind fun r429 => J_128 r429) else (J_128 l_123))) (fun J_125 => if ((decide (i_120 < a2)) && (decide (a2 < (w64 ((w64 ((w64 ((wu64 (w64 (a1 + a3))) / 2 ^ (Int.toNat 1))) + a2)) - i_120))))) = true then ((slices_rotateCmpFunc_File k a0 i_120 a2 (w64 ((w64 ((w64 ((wu64 (w64 (a1 + a3))) / 2 ^ (Int.toNat 1))) + a2)) - i_120)) a4).bind fun r434 => J_125 r434) else (J_125 a0))) (fun J_122 => slices_symMergeCmpFunc_File.l0 a0 a1 a2 a3 a4 J_122 k i_105 i_106)) (fun J_108 => if (decide ((w64 ((wu64 (w64 (a1 + a3))) / 2 ^ (Int.toNat 1))) < a2)) = true then (J_108 (w64 ((w64 ((w64 ((wu64 (w64 (a1 + a3))) / 2 ^ (Int.toNat 1))) + a2)) - a3)) (w64 ((wu64 (w64 (a1 + a3))) / 2 ^ (Int.toNat 1)))) else (J_108 a1 a2))) (fun J_104 => if ((w64 (a3 - a2)) == 1) = true then (Jn (fun (i_151 : Int) => Jn (fun (l_165 : (List File)) => some l_165) (fun J_167 => slices_symMergeCmpFunc_File.l1 i_151 J_167 k a0 a2)) (fun J_153 => slices_symMergeCmpFunc_File.l2 a0 a2 a4 J_153 k a1 a2)) else (J_104))) (fun J_52 => if ((w64 (a2 - a1)) == 1) = true then (Jn (fun (i_201 : Int) => Jn (fun (l_215 : (List File)) => some l_215) (fun J_217 => slices_symMergeCmpFunc_File.l3 i_201 J_217 k a0 a1)) (fun J_203 => slices_symMergeCmpFunc_File.l4 a0 a1 a4 J_203 k a2 a3)) else (J_52))

def slices_stableCmpFunc_File.l2 (a1 : Int) (a2 : (File → File → Option Int)) (i_71 : Int) (J_129 : (List File) → Int → Option (List File)) : Nat → (List File) → Int → Int → Option (List File)
  | 0, _, _, _ => none
  | k_146 + 1, l_138, i_139, i_140 => if (decide (i_140 ≤ a1)) = true then ((slices_symMergeCmpFunc_File k_146 l_138 i_139 (w64 (i_139 + i_71)) i_140 a2).bind fun r151 => slices_stableCmpFunc_File.l2 a1 a2 i_71 J_129 k_146 r151 i_140 (w64 (i_140 + (w64 (2 * i_71))))) else (J_129 l_138 i_139)

def slices_stableCmpFunc_File.l1 (a1 : Int) (a2 : (File → File → Option Int)) : Nat → (List File) → Int → Option (List File)
  | 0, _, _ => none
  | k_111 + 1, l_70, i_71 => if (decide (i_71 < a1)) = true then (Jn (fun (l_126 : (List File)) (i_127 : Int) => Jn (fun (l_130 : (List File)) => slices_stableCmpFunc_File.l1 a1 a2 k_111 l_130 (w64 (i_71 * 2))) (fun J_132 => if (decide ((w64 (i_127 + i_71)) < a1)) = true then ((slices_symMergeCmpFunc_File k_111 l_126 i_127 (w64 (i_127 + i_71)) a1 a2).bind fun r136 => J_132 r136) else (J_132 l_126))) (fun J_129 => slices_stableCmpFunc_File.l2 a1 a2 i_71 J_129 k_111 l_70 0 (w64 (2 * i_71)))) else (some l_70)

def slices_stableCmpFunc_File.l0 (a1 : Int) (a2 : (File → File → Option Int)) : Nat → (List File) → Int → Int → Option (List File)
  | 0, _, _, _ => none
  | k_28 + 1, l_20, i_21, i_22 => if (decide (i_22 ≤ a1)) = true then ((slices_insertionSortCmpFunc_File k_28 l_20 i_21 i_22 a2).bind fun r28 => slices_stableCmpFunc_File.l0 a1 a2 k_28 r28 i_22 (w64 (i_22 + 20))) else ((slices_insertionSortCmpFunc_File k_28 l_20 i_21 a1 a2).bind fun r31 => slices_stableCmpFunc_File.l1 a1 a2 k_28 r31 20)

def slices_stableCmpFunc_File (k : Nat) (a0 : (List File)) (a1 : Int) (a2 : (File → File → Option Int)) : Option (List File) := slices_stableCmpFunc_File.l0 a1 a2 k a0 0 20

def slices_SortStableFunc_File (k : Nat) (a0 : (List File)) (a1 : (File → File → Option Int)) : Option (List File) := (slices_stableCmpFunc_File k a0 (a0.length : Int) a1).bind fun r1 => some r1

def version_sorted (k : Nat) (a0 : Int) (a1 : (List File)) : Option (List File) := (slices_SortStableFunc_File k a1 (fun x0 x1 => version_sorted_1 x0 x1 a0)).bind fun r3 => some r3

def version_Apply.l2 (a1 : Edit) (J_36 : (List (List File)) → Option ((List (List File)) × Int)) : Nat → (List (List File)) → Int → Option ((List (List File)) × Int)
  | 0, _, _ => none
  | k_72 + 1, l_66, i_67 => if (decide (i_67 < (a1.Come.length : Int))) = true then ((idx a1.Come i_67).bind fun x956 => if ((decide (x956.Level < 0)) || (decide ((l_66.length : Int) ≤ x956.Level))) = true then (some ([], 160)) else ((idx l_66 x956.Level).bind fun x966 => (push 3518437208730 x966 x956.File).bind fun l976 => (idx l_66 x956.Level).bind fun x979 => (upd l_66 x956.Level l976).bind fun l981 => version_Apply.l2 a1 J_36 k_72 l981 (w64 (i_67 + 1)))) else (J_36 l_66)

def version_Apply.l1 (l_34 : (List (List File))) (J_50 : (List (List File)) → Option ((List (List File)) × Int)) : Nat → (List (List File)) → Int → Option ((List (List File)) × Int)
  | 0, _, _ => none
  | k_61 + 1, l_55, i_56 => if (decide (i_56 < (l_34.length : Int))) = true then ((idx l_55 i_56).bind fun x801 => (version_sorted k_61 i_56 x801).bind fun r806 => (idx l_55 i_56).bind fun x812 => (upd l_55 i_56 r806).bind fun l813 => version_Apply.l1 l_34 J_50 k_61 l813 (w64 (i_56 + 1))) else (J_50 l_55)

def version_Apply.l0 (a1 : Edit) : Nat → (List (List File)) → Int → Option ((List (List File)) × Int)
  | 0, _, _ => none
  | k_22 + 1, l_16, i_17 => if (decide (i_17 < (a1.Gone.length : Int))) = true then ((idx a1.Gone i_17).bind fun x411 => if ((decide (x411.Level < 0)) || (decide ((l_16.length : Int) ≤ x411.Level))) = true then (some ([], 160)) else ((idx l_16 x411.Level).bind fun x421 => (slices_IndexFunc_File k_22 x421 (fun x0 => version_Apply_1 x0 x411)).bind fun r426 => if (decide (r426 < 0)) = true then (some ([], 160)) else ((idx l_16 x411.Level).bind fun x431 => (slices_Delete_File x431 r426 (w64 (r426 + 1))).bind fun r437 => (idx l_16 x411.Level).bind fun x443 => (upd l_16 x411.Level r437).bind fun l445 => version_Apply.l0 a1 k_22 l445 (w64 (i_17 + 1))))) else (Jn (fun (l_34 : (List (List File))) => Jn (fun (l_48 : (List (List File))) => (version_Valid k_22 l_48).bind fun r715 => if (!r715) = true then (some ([], 160)) else (some (l_48, 0))) (fun J_50 => version_Apply.l1 l_34 J_50 k_22 l_34 0)) (fun J_36 => version_Apply.l2 a1 J_36 k_22 l_16 0))

def version_Apply (k : Nat) (a0 : (List (List File))) (a1 : Edit) : Option ((List (List File)) × Int) := (version_Valid k a0).bind fun r6 => if (!r6) = true then (some ([], 2)) else ((version_copied k a0).bind fun r10 => version_Apply.l0 a1 k r10 0)

def r16_put.l0 (a1 : Int) (a2 : File) : Nat → (List File) → Int → Option (List File)
  | 0, _, _ => none
  | k_508 + 1, l_406, i_407 => Jn (fun (b_572 : Bool) => if b_572 = true then ((idx l_406 (w64 (i_407 - 1))).bind fun x350 => (idx l_406 i_407).bind fun x351 => (upd l_406 i_407 x350).bind fun l352 => (idx l352 (w64 (i_407 - 1))).bind fun x354 => (upd l352 (w64 (i_407 - 1)) a2).bind fun l355 => r16_put.l0 a1 a2 k_508 l355 (w64 (i_407 - 1))) else (some l_406)) (fun J_573 => if (decide (0 < i_407)) = true then (Jn (fun (b_590 : Bool) => Jn (fun (b_596 : Bool) => J_573 b_596) (fun J_597 => if b_590 = true then (J_597 true) else (Jn (fun (b_602 : Bool) => J_597 b_602) (fun J_603 => if (decide (0 < a1)) = true then ((idx l_406 (w64 (i_407 - 1))).bind fun x365 => J_603 (!(sLt x365.Least a2.Least || sEq x365.Least a2.Least))) else (J_603 false))))) (fun J_591 => if (a1 == 0) = true then ((idx l_406 (w64 (i_407 - 1))).bind fun x366 => J_591 (decide (a2.Number < x366.Number))) else (J_591 false))) else (J_573 false))

def r16_put (k : Nat) (a0 : (List File)) (a1 : Int) (a2 : File) : Option (List File) := Jn (fun (l_3 : (List File)) => r16_put.l0 a1 a2 k l_3 (w64 ((l_3.length : Int) - 1))) (fun J_5 => (pushN 3518437208730 ([]) a0).bind fun l372 => (push 3518437208730 l372 a2).bind fun l379 => J_5 l379)

def r16_Apply.l3 (l_598 : (List (List File))) (x4496 : Place) (J_840 : (List File) → Option ((List (List File)) × Int)) : Nat → (List File) → Int → Option ((List (List File)) × Int)
  | 0, _, _ => none
  | k_866 + 1, l_854, i_855 => (idx l_598 x4496.Level).bind fun x4803 => if (decide (i_855 < (x4803.length : Int))) = true then (Jn (fun (l_868 : (List File)) => r16_Apply.l3 l_598 x4496 J_840 k_866 l_868 (w64 (i_855 + 1))) (fun J_870 => (idx l_598 x4496.Level).bind fun x4828 => (idx x4828 i_855).bind fun x4833 => if (x4833.Number != x4496.Number) = true then ((idx l_598 x4496.Level).bind fun x4836 => (idx x4836 i_855).bind fun x4841 => (push 3518437208730 l_854 x4841).bind fun l4844 => J_870 l4844) else (J_870 l_854))) else (J_840 l_854)

def r16_Apply.l2 (a1 : Edit) (J_435 : (List (List File)) → Option ((List (List File)) × Int)) : Nat → (List (List File)) → Int → Option ((List (List File)) × Int)
  | 0, _, _ => none
  | k_737 + 1, l_598, i_599 => if (decide (i_599 < (a1.Gone.length : Int))) = true then (Jn (fun (l_803 : (List (List File))) => r16_Apply.l2 a1 J_435 k_737 l_803 (w64 (i_599 + 1))) (fun J_805 => (idx a1.Gone i_599).bind fun x4496 => if ((decide (x4496.Level < 0)) || (decide ((l_598.length : Int) ≤ x4496.Level))) = true then (some ([], 160)) else (Jn (fun (l_838 : (List File)) => (idx l_598 x4496.Level).bind fun x4673 => if ((l_838.length : Int) == (x4673.length : Int)) = true then (some ([], 160)) else ((idx l_598 x4496.Level).bind fun x4680 => (upd l_598 x4496.Level l_838).bind fun l4686 => J_805 l4686)) (fun J_840 => r16_Apply.l3 l_598 x4496 J_840 k_737 ([]) 0)))) else (J_435 l_598)

def r16_Apply.l1 (a1 : Edit) (J_449 : (List (List File)) → Option ((List (List File)) × Int)) : Nat → (List (List File)) → Int → Option ((List (List File)) × Int)
  | 0, _, _ => none
  | k_460 + 1, l_454, i_455 => if (decide (i_455 < (a1.Come.length : Int))) = true then ((idx a1.Come i_455).bind fun x2710 => if ((decide (x2710.Level < 0)) || (decide ((l_454.length : Int) ≤ x2710.Level))) = true then (some ([], 160)) else ((idx l_454 x2710.Level).bind fun x2720 => (r16_put k_460 x2720 x2710.Level x2710.File).bind fun r2726 => (idx l_454 x2710.Level).bind fun x2730 => (upd l_454 x2710.Level r2726).bind fun l2737 => r16_Apply.l1 a1 J_449 k_460 l2737 (w64 (i_455 + 1)))) else (J_449 l_454)

def r16_Apply.l0 (a0 : (List (List File))) (a1 : Edit) : Nat → (List (List File)) → Int → Option ((List (List File)) × Int)
  | 0, _, _ => none
  | k_22 + 1, l_16, i_17 => if (decide (i_17 < (a0.length : Int))) = true then ((idx a0 i_17).bind fun x249 => (pushN 3518437208730 ([]) x249).bind fun l254 => (idx l_16 i_17).bind fun x258 => (upd l_16 i_17 l254).bind fun l264 => r16_Apply.l0 a0 a1 k_22 l264 (w64 (i_17 + 1))) else (Jn (fun (l_433 : (List (List File))) => Jn (fun (l_447 : (List (List File))) => (r16_Valid k_22 l_447).bind fun r2555 => if (!r2555) = true then (some ([], 160)) else (some (l_447, 0))) (fun J_449 => r16_Apply.l1 a1 J_449 k_22 l_433 0)) (fun J_435 => r16_Apply.l2 a1 J_435 k_22 l_16 0))

def r16_Apply (k : Nat) (a0 : (List (List File))) (a1 : Edit) : Option ((List (List File)) × Int) := (r16_Valid k a0).bind fun r6 => if (!r6) = true then (some ([], 2)) else ((mkS 11728124029610 (a0.length : Int) ([])).bind fun l10 => r16_Apply.l0 a0 a1 k l10 0)

def r16_Same.l1 (a0 : (List (List File))) (a1 : (List (List File))) (i_84 : Int) (J_116 : Option Bool) : Nat → Int → Option Bool
  | 0, _ => none
  | k_124 + 1, i_120 => (idx a0 i_84).bind fun x1709 => if (decide (i_120 < (x1709.length : Int))) = true then ((idx a0 i_84).bind fun x1729 => (idx x1729 i_120).bind fun x1734 => (idx a1 i_84).bind fun x1735 => (idx x1735 i_120).bind fun x1740 => if (!File.eqb x1734 x1740) = true then (some false) else (r16_Same.l1 a0 a1 i_84 J_116 k_124 (w64 (i_120 + 1)))) else (J_116)

def r16_Same.l0 (a0 : (List (List File))) (a1 : (List (List File))) : Nat → Int → Option Bool
  | 0, _ => none
  | k_106 + 1, i_84 => if (decide (i_84 < (a0.length : Int))) = true then (Jn (r16_Same.l0 a0 a1 k_106 (w64 (i_84 + 1))) (fun J_116 => (idx a0 i_84).bind fun x1611 => (idx a1 i_84).bind fun x1616 => if ((x1611.length : Int) != (x1616.length : Int)) = true then (some false) else (r16_Same.l1 a0 a1 i_84 J_116 k_106 0))) else (some true)

def r16_Same (k : Nat) (a0 : (List (List File))) (a1 : (List (List File))) : Option Bool := if ((a0.length : Int) != (a1.length : Int)) = true then (some false) else (r16_Same.l0 a0 a1 k 0)

def l16_wiped.l0 : Nat → (List File) → Int → Option (List File)
  | 0, _, _ => none
  | k_11 + 1, l_5, i_6 => if (decide (i_6 < (l_5.length : Int))) = true then ((idx l_5 i_6).bind fun x22 => (upd l_5 i_6 (⟨(-7), 0, (ByteArray.mk #[]), (ByteArray.mk #[]), 0, 0⟩ : File)).bind fun l23 => l16_wiped.l0 k_11 l23 (w64 (i_6 + 1))) else (some l_5)

def l16_wiped (k : Nat) (a0 : (List File)) : Option (List File) := l16_wiped.l0 k a0 0

def l16_VersionApplies.l2 (a1 : Edit) (l_4 : (List Place)) (J_41 : Option Bool) : Nat → Int → Option Bool
  | 0, _ => none
  | k_67 + 1, i_63 => if (decide (i_63 < (a1.Gone.length : Int))) = true then ((idx l_4 i_63).bind fun x530 => (idx a1.Gone i_63).bind fun x531 => if (!Place.eqb x530 x531) = true then (some false) else (l16_VersionApplies.l2 a1 l_4 J_41 k_67 (w64 (i_63 + 1)))) else (J_41)

def l16_VersionApplies.l1 (a1 : Edit) (l_7 : (List Added)) (J_51 : Option Bool) : Nat → Int → Option Bool
  | 0, _ => none
  | k_59 + 1, i_55 => if (decide (i_55 < (a1.Come.length : Int))) = true then ((idx l_7 i_55).bind fun x500 => (idx a1.Come i_55).bind fun x501 => if (!Added.eqb x500 x501) = true then (some false) else (l16_VersionApplies.l1 a1 l_7 J_51 k_59 (w64 (i_55 + 1)))) else (J_51)

def l16_VersionApplies.l0 (a0 : (List (List File))) (a1 : Edit) (r9 : (List (List File))) (l_4 : (List Place)) (l_7 : (List Added)) : Nat → (List (List File)) → Int → Option Bool
  | 0, _, _ => none
  | k_31 + 1, l_25, i_26 => if (decide (i_26 < (l_25.length : Int))) = true then ((idx l_25 i_26).bind fun x403 => (l16_wiped k_31 x403).bind fun r408 => l16_VersionApplies.l0 a0 a1 r9 l_4 l_7 k_31 (List.set l_25 (Int.toNat i_26) r408) (w64 (i_26 + 1))) else (Jn (Jn ((r16_Same k_31 r9 a0).bind fun r472 => some r472) (fun J_51 => l16_VersionApplies.l1 a1 l_7 J_51 k_31 0)) (fun J_41 => l16_VersionApplies.l2 a1 l_4 J_41 k_31 0))

def l16_VersionApplies (k : Nat) (a0 : (List (List File))) (a1 : Edit) : Option Bool := (l16_names).bind fun r6 => if (!r6) = true then (some false) else ((l16_copied k a0).bind fun r9 => Jn (fun (l_4 : (List Place)) (l_7 : (List Added)) => (version_Valid k r9).bind fun r259 => (r16_Valid k a0).bind fun r261 => if (!(r259 == r261)) = true then (some false) else ((version_Apply k r9 (⟨a1.Log, a1.Next, a1.Seq, l_4, l_7⟩ : Edit)).bind fun r264 => (r16_Apply k a0 a1).bind fun r268 => (r16_Same k r264.1 r268.1).bind fun r276 => if ((!r276) || (r264.2 != r268.2)) = true then (some false) else (l16_VersionApplies.l0 a0 a1 r9 l_4 l_7 k r264.1 0))) (fun J_9 => (pushN 14073748835379 ([]) a1.Gone).bind fun l539 => (pushN 3127499741075 ([]) a1.Come).bind fun l547 => J_9 l539 l547))

def version_of (k : Nat) (a0 : (List (List File))) (a1 : Int) : Option (List File) := (version_Valid k a0).bind fun r6 => if (((!r6) || (decide (a1 < 0))) || (decide ((a0.length : Int) ≤ a1))) = true then (some ([])) else ((idx a0 a1).bind fun x11 => some x11)

def version_overlaps (a0 : File) (a1 : ByteArray) (a2 : ByteArray) : Option Bool := some ((!(sLt a0.Limit a1 || sEq a0.Limit a1)) && ((sEq a2 (ByteArray.mk #[])) || ((sLt a0.Least a2) && (!(sLt a2 a1 || sEq a2 a1)))))

def version_Over.l0 (a2 : ByteArray) (a3 : ByteArray) (r87 : (List File)) : Nat → (List File) → Int → Option (List File)
  | 0, _, _ => none
  | k_56 + 1, l_44, i_45 => if (decide (i_45 < (r87.length : Int))) = true then (Jn (fun (l_58 : (List File)) => version_Over.l0 a2 a3 r87 k_56 l_58 (w64 (i_45 + 1))) (fun J_60 => (idx r87 i_45).bind fun x160 => (version_overlaps x160 a2 a3).bind fun r164 => if r164 = true then ((push 3518437208730 l_44 x160).bind fun l169 => J_60 l169) else (J_60 l_44))) else (some l_44)

def version_Over (k : Nat) (a0 : (List (List File))) (a1 : Int) (a2 : ByteArray) (a3 : ByteArray) : Option (List File) := (version_of k a0 a1).bind fun r87 => version_Over.l0 a2 a3 r87 k ([]) 0

def slices_Backward_File_1.l0 (a0 : (Int → File → Option Bool)) (c0 : (List File)) : Nat → Int → Option Unit
  | 0, _ => none
  | k_5 + 1, i_1 => if (decide (0 ≤ i_1)) = true then ((idx c0 i_1).bind fun x17 => (a0 i_1 x17).bind fun r18 => if (!r18) = true then (some ()) else (slices_Backward_File_1.l0 a0 c0 k_5 (w64 (i_1 - 1)))) else (some ())

def slices_Backward_File_1 (k : Nat) (a0 : (Int → File → Option Bool)) (c0 : (List File)) : Option Unit := slices_Backward_File_1.l0 a0 c0 k (w64 ((c0.length : Int) - 1))

def version_Asks_1 (a0 : Int) (c0 : (List File)) (c1 : ByteArray) : Option Bool := (idx c0 a0).bind fun x1 => some (!(sLt x1.Limit c1 || sEq x1.Limit c1))

def sort_Search.l0 (a1 : (Int → Option Bool)) : Nat → Int → Int → Option Int
  | 0, _, _ => none
  | k_22 + 1, i_16, i_17 => if (decide (i_16 < i_17)) = true then ((a1 (w64 ((wu64 (w64 (i_16 + i_17))) / 2 ^ (Int.toNat 1)))).bind fun r28 => if (!r28) = true then (sort_Search.l0 a1 k_22 (w64 ((w64 ((wu64 (w64 (i_16 + i_17))) / 2 ^ (Int.toNat 1))) + 1)) i_17) else (sort_Search.l0 a1 k_22 i_16 (w64 ((wu64 (w64 (i_16 + i_17))) / 2 ^ (Int.toNat 1))))) else (some i_16)

def sort_Search (k : Nat) (a0 : Int) (a1 : (Int → Option Bool)) : Option Int := sort_Search.l0 a1 k 0 a0

def version_Asks.l2 (a1 : ByteArray) (J_63 : (List Place) → Option (List Place)) (r1524 : (List File)) : Nat → Int → (List Place) → Option (List Place)
  | 0, _, _ => none
  | k_1263 + 1, i_1241, l_1244 => if (decide (0 ≤ i_1241)) = true then (Jn (fun (l_1269 : (List Place)) => version_Asks.l2 a1 J_63 r1524 k_1263 (w64 (i_1241 - 1)) l_1269) (fun J_1271 => Jn (fun (l_1273 : (List Place)) => if (!true) = true then (J_63 l_1273) else (J_1271 l_1273)) (fun J_1275 => (idx r1524 i_1241).bind fun x1718 => if ((sLt x1718.Least a1 || sEq x1718.Least a1) && (sLt a1 x1718.Limit)) = true then ((push 14073748835379 l_1244 (⟨0, x1718.Number⟩ : Place)).bind fun l1727 => J_1275 l1727) else (J_1275 l_1244)))) else (J_63 l_1244)

def version_Asks.l1 (a1 : ByteArray) (r1411 : (List File)) (J_1199 : Int → Option (List Place)) : Nat → Int → Int → Option (List Place)
  | 0, _, _ => none
  | k_1216 + 1, i_1207, i_1208 => if (decide (i_1207 < i_1208)) = true then (Jn (fun (b_1217 : Bool) => if b_1217 = true then (version_Asks.l1 a1 r1411 J_1199 k_1216 (w64 ((w64 ((wu64 (w64 (i_1207 + i_1208))) / 2 ^ (Int.toNat 1))) + 1)) i_1208) else (version_Asks.l1 a1 r1411 J_1199 k_1216 i_1207 (w64 ((wu64 (w64 (i_1207 + i_1208))) / 2 ^ (Int.toNat 1))))) (fun J_1219 => (idx r1411 (w64 ((wu64 (w64 (i_1207 + i_1208))) / 2 ^ (Int.toNat 1)))).bind fun x1516 => J_1219 (!(!(sLt x1516.Limit a1 || sEq x1516.Limit a1))))) else (J_1199 i_1207)

def version_Asks.l0 (a0 : (List (List File))) (a1 : ByteArray) : Nat → (List Place) → Int → Option (List Place)
  | 0, _, _ => none
  | k_1031 + 1, l_836, i_837 => if (decide (i_837 < (a0.length : Int))) = true then (Jn (fun (l_1125 : (List Place)) => version_Asks.l0 a0 a1 k_1031 l_1125 (w64 (i_837 + 1))) (fun J_1127 => (version_of k_1031 a0 i_837).bind fun r1411 => Jn (fun (i_1171 : Int) => Jn (fun (b_1174 : Bool) => if b_1174 = true then ((idx r1411 i_1171).bind fun x1464 => (push 14073748835379 l_836 (⟨i_837, x1464.Number⟩ : Place)).bind fun l1469 => J_1127 l1469) else (J_1127 l_836)) (fun J_1175 => if (decide (i_1171 < (r1411.length : Int))) = true then ((idx r1411 i_1171).bind fun x1475 => J_1175 (sLt x1475.Least a1 || sEq x1475.Least a1)) else (J_1175 false))) (fun J_1173 => Jn (fun (i_1197 : Int) => J_1173 i_1197) (fun J_1199 => version_Asks.l1 a1 r1411 J_1199 k_1031 0 (r1411.length : Int))))) else (some l_836)

def version_Asks (k : Nat) (a0 : (List (List File))) (a1 : ByteArray) : Option (List Place) := Jn (fun (l_60 : (List Place)) => version_Asks.l0 a0 a1 k l_60 1) (fun J_63 => (version_of k a0 0).bind fun r1524 => version_Asks.l2 a1 J_63 r1524 k (w64 ((r1524.length : Int) - 1)) ([]))

def r16_level (k : Nat) (a0 : (List (List File))) (a1 : Int) : Option (List File) := (r16_Valid k a0).bind fun r6 => if (((!r6) || (decide (a1 < 0))) || (decide ((a0.length : Int) ≤ a1))) = true then (some ([])) else ((idx a0 a1).bind fun x11 => some x11)

def r16_Bears (a0 : File) (a1 : ByteArray) : Option Bool := some ((sLt a0.Least a1 || sEq a0.Least a1) && (sLt a1 a0.Limit))

def r16_Asks.l2 (a1 : ByteArray) (i_311 : Int) (J_403 : (List Place) → Option (List Place)) (r926 : (List File)) : Nat → (List Place) → Int → Option (List Place)
  | 0, _, _ => none
  | k_425 + 1, l_414, i_415 => if (decide (i_415 < (r926.length : Int))) = true then (Jn (fun (l_427 : (List Place)) => r16_Asks.l2 a1 i_311 J_403 r926 k_425 l_427 (w64 (i_415 + 1))) (fun J_429 => (idx r926 i_415).bind fun x986 => (r16_Bears x986 a1).bind fun r987 => if r987 = true then ((idx r926 i_415).bind fun x990 => (push 14073748835379 l_414 (⟨i_311, x990.Number⟩ : Place)).bind fun l993 => J_429 l993) else (J_429 l_414))) else (J_403 l_414)

def r16_Asks.l1 (a0 : (List (List File))) (a1 : ByteArray) (J_247 : (List Place) → Option (List Place)) : Nat → (List Place) → Int → Option (List Place)
  | 0, _, _ => none
  | k_373 + 1, l_310, i_311 => if (decide (i_311 < (a0.length : Int))) = true then (Jn (fun (l_401 : (List Place)) => r16_Asks.l1 a0 a1 J_247 k_373 l_401 (w64 (i_311 + 1))) (fun J_403 => (r16_level k_373 a0 i_311).bind fun r926 => r16_Asks.l2 a1 i_311 J_403 r926 k_373 l_310 0)) else (J_247 l_310)

def r16_Asks.l0 (a0 : (List (List File))) (a1 : ByteArray) (r1 : (List File)) : Nat → (List Place) → Int → Option (List Place)
  | 0, _, _ => none
  | k_57 + 1, l_45, i_46 => if (decide (0 ≤ i_46)) = true then (Jn (fun (l_59 : (List Place)) => r16_Asks.l0 a0 a1 r1 k_57 l_59 (w64 (i_46 - 1))) (fun J_61 => (idx r1 i_46).bind fun x134 => (r16_Bears x134 a1).bind fun r135 => if r135 = true then ((idx r1 i_46).bind fun x138 => (push 14073748835379 l_45 (⟨0, x138.Number⟩ : Place)).bind fun l141 => J_61 l141) else (J_61 l_45))) else (Jn (fun (l_245 : (List Place)) => some l_245) (fun J_247 => r16_Asks.l1 a0 a1 J_247 k_57 l_45 1))

def r16_Asks (k : Nat) (a0 : (List (List File))) (a1 : ByteArray) : Option (List Place) := (r16_level k a0 0).bind fun r1 => r16_Asks.l0 a0 a1 r1 k ([]) (w64 ((r1.length : Int) - 1))

def math_bits_Len32 (a0 : Int) : Option Int := Jn (fun (i_1 : Int) (i_2 : Int) => Jn (fun (i_5 : Int) (i_6 : Int) => (sidx (ByteArray.mk #[0, 1, 2, 2, 3, 3, 3, 3, 4, 4, 4, 4, 4, 4, 4, 4, 5, 5, 5, 5, 5, 5, 5, 5, 5, 5, 5, 5, 5, 5, 5, 5, 6, 6, 6, 6, 6, 6, 6, 6, 6, 6, 6, 6, 6, 6, 6, 6, 6, 6, 6, 6, 6, 6, 6, 6, 6, 6, 6, 6, 6, 6, 6, 6, 7, 7, 7, 7, 7, 7, 7, 7, 7, 7, 7, 7, 7, 7, 7, 7, 7, 7, 7, 7, 7, 7, 7, 7, 7, 7, 7, 7, 7, 7, 7, 7, 7, 7, 7, 7, 7, 7, 7, 7, 7, 7, 7, 7, 7, 7, 7, 7, 7, 7, 7, 7, 7, 7, 7, 7, 7, 7, 7, 7, 7, 7, 7, 7, 8, 8, 8, 8, 8, 8, 8, 8, 8, 8, 8, 8, 8, 8, 8, 8, 8, 8, 8, 8, 8, 8, 8, 8, 8, 8, 8, 8, 8, 8, 8, 8, 8, 8, 8, 8, 8, 8, 8, 8, 8, 8, 8, 8, 8, 8, 8, 8, 8, 8, 8, 8, 8, 8, 8, 8, 8, 8, 8, 8, 8, 8, 8, 8, 8, 8, 8, 8, 8, 8, 8, 8, 8, 8, 8, 8, 8, 8, 8, 8, 8, 8, 8, 8, 8, 8, 8, 8, 8, 8, 8, 8, 8, 8, 8, 8, 8, 8, 8, 8, 8, 8, 8, 8, 8, 8, 8, 8, 8, 8, 8, 8, 8, 8, 8, 8, 8, 8, 8, 8, 8, 8, 8, 8, 8, 8, 8, 8]) (wu8 i_5)).bind fun n3 => some (w64 (i_6 + (w64 n3)))) (fun J_8 => if (decide (256 ≤ i_1)) = true then (J_8 (i_1 / 2 ^ (Int.toNat 8)) (w64 (i_2 + 8))) else (J_8 i_1 i_2))) (fun J_4 => if (decide (65536 ≤ a0)) = true then (J_4 (a0 / 2 ^ (Int.toNat 16)) 16) else (J_4 a0 0))

def math_bits_Len64 (a0 : Int) : Option Int := Jn (fun (i_1 : Int) (i_2 : Int) => Jn (fun (i_5 : Int) (i_6 : Int) => Jn (fun (i_9 : Int) (i_10 : Int) => (sidx (ByteArray.mk #[0, 1, 2, 2, 3, 3, 3, 3, 4, 4, 4, 4, 4, 4, 4, 4, 5, 5, 5, 5, 5, 5, 5, 5, 5, 5, 5, 5, 5, 5, 5, 5, 6, 6, 6, 6, 6, 6, 6, 6, 6, 6, 6, 6, 6, 6, 6, 6, 6, 6, 6, 6, 6, 6, 6, 6, 6, 6, 6, 6, 6, 6, 6, 6, 7, 7, 7, 7, 7, 7, 7, 7, 7, 7, 7, 7, 7, 7, 7, 7, 7, 7, 7, 7, 7, 7, 7, 7, 7, 7, 7, 7, 7, 7, 7, 7, 7, 7, 7, 7, 7, 7, 7, 7, 7, 7, 7, 7, 7, 7, 7, 7, 7, 7, 7, 7, 7, 7, 7, 7, 7, 7, 7, 7, 7, 7, 7, 7, 8, 8, 8, 8, 8, 8, 8, 8, 8, 8, 8, 8, 8, 8, 8, 8, 8, 8, 8, 8, 8, 8, 8, 8, 8, 8, 8, 8, 8, 8, 8, 8, 8, 8, 8, 8, 8, 8, 8, 8, 8, 8, 8, 8, 8, 8, 8, 8, 8, 8, 8, 8, 8, 8, 8, 8, 8, 8, 8, 8, 8, 8, 8, 8, 8, 8, 8, 8, 8, 8, 8, 8, 8, 8, 8, 8, 8, 8, 8, 8, 8, 8, 8, 8, 8, 8, 8, 8, 8, 8, 8, 8, 8, 8, 8, 8, 8, 8, 8, 8, 8, 8, 8, 8, 8, 8, 8, 8, 8, 8, 8, 8, 8, 8, 8, 8, 8, 8, 8, 8, 8, 8, 8, 8, 8, 8, 8, 8]) (wu8 i_9)).bind fun n4 => some (w64 (i_10 + (w64 n4)))) (fun J_12 => if (decide (256 ≤ i_5)) = true then (J_12 (i_5 / 2 ^ (Int.toNat 8)) (w64 (i_6 + 8))) else (J_12 i_5 i_6))) (fun J_8 => if (decide (65536 ≤ i_1)) = true then (J_8 (i_1 / 2 ^ (Int.toNat 16)) (w64 (i_2 + 16))) else (J_8 i_1 i_2))) (fun J_4 => if (decide (4294967296 ≤ a0)) = true then (J_4 (a0 / 2 ^ (Int.toNat 32)) 32) else (J_4 a0 0))

def math_bits_Len (a0 : Int) : Option Int := (math_bits_Len64 a0).bind fun r1 => some r1

def cmp_Less_int (a0 : Int) (a1 : Int) : Option Bool := (cmp_isNaN_int a0).bind fun r1 => Jn (fun (b_1 : Bool) => some (b_1 || (decide (a0 < a1)))) (fun J_2 => if r1 = true then ((cmp_isNaN_int a1).bind fun r7 => J_2 (!r7)) else (J_2 false))

def slices_insertionSortOrdered_int.l1 (a1 : Int) (J_166 : (List Int) → Option (List Int)) : Nat → (List Int) → Int → Option (List Int)
  | 0, _, _ => none
  | k_189 + 1, l_177, i_178 => Jn (fun (b_193 : Bool) => if b_193 = true then ((idx l_177 (w64 (i_178 - 1))).bind fun x784 => (idx l_177 i_178).bind fun x785 => (idx l_177 i_178).bind fun x786 => (upd l_177 i_178 x784).bind fun l788 => (idx l788 (w64 (i_178 - 1))).bind fun x790 => (upd l788 (w64 (i_178 - 1)) x785).bind fun l792 => slices_insertionSortOrdered_int.l1 a1 J_166 k_189 l792 (w64 (i_178 - 1))) else (J_166 l_177)) (fun J_194 => if (decide (a1 < i_178)) = true then ((idx l_177 i_178).bind fun x795 => (idx l_177 (w64 (i_178 - 1))).bind fun x796 => (cmp_Less_int x795 x796).bind fun r797 => J_194 r797) else (J_194 false))

def slices_insertionSortOrdered_int.l0 (a1 : Int) (a2 : Int) : Nat → (List Int) → Int → Option (List Int)
  | 0, _, _ => none
  | k_134 + 1, l_67, i_68 => if (decide (i_68 < a2)) = true then (Jn (fun (l_164 : (List Int)) => slices_insertionSortOrdered_int.l0 a1 a2 k_134 l_164 (w64 (i_68 + 1))) (fun J_166 => slices_insertionSortOrdered_int.l1 a1 J_166 k_134 l_67 i_68)) else (some l_67)

def slices_insertionSortOrdered_int (k : Nat) (a0 : (List Int)) (a1 : Int) (a2 : Int) : Option (List Int) := slices_insertionSortOrdered_int.l0 a1 a2 k a0 (w64 (a1 + 1))

def slices_siftDownOrdered_int.l0 (a2 : Int) (a3 : Int) : Nat → (List Int) → Int → Option (List Int)
  | 0, _, _ => none
  | k_32 + 1, l_16, i_17 => if (decide (a2 ≤ (w64 ((w64 (2 * i_17)) + 1)))) = true then (some l_16) else (Jn (fun (i_36 : Int) => (idx l_16 (w64 (a3 + i_17))).bind fun x114 => (idx l_16 (w64 (a3 + i_36))).bind fun x115 => (cmp_Less_int x114 x115).bind fun r116 => if (!r116) = true then (some l_16) else ((idx l_16 (w64 (a3 + i_36))).bind fun x120 => (idx l_16 (w64 (a3 + i_17))).bind fun x121 => (idx l_16 (w64 (a3 + i_17))).bind fun x122 => (upd l_16 (w64 (a3 + i_17)) x120).bind fun l124 => (idx l124 (w64 (a3 + i_36))).bind fun x126 => (upd l124 (w64 (a3 + i_36)) x121).bind fun l128 => slices_siftDownOrdered_int.l0 a2 a3 k_32 l128 i_36)) (fun J_38 => Jn (fun (b_39 : Bool) => if b_39 = true then (J_38 (w64 ((w64 ((w64 (2 * i_17)) + 1)) + 1))) else (J_38 (w64 ((w64 (2 * i_17)) + 1)))) (fun J_40 => if (decide ((w64 ((w64 ((w64 (2 * i_17)) + 1)) + 1)) < a2)) = true then ((idx l_16 (w64 (a3 + (w64 ((w64 (2 * i_17)) + 1))))).bind fun x138 => (idx l_16 (w64 ((w64 (a3 + (w64 ((w64 (2 * i_17)) + 1)))) + 1))).bind fun x139 => (cmp_Less_int x138 x139).bind fun r140 => J_40 r140) else (J_40 false))))

def slices_siftDownOrdered_int (k : Nat) (a0 : (List Int)) (a1 : Int) (a2 : Int) (a3 : Int) : Option (List Int) := slices_siftDownOrdered_int.l0 a2 a3 k a0 a1

def slices_heapSortOrdered_int.l1 (a1 : Int) : Nat → (List Int) → Int → Option (List Int)
  | 0, _, _ => none
  | k_44 + 1, l_38, i_39 => if (decide (0 ≤ i_39)) = true then ((idx l_38 (w64 (a1 + i_39))).bind fun x125 => (idx l_38 a1).bind fun x126 => (idx l_38 a1).bind fun x127 => (upd l_38 a1 x125).bind fun l129 => (idx l129 (w64 (a1 + i_39))).bind fun x131 => (upd l129 (w64 (a1 + i_39)) x126).bind fun l133 => (slices_siftDownOrdered_int k_44 l133 0 i_39 a1).bind fun r136 => slices_heapSortOrdered_int.l1 a1 k_44 r136 (w64 (i_39 - 1))) else (some l_38)

def slices_heapSortOrdered_int.l0 (a1 : Int) : Nat → (List Int) → Int → Int → Option (List Int)
  | 0, _, _, _ => none
  | k_32 + 1, l_24, i_25, i_26 => if (decide (0 ≤ i_26)) = true then ((slices_siftDownOrdered_int k_32 l_24 i_26 i_25 a1).bind fun r46 => slices_heapSortOrdered_int.l0 a1 k_32 r46 i_25 (w64 (i_26 - 1))) else (slices_heapSortOrdered_int.l1 a1 k_32 l_24 (w64 (i_25 - 1)))

def slices_heapSortOrdered_int (k : Nat) (a0 : (List Int)) (a1 : Int) (a2 : Int) : Option (List Int) := slices_heapSortOrdered_int.l0 a1 k a0 (w64 (a2 - a1)) (w64 (Int.tdiv (w64 ((w64 (a2 - a1)) - 1)) 2))

def slices_nextPowerOfTwo (a0 : Int) : Option Int := (math_bits_Len (wu64 a0)).bind fun r1 => (shlO .u64 1 r1).bind fun n3 => some n3

def slices_xorshift_Next (a0 : Int) : Option (Int × Int) := some ((bits .xor .u64 (bits .xor .u64 (bits .xor .u64 a0 (wu64 (a0 * 2 ^ (Int.toNat 13)))) ((bits .xor .u64 a0 (wu64 (a0 * 2 ^ (Int.toNat 13)))) / 2 ^ (Int.toNat 7))) (wu64 ((bits .xor .u64 (bits .xor .u64 a0 (wu64 (a0 * 2 ^ (Int.toNat 13)))) ((bits .xor .u64 a0 (wu64 (a0 * 2 ^ (Int.toNat 13)))) / 2 ^ (Int.toNat 7))) * 2 ^ (Int.toNat 17)))), (bits .xor .u64 (bits .xor .u64 (bits .xor .u64 a0 (wu64 (a0 * 2 ^ (Int.toNat 13)))) ((bits .xor .u64 a0 (wu64 (a0 * 2 ^ (Int.toNat 13)))) / 2 ^ (Int.toNat 7))) (wu64 ((bits .xor .u64 (bits .xor .u64 a0 (wu64 (a0 * 2 ^ (Int.toNat 13)))) ((bits .xor .u64 a0 (wu64 (a0 * 2 ^ (Int.toNat 13)))) / 2 ^ (Int.toNat 7))) * 2 ^ (Int.toNat 17)))))

def slices_breakPatternsOrdered_int.l0 (a1 : Int) (r5 : Int) : Nat → (List Int) → Int → Int → Int → Option (List Int)
  | 0, _, _, _, _ => none
  | k_32 + 1, l_16, i_17, i_18, i_19 => if (decide (i_19 ≤ (w64 ((w64 (a1 + (w64 ((w64 (Int.tdiv i_17 4)) * 2)))) + 1)))) = true then ((slices_xorshift_Next i_18).bind fun r93 => Jn (fun (i_36 : Int) => (idx l_16 (w64 (a1 + i_36))).bind fun x97 => (idx l_16 i_19).bind fun x98 => (idx l_16 i_19).bind fun x99 => (upd l_16 i_19 x97).bind fun l101 => (idx l101 (w64 (a1 + i_36))).bind fun x103 => (upd l101 (w64 (a1 + i_36)) x98).bind fun l105 => slices_breakPatternsOrdered_int.l0 a1 r5 k_32 l105 i_17 r93.2 (w64 (i_19 + 1))) (fun J_38 => if (decide (i_17 ≤ (w64 (bits .and .u64 r93.1 (wu64 (r5 - 1)))))) = true then (J_38 (w64 ((w64 (bits .and .u64 r93.1 (wu64 (r5 - 1)))) - i_17))) else (J_38 (w64 (bits .and .u64 r93.1 (wu64 (r5 - 1))))))) else (some l_16)

def slices_breakPatternsOrdered_int (k : Nat) (a0 : (List Int)) (a1 : Int) (a2 : Int) : Option (List Int) := if (decide (8 ≤ (w64 (a2 - a1)))) = true then ((slices_nextPowerOfTwo (w64 (a2 - a1))).bind fun r5 => slices_breakPatternsOrdered_int.l0 a1 r5 k a0 (w64 (a2 - a1)) (wu64 (w64 (a2 - a1))) (w64 ((w64 (a1 + (w64 ((w64 (Int.tdiv (w64 (a2 - a1)) 4)) * 2)))) - 1))) else (some a0)

def slices_order2Ordered_int (a0 : (List Int)) (a1 : Int) (a2 : Int) (a3 : Int) : Option (Int × Int × Int) := (idx a0 a2).bind fun x8 => (idx a0 a1).bind fun x9 => (cmp_Less_int x8 x9).bind fun r10 => if r10 = true then (some (a2, a1, w64 (a3 + 1))) else (some (a1, a2, a3))

def slices_medianOrdered_int (a0 : (List Int)) (a1 : Int) (a2 : Int) (a3 : Int) (a4 : Int) : Option (Int × Int) := (slices_order2Ordered_int a0 a1 a2 a4).bind fun r1 => (slices_order2Ordered_int a0 r1.2.1 a3 r1.2.2).bind fun r4 => (slices_order2Ordered_int a0 r1.1 r4.1 r4.2.2).bind fun r7 => some (r7.2.1, r7.2.2)

def slices_medianAdjacentOrdered_int (a0 : (List Int)) (a1 : Int) (a2 : Int) : Option (Int × Int) := (slices_medianOrdered_int a0 (w64 (a1 - 1)) a1 (w64 (a1 + 1)) a2).bind fun r1 => some (r1.1, r1.2)

def slices_choosePivotOrdered_int (a0 : (List Int)) (a1 : Int) (a2 : Int) : Option (Int × Int) := Jn (fun (i_7 : Int) (i_8 : Int) => if (i_7 == 0) = true then (some (i_8, 1)) else (if (i_7 == 12) = true then (some (i_8, 2)) else (some (i_8, 0)))) (fun J_10 => if (decide (8 ≤ (w64 (a2 - a1)))) = true then (Jn (fun (i_11 : Int) (i_12 : Int) (i_13 : Int) (i_14 : Int) => (slices_medianOrdered_int a0 i_12 i_13 i_14 i_11).bind fun r40 => J_10 r40.2 r40.1) (fun J_16 => if (decide (50 ≤ (w64 (a2 - a1)))) = true then ((slices_medianAdjacentOrdered_int a0 (w64 (a1 + (w64 ((w64 (Int.tdiv (w64 (a2 - a1)) 4)) * 1)))) 0).bind fun r44 => (slices_medianAdjacentOrdered_int a0 (w64 (a1 + (w64 ((w64 (Int.tdiv (w64 (a2 - a1)) 4)) * 2)))) r44.2).bind fun r47 => (slices_medianAdjacentOrdered_int a0 (w64 (a1 + (w64 ((w64 (Int.tdiv (w64 (a2 - a1)) 4)) * 3)))) r47.2).bind fun r50 => J_16 r50.2 r44.1 r47.1 r50.1) else (J_16 0 (w64 (a1 + (w64 ((w64 (Int.tdiv (w64 (a2 - a1)) 4)) * 1)))) (w64 (a1 + (w64 ((w64 (Int.tdiv (w64 (a2 - a1)) 4)) * 2)))) (w64 (a1 + (w64 ((w64 (Int.tdiv (w64 (a2 - a1)) 4)) * 3))))))) else (J_10 0 (w64 (a1 + (w64 ((w64 (Int.tdiv (w64 (a2 - a1)) 4)) * 2))))))

def slices_reverseRangeOrdered_int.l0 : Nat → (List Int) → Int → Int → Option (List Int)
  | 0, _, _, _ => none
  | k_15 + 1, l_7, i_8, i_9 => if (decide (i_8 < i_9)) = true then ((idx l_7 i_9).bind fun x29 => (idx l_7 i_8).bind fun x30 => (idx l_7 i_8).bind fun x31 => (upd l_7 i_8 x29).bind fun l33 => (idx l33 i_9).bind fun x35 => (upd l33 i_9 x30).bind fun l37 => slices_reverseRangeOrdered_int.l0 k_15 l37 (w64 (i_8 + 1)) (w64 (i_9 - 1))) else (some l_7)

def slices_reverseRangeOrdered_int (k : Nat) (a0 : (List Int)) (a1 : Int) (a2 : Int) : Option (List Int) := slices_reverseRangeOrdered_int.l0 k a0 a1 (w64 (a2 - 1))

def slices_partialInsertionSortOrdered_int.l3 (a2 : Int) (l_765 : (List Int)) (J_1083 : Int → Option (Bool × (List Int))) : Nat → Int → Option (Bool × (List Int))
  | 0, _ => none
  | k_1139 + 1, i_1129 => Jn (fun (b_1143 : Bool) => if b_1143 = true then (slices_partialInsertionSortOrdered_int.l3 a2 l_765 J_1083 k_1139 (w64 (i_1129 + 1))) else (J_1083 i_1129)) (fun J_1144 => if (decide (i_1129 < a2)) = true then ((idx l_765 i_1129).bind fun x6993 => (idx l_765 (w64 (i_1129 - 1))).bind fun x6994 => (cmp_Less_int x6993 x6994).bind fun r6995 => J_1144 (!r6995)) else (J_1144 false))

def slices_partialInsertionSortOrdered_int.l2 (J_1097 : (List Int) → Option (Bool × (List Int))) : Nat → (List Int) → Int → Option (Bool × (List Int))
  | 0, _, _ => none
  | k_1119 + 1, l_1113, i_1114 => if (decide (1 ≤ i_1114)) = true then ((idx l_1113 i_1114).bind fun x6914 => (idx l_1113 (w64 (i_1114 - 1))).bind fun x6915 => (cmp_Less_int x6914 x6915).bind fun r6916 => if (!r6916) = true then (J_1097 l_1113) else ((idx l_1113 (w64 (i_1114 - 1))).bind fun x6920 => (idx l_1113 i_1114).bind fun x6921 => (idx l_1113 i_1114).bind fun x6922 => (upd l_1113 i_1114 x6920).bind fun l6924 => (idx l6924 (w64 (i_1114 - 1))).bind fun x6926 => (upd l6924 (w64 (i_1114 - 1)) x6921).bind fun l6928 => slices_partialInsertionSortOrdered_int.l2 J_1097 k_1119 l6928 (w64 (i_1114 - 1)))) else (J_1097 l_1113)

def slices_partialInsertionSortOrdered_int.l1 (a2 : Int) (J_1054 : (List Int) → Int → Option (Bool × (List Int))) (i_1081 : Int) : Nat → (List Int) → Int → Option (Bool × (List Int))
  | 0, _, _ => none
  | k_1108 + 1, l_1102, i_1103 => if (decide (i_1103 < a2)) = true then ((idx l_1102 i_1103).bind fun x6769 => (idx l_1102 (w64 (i_1103 - 1))).bind fun x6770 => (cmp_Less_int x6769 x6770).bind fun r6771 => if (!r6771) = true then (J_1054 l_1102 i_1081) else ((idx l_1102 (w64 (i_1103 - 1))).bind fun x6775 => (idx l_1102 i_1103).bind fun x6776 => (idx l_1102 i_1103).bind fun x6777 => (upd l_1102 i_1103 x6775).bind fun l6779 => (idx l6779 (w64 (i_1103 - 1))).bind fun x6781 => (upd l6779 (w64 (i_1103 - 1)) x6776).bind fun l6783 => slices_partialInsertionSortOrdered_int.l1 a2 J_1054 i_1081 k_1108 l6783 (w64 (i_1103 + 1)))) else (J_1054 l_1102 i_1081)

def slices_partialInsertionSortOrdered_int.l0 (a1 : Int) (a2 : Int) : Nat → (List Int) → Int → Int → Option (Bool × (List Int))
  | 0, _, _, _ => none
  | k_959 + 1, l_765, i_766, i_767 => if (decide (i_767 < 5)) = true then (Jn (fun (l_1051 : (List Int)) (i_1052 : Int) => slices_partialInsertionSortOrdered_int.l0 a1 a2 k_959 l_1051 i_1052 (w64 (i_767 + 1))) (fun J_1054 => Jn (fun (i_1081 : Int) => if (i_1081 == a2) = true then (some (true, l_765)) else (if (decide ((w64 (a2 - a1)) < 50)) = true then (some (false, l_765)) else ((idx l_765 (w64 (i_1081 - 1))).bind fun x6485 => (idx l_765 i_1081).bind fun x6486 => (idx l_765 i_1081).bind fun x6487 => (upd l_765 i_1081 x6485).bind fun l6489 => (idx l6489 (w64 (i_1081 - 1))).bind fun x6491 => (upd l6489 (w64 (i_1081 - 1)) x6486).bind fun l6493 => Jn (fun (l_1095 : (List Int)) => if (decide (2 ≤ (w64 (a2 - i_1081)))) = true then (slices_partialInsertionSortOrdered_int.l1 a2 J_1054 i_1081 k_959 l_1095 (w64 (i_1081 + 1))) else (J_1054 l_1095 i_1081)) (fun J_1097 => if (decide (2 ≤ (w64 (i_1081 - a1)))) = true then (slices_partialInsertionSortOrdered_int.l2 J_1097 k_959 l6493 (w64 (i_1081 - 1))) else (J_1097 l6493))))) (fun J_1083 => slices_partialInsertionSortOrdered_int.l3 a2 l_765 J_1083 k_959 i_766))) else (some (false, l_765))

def slices_partialInsertionSortOrdered_int (k : Nat) (a0 : (List Int)) (a1 : Int) (a2 : Int) : Option (Bool × (List Int)) := slices_partialInsertionSortOrdered_int.l0 a1 a2 k a0 (w64 (a1 + 1)) 0

def slices_partitionEqualOrdered_int.l2 (a1 : Int) (l_462 : (List Int)) (i_464 : Int) (J_609 : Int → Option (Int × (List Int))) : Nat → Int → Option (Int × (List Int))
  | 0, _ => none
  | k_684 + 1, i_674 => Jn (fun (b_688 : Bool) => if b_688 = true then (slices_partitionEqualOrdered_int.l2 a1 l_462 i_464 J_609 k_684 (w64 (i_674 + 1))) else (J_609 i_674)) (fun J_689 => if (decide (i_674 ≤ i_464)) = true then ((idx l_462 a1).bind fun x1670 => (idx l_462 i_674).bind fun x1671 => (cmp_Less_int x1670 x1671).bind fun r1672 => J_689 (!r1672)) else (J_689 false))

def slices_partitionEqualOrdered_int.l1 (a1 : Int) (l_462 : (List Int)) (i_607 : Int) (J_638 : Int → Option (Int × (List Int))) : Nat → Int → Option (Int × (List Int))
  | 0, _ => none
  | k_658 + 1, i_648 => Jn (fun (b_662 : Bool) => if b_662 = true then (slices_partitionEqualOrdered_int.l1 a1 l_462 i_607 J_638 k_658 (w64 (i_648 - 1))) else (J_638 i_648)) (fun J_663 => if (decide (i_607 ≤ i_648)) = true then ((idx l_462 a1).bind fun x1604 => (idx l_462 i_648).bind fun x1605 => (cmp_Less_int x1604 x1605).bind fun r1606 => J_663 r1606) else (J_663 false))

def slices_partitionEqualOrdered_int.l0 (a1 : Int) : Nat → (List Int) → Int → Int → Option (Int × (List Int))
  | 0, _, _, _ => none
  | k_580 + 1, l_462, i_463, i_464 => Jn (fun (i_607 : Int) => Jn (fun (i_636 : Int) => if (decide (i_636 < i_607)) = true then (some (i_607, l_462)) else ((idx l_462 i_636).bind fun x1531 => (idx l_462 i_607).bind fun x1532 => (idx l_462 i_607).bind fun x1533 => (upd l_462 i_607 x1531).bind fun l1535 => (idx l1535 i_636).bind fun x1537 => (upd l1535 i_636 x1532).bind fun l1539 => slices_partitionEqualOrdered_int.l0 a1 k_580 l1539 (w64 (i_607 + 1)) (w64 (i_636 - 1)))) (fun J_638 => slices_partitionEqualOrdered_int.l1 a1 l_462 i_607 J_638 k_580 i_464)) (fun J_609 => slices_partitionEqualOrdered_int.l2 a1 l_462 i_464 J_609 k_580 i_463)

def slices_partitionEqualOrdered_int (k : Nat) (a0 : (List Int)) (a1 : Int) (a2 : Int) (a3 : Int) : Option (Int × (List Int)) := (idx a0 a3).bind fun x1 => (idx a0 a1).bind fun x2 => (idx a0 a1).bind fun x3 => (upd a0 a1 x1).bind fun l5 => (idx l5 a3).bind fun x7 => (upd l5 a3 x2).bind fun l9 => slices_partitionEqualOrdered_int.l0 a1 k l9 (w64 (a1 + 1)) (w64 (a2 - 1))

def slices_partitionOrdered_int.l4 (a1 : Int) (l9 : (List Int)) (i_20 : Int) (J_67 : Int → Option (Int × Bool × (List Int))) : Nat → Int → Option (Int × Bool × (List Int))
  | 0, _ => none
  | k_779 + 1, i_769 => Jn (fun (b_783 : Bool) => if b_783 = true then (slices_partitionOrdered_int.l4 a1 l9 i_20 J_67 k_779 (w64 (i_769 - 1))) else (J_67 i_769)) (fun J_784 => if (decide (i_20 ≤ i_769)) = true then ((idx l9 i_769).bind fun x1932 => (idx l9 a1).bind fun x1933 => (cmp_Less_int x1932 x1933).bind fun r1934 => J_784 (!r1934)) else (J_784 false))

def slices_partitionOrdered_int.l3 (a1 : Int) (l_531 : (List Int)) (i_533 : Int) (J_678 : Int → Option (Int × Bool × (List Int))) : Nat → Int → Option (Int × Bool × (List Int))
  | 0, _ => none
  | k_753 + 1, i_743 => Jn (fun (b_757 : Bool) => if b_757 = true then (slices_partitionOrdered_int.l3 a1 l_531 i_533 J_678 k_753 (w64 (i_743 + 1))) else (J_678 i_743)) (fun J_758 => if (decide (i_743 ≤ i_533)) = true then ((idx l_531 i_743).bind fun x1866 => (idx l_531 a1).bind fun x1867 => (cmp_Less_int x1866 x1867).bind fun r1868 => J_758 r1868) else (J_758 false))

def slices_partitionOrdered_int.l2 (a1 : Int) (l_531 : (List Int)) (i_676 : Int) (J_707 : Int → Option (Int × Bool × (List Int))) : Nat → Int → Option (Int × Bool × (List Int))
  | 0, _ => none
  | k_727 + 1, i_717 => Jn (fun (b_731 : Bool) => if b_731 = true then (slices_partitionOrdered_int.l2 a1 l_531 i_676 J_707 k_727 (w64 (i_717 - 1))) else (J_707 i_717)) (fun J_732 => if (decide (i_676 ≤ i_717)) = true then ((idx l_531 i_717).bind fun x1800 => (idx l_531 a1).bind fun x1801 => (cmp_Less_int x1800 x1801).bind fun r1802 => J_732 (!r1802)) else (J_732 false))

def slices_partitionOrdered_int.l1 (a1 : Int) (J_415 : (List Int) → Int → Option (Int × Bool × (List Int))) : Nat → (List Int) → Int → Int → Option (Int × Bool × (List Int))
  | 0, _, _, _ => none
  | k_649 + 1, l_531, i_532, i_533 => Jn (fun (i_676 : Int) => Jn (fun (i_705 : Int) => if (decide (i_705 < i_676)) = true then (J_415 l_531 i_705) else ((idx l_531 i_705).bind fun x1727 => (idx l_531 i_676).bind fun x1728 => (idx l_531 i_676).bind fun x1729 => (upd l_531 i_676 x1727).bind fun l1731 => (idx l1731 i_705).bind fun x1733 => (upd l1731 i_705 x1728).bind fun l1735 => slices_partitionOrdered_int.l1 a1 J_415 k_649 l1735 (w64 (i_676 + 1)) (w64 (i_705 - 1)))) (fun J_707 => slices_partitionOrdered_int.l2 a1 l_531 i_676 J_707 k_649 i_533)) (fun J_678 => slices_partitionOrdered_int.l3 a1 l_531 i_533 J_678 k_649 i_532)

def slices_partitionOrdered_int.l0 (a1 : Int) (l9 : (List Int)) : Nat → Int → Int → Option (Int × Bool × (List Int))
  | 0, _, _ => none
  | k_32 + 1, i_20, i_21 => Jn (fun (b_36 : Bool) => if b_36 = true then (slices_partitionOrdered_int.l0 a1 l9 k_32 (w64 (i_20 + 1)) i_21) else (Jn (fun (i_65 : Int) => if (decide (i_65 < i_20)) = true then ((idx l9 a1).bind fun x175 => (idx l9 i_65).bind fun x176 => (idx l9 i_65).bind fun x177 => (upd l9 i_65 x175).bind fun l179 => (idx l179 a1).bind fun x181 => (upd l179 a1 x176).bind fun l183 => some (i_65, true, l183)) else ((idx l9 i_65).bind fun x186 => (idx l9 i_20).bind fun x187 => (idx l9 i_20).bind fun x188 => (upd l9 i_20 x186).bind fun l190 => (idx l190 i_65).bind fun x192 => (upd l190 i_65 x187).bind fun l194 => Jn (fun (l_412 : (List Int)) (i_413 : Int) => (idx l_412 a1).bind fun x1028 => (idx l_412 i_413).bind fun x1029 => (idx l_412 i_413).bind fun x1030 => (upd l_412 i_413 x1028).bind fun l1032 => (idx l1032 a1).bind fun x1034 => (upd l1032 a1 x1029).bind fun l1036 => some (i_413, false, l1036)) (fun J_415 => slices_partitionOrdered_int.l1 a1 J_415 k_32 l194 (w64 (i_20 + 1)) (w64 (i_65 - 1))))) (fun J_67 => slices_partitionOrdered_int.l4 a1 l9 i_20 J_67 k_32 i_21))) (fun J_37 => if (decide (i_20 ≤ i_21)) = true then ((idx l9 i_20).bind fun x1936 => (idx l9 a1).bind fun x1937 => (cmp_Less_int x1936 x1937).bind fun r1938 => J_37 r1938) else (J_37 false))

def slices_partitionOrdered_int (k : Nat) (a0 : (List Int)) (a1 : Int) (a2 : Int) (a3 : Int) : Option (Int × Bool × (List Int)) := (idx a0 a3).bind fun x1 => (idx a0 a1).bind fun x2 => (idx a0 a1).bind fun x3 => (upd a0 a1 x1).bind fun l5 => (idx l5 a3).bind fun x7 => (upd l5 a3 x2).bind fun l9 => slices_partitionOrdered_int.l0 a1 l9 k (w64 (a1 + 1)) (w64 (a2 - 1))

def slices_pdqsortOrdered_int.l0 (RCALL : (List Int) → Int → Int → Int → Option (List Int)) : Nat → (List Int) → Int → Int → Int → Bool → Bool → Option (List Int)
  | 0, _, _, _, _, _, _ => none
  | k_60 + 1, l_28, i_29, i_30, i_31, b_32, b_33 => if (decide ((w64 (i_30 - i_29)) ≤ 12)) = true then ((slices_insertionSortOrdered_int k_60 l_28 i_29 i_30).bind fun r178 => some r178) else (if (i_31 == 0) = true then ((slices_heapSortOrdered_int k_60 l_28 i_29 i_30).bind fun r186 => some r186) else (Jn (fun (l_61 : (List Int)) (i_62 : Int) => (slices_choosePivotOrdered_int l_61 i_29 i_30).bind fun r193 => Jn (fun (l_65 : (List Int)) (i_66 : Int) (i_67 : Int) => Jn (fun (l_70 : (List Int)) => Jn (fun (b_76 : Bool) => if b_76 = true then ((slices_partitionEqualOrdered_int k_60 l_70 i_29 i_30 i_66).bind fun r227 => slices_pdqsortOrdered_int.l0 RCALL k_60 r227.2 r227.1 i_30 i_62 b_32 b_33) else ((slices_partitionOrdered_int k_60 l_70 i_29 i_30 i_66).bind fun r230 => if (decide ((w64 (r230.1 - i_29)) < (w64 (i_30 - r230.1)))) = true then ((RCALL r230.2.2 i_29 r230.1 i_62).bind fun r234 => slices_pdqsortOrdered_int.l0 RCALL k_60 r234 (w64 (r230.1 + 1)) i_30 i_62 (decide ((w64 (Int.tdiv (w64 (i_30 - i_29)) 8)) ≤ (w64 (r230.1 - i_29)))) r230.2.1) else ((RCALL r230.2.2 (w64 (r230.1 + 1)) i_30 i_62).bind fun r237 => slices_pdqsortOrdered_int.l0 RCALL k_60 r237 i_29 r230.1 i_62 (decide ((w64 (Int.tdiv (w64 (i_30 - i_29)) 8)) ≤ (w64 (i_30 - r230.1)))) r230.2.1))) (fun J_77 => if (decide (0 < i_29)) = true then ((idx l_70 (w64 (i_29 - 1))).bind fun x240 => (idx l_70 i_66).bind fun x241 => (cmp_Less_int x240 x241).bind fun r242 => J_77 (!r242)) else (J_77 false))) (fun J_72 => if ((b_32 && b_33) && (i_67 == 1)) = true then ((slices_partialInsertionSortOrdered_int k_60 l_65 i_29 i_30).bind fun r247 => if r247.1 = true then (some r247.2) else (J_72 r247.2)) else (J_72 l_65))) (fun J_69 => if (r193.2 == 2) = true then ((slices_reverseRangeOrdered_int k_60 l_61 i_29 i_30).bind fun r252 => J_69 r252 (w64 ((w64 (i_30 - 1)) - (w64 (r193.1 - i_29)))) 1) else (J_69 l_61 r193.1 r193.2))) (fun J_64 => if (!b_32) = true then ((slices_breakPatternsOrdered_int k_60 l_28 i_29 i_30).bind fun r256 => J_64 r256 (w64 (i_31 - 1))) else (J_64 l_28 i_31))))

def slices_pdqsortOrdered_int : Nat → (List Int) → Int → Int → Int → Option (List Int)
  | 0, _, _, _, _ => none
  | k + 1, a0, a1, a2, a3 => slices_pdqsortOrdered_int.l0 (fun x0 x1 x2 x3 => slices_pdqsortOrdered_int k x0 x1 x2 x3) k a0 a1 a2 a3 true true

def slices_Sort_int (k : Nat) (a0 : (List Int)) : Option (List Int) := (math_bits_Len (wu64 (a0.length : Int))).bind fun r1 => (slices_pdqsortOrdered_int k a0 0 (a0.length : Int) r1).bind fun r3 => some r3

def version_Numbers.l1 (J_226 : (List Int) → Option (List Int)) (x748 : (List File)) : Nat → (List Int) → Int → Option (List Int)
  | 0, _, _ => none
  | k_240 + 1, l_233, i_234 => if (decide (i_234 < (x748.length : Int))) = true then ((idx x748 i_234).bind fun x804 => (push 28147497670912 l_233 x804.Number).bind fun l810 => version_Numbers.l1 J_226 x748 k_240 l810 (w64 (i_234 + 1))) else (J_226 l_233)

def version_Numbers.l0 (a0 : (List (List File))) : Nat → (List Int) → Int → Option (List Int)
  | 0, _, _ => none
  | k_208 + 1, l_168, i_169 => if (decide (i_169 < (a0.length : Int))) = true then (Jn (fun (l_224 : (List Int)) => version_Numbers.l0 a0 k_208 l_224 (w64 (i_169 + 1))) (fun J_226 => (idx a0 i_169).bind fun x748 => version_Numbers.l1 J_226 x748 k_208 l_168 0)) else ((slices_Sort_int k_208 l_168).bind fun r813 => some r813)

def version_Numbers (k : Nat) (a0 : (List (List File))) : Option (List Int) := (version_Valid k a0).bind fun r4 => if (!r4) = true then (some ([])) else (version_Numbers.l0 a0 k ([]) 0)

def version_Files (k : Nat) (a0 : (List (List File))) : Option Int := (version_Numbers k a0).bind fun r1 => some (r1.length : Int)

def l16_one (k : Nat) : Option Bool := (version_Valid k ([[(⟨3, 9, (ByteArray.mk #[97]), (ByteArray.mk #[99]), 1, 1⟩ : File)]])).bind fun r7 => Jn (fun (b_1 : Bool) => Jn (fun (b_4 : Bool) => Jn (fun (b_7 : Bool) => some b_7) (fun J_8 => if b_4 = true then ((version_Asks k ([[(⟨3, 9, (ByteArray.mk #[97]), (ByteArray.mk #[99]), 1, 1⟩ : File)]]) (ByteArray.mk #[98])).bind fun r22 => J_8 ((r22.length : Int) == 1)) else (J_8 false))) (fun J_5 => if b_1 = true then ((version_Over k ([[(⟨3, 9, (ByteArray.mk #[97]), (ByteArray.mk #[99]), 1, 1⟩ : File)]]) 0 (ByteArray.mk #[98]) (ByteArray.mk #[])).bind fun r26 => J_5 ((r26.length : Int) == 1)) else (J_5 false))) (fun J_2 => if r7 = true then ((version_Files k ([[(⟨3, 9, (ByteArray.mk #[97]), (ByteArray.mk #[99]), 1, 1⟩ : File)]])).bind fun r30 => J_2 (r30 == 1)) else (J_2 false))

def r16_Overlaps (a0 : File) (a1 : ByteArray) (a2 : ByteArray) : Option Bool := some ((!(sLt a0.Limit a1 || sEq a0.Limit a1)) && ((sEq a2 (ByteArray.mk #[])) || ((sLt a0.Least a2) && (!(sLt a2 a1 || sEq a2 a1)))))

def r16_Over.l0 (a2 : ByteArray) (a3 : ByteArray) (r1 : (List File)) : Nat → (List File) → Int → Option (List File)
  | 0, _, _ => none
  | k_56 + 1, l_44, i_45 => if (decide (i_45 < (r1.length : Int))) = true then (Jn (fun (l_58 : (List File)) => r16_Over.l0 a2 a3 r1 k_56 l_58 (w64 (i_45 + 1))) (fun J_60 => (idx r1 i_45).bind fun x134 => (r16_Overlaps x134 a2 a3).bind fun r135 => if r135 = true then ((idx r1 i_45).bind fun x138 => (push 3518437208730 l_44 x138).bind fun l141 => J_60 l141) else (J_60 l_44))) else (some l_44)

def r16_Over (k : Nat) (a0 : (List (List File))) (a1 : Int) (a2 : ByteArray) (a3 : ByteArray) : Option (List File) := (r16_level k a0 a1).bind fun r1 => r16_Over.l0 a2 a3 r1 k ([]) 0

def l16_files.l0 (a0 : (List File)) (a1 : (List File)) : Nat → Int → Option Bool
  | 0, _ => none
  | k_16 + 1, i_12 => if (decide (i_12 < (a0.length : Int))) = true then ((idx a0 i_12).bind fun x59 => (idx a1 i_12).bind fun x60 => if (!File.eqb x59 x60) = true then (some false) else (l16_files.l0 a0 a1 k_16 (w64 (i_12 + 1)))) else (some true)

def l16_files (k : Nat) (a0 : (List File)) (a1 : (List File)) : Option Bool := if ((a0.length : Int) != (a1.length : Int)) = true then (some false) else (l16_files.l0 a0 a1 k 0)

def l16_VersionAsks.l0 (a0 : (List (List File))) (r3 : (List (List File))) (r7 : (List File)) (r11 : (List Place)) (r15 : (List Place)) : Nat → Int → Option Bool
  | 0, _ => none
  | k_22 + 1, i_18 => if (decide (i_18 < (r11.length : Int))) = true then ((idx r11 i_18).bind fun x103 => (idx r15 i_18).bind fun x104 => if (!Place.eqb x103 x104) = true then (some false) else (l16_VersionAsks.l0 a0 r3 r7 r11 r15 k_22 (w64 (i_18 + 1)))) else ((l16_wiped k_22 r7).bind fun r107 => (r16_Same k_22 r3 a0).bind fun r110 => some r110)

def l16_VersionAsks (k : Nat) (a0 : (List (List File))) (a1 : L16_Ask) : Option Bool := (l16_copied k a0).bind fun r3 => (version_Over k r3 a1.Level a1.Least a1.Limit).bind fun r7 => (version_Asks k r3 a1.Key).bind fun r11 => (r16_Asks k a0 a1.Key).bind fun r15 => (l16_one k).bind fun r36 => Jn (fun (b_4 : Bool) => if (b_4 || ((r11.length : Int) != (r15.length : Int))) = true then (some false) else (l16_VersionAsks.l0 a0 r3 r7 r11 r15 k 0)) (fun J_5 => if (!r36) = true then (J_5 true) else ((r16_Over k a0 a1.Level a1.Least a1.Limit).bind fun r112 => (l16_files k r7 r112).bind fun r116 => J_5 (!r116)))

def l16_VersionCuts.l3 (r14 : (List File)) (r19 : (List File)) (i_1484 : Int) (J_2073 : Bool → Option Bool) : Nat → Bool → Int → Option Bool
  | 0, _, _ => none
  | k_2218 + 1, b_2206, i_2207 => if (decide (i_2207 < (r19.length : Int))) = true then (Jn (fun (b_2222 : Bool) => l16_VersionCuts.l3 r14 r19 i_1484 J_2073 k_2218 b_2222 (w64 (i_2207 + 1))) (fun J_2223 => if b_2206 = true then (J_2223 true) else ((idx r19 i_2207).bind fun x3195 => (idx r14 i_1484).bind fun x3196 => J_2223 (File.eqb x3195 x3196)))) else (J_2073 b_2206)

def l16_VersionCuts.l2 (r14 : (List File)) (r24 : (List File)) (i_1484 : Int) (J_2105 : Bool → Option Bool) : Nat → Bool → Int → Option Bool
  | 0, _, _ => none
  | k_2189 + 1, b_2177, i_2178 => if (decide (i_2178 < (r24.length : Int))) = true then (Jn (fun (b_2193 : Bool) => l16_VersionCuts.l2 r14 r24 i_1484 J_2105 k_2189 b_2193 (w64 (i_2178 + 1))) (fun J_2194 => if b_2177 = true then (J_2194 true) else ((idx r24 i_2178).bind fun x3153 => (idx r14 i_1484).bind fun x3154 => J_2194 (File.eqb x3153 x3154)))) else (J_2105 b_2177)

def l16_VersionCuts.l1 (r14 : (List File)) (i_1484 : Int) (r3023 : (List File)) (J_2137 : Bool → Option Bool) : Nat → Bool → Int → Option Bool
  | 0, _, _ => none
  | k_2160 + 1, b_2148, i_2149 => if (decide (i_2149 < (r3023.length : Int))) = true then (Jn (fun (b_2164 : Bool) => l16_VersionCuts.l1 r14 i_1484 r3023 J_2137 k_2160 b_2164 (w64 (i_2149 + 1))) (fun J_2165 => if b_2148 = true then (J_2165 true) else ((idx r3023 i_2149).bind fun x3111 => (idx r14 i_1484).bind fun x3112 => J_2165 (File.eqb x3111 x3112)))) else (J_2137 b_2148)

def l16_VersionCuts.l0 (a0 : (List (List File))) (a1 : L16_Ask) (r14 : (List File)) (r19 : (List File)) (r24 : (List File)) : Nat → Int → Option Bool
  | 0, _ => none
  | k_1856 + 1, i_1484 => if (decide (i_1484 < (r14.length : Int))) = true then (Jn (l16_VersionCuts.l0 a0 a1 r14 r19 r24 k_1856 (w64 (i_1484 + 1))) (fun J_2041 => Jn (fun (b_2071 : Bool) => Jn (fun (b_2103 : Bool) => if (!b_2103) = true then (some false) else ((idx r14 i_1484).bind fun x3020 => (idx r14 i_1484).bind fun x3021 => (version_Over k_1856 a0 a1.Level x3020.Least x3021.Limit).bind fun r3023 => Jn (fun (b_2135 : Bool) => if (!b_2135) = true then (some false) else (J_2041)) (fun J_2137 => l16_VersionCuts.l1 r14 i_1484 r3023 J_2137 k_1856 false 0))) (fun J_2105 => l16_VersionCuts.l2 r14 r24 i_1484 J_2105 k_1856 b_2071 0)) (fun J_2073 => l16_VersionCuts.l3 r14 r19 i_1484 J_2073 k_1856 false 0))) else (some (((decide ((r19.length : Int) ≤ (r14.length : Int))) && (decide ((r24.length : Int) ≤ (r14.length : Int)))) && (decide ((r14.length : Int) ≤ (w64 ((r19.length : Int) + (r24.length : Int)))))))

def l16_VersionCuts (k : Nat) (a0 : (List (List File))) (a1 : L16_Ask) : Option Bool := (l16_one k).bind fun r6 => if (!r6) = true then (some false) else (if ((sLt a1.Key a1.Least || sEq a1.Key a1.Least) || ((!sEq a1.Limit (ByteArray.mk #[])) && (!sLt a1.Key a1.Limit))) = true then (some true) else ((version_Over k a0 a1.Level a1.Least a1.Limit).bind fun r14 => (version_Over k a0 a1.Level a1.Least a1.Key).bind fun r19 => (version_Over k a0 a1.Level a1.Key a1.Limit).bind fun r24 => l16_VersionCuts.l0 a0 a1 r14 r19 r24 k 0))

def version_Find.l1 (a1 : Int) (J_72 : Int → Int → Int → ByteArray → ByteArray → Int → Int → Bool → Option (Int × File × Bool)) (i_94 : Int) (J_126 : Option (Int × File × Bool)) (x675 : (List File)) : Nat → Int → Option (Int × File × Bool)
  | 0, _ => none
  | k_134 + 1, i_130 => if (decide (i_130 < (x675.length : Int))) = true then ((idx x675 i_130).bind fun x726 => if (x726.Number == a1) = true then (J_72 i_94 x726.Number x726.Size x726.Least x726.Limit x726.Low x726.High true) else (version_Find.l1 a1 J_72 i_94 J_126 x675 k_134 (w64 (i_130 + 1)))) else (J_126)

def version_Find.l0 (a0 : (List (List File))) (a1 : Int) (J_72 : Int → Int → Int → ByteArray → ByteArray → Int → Int → Bool → Option (Int × File × Bool)) : Nat → Int → Option (Int × File × Bool)
  | 0, _ => none
  | k_116 + 1, i_94 => if (decide (i_94 < (a0.length : Int))) = true then (Jn (version_Find.l0 a0 a1 J_72 k_116 (w64 (i_94 + 1))) (fun J_126 => (idx a0 i_94).bind fun x675 => version_Find.l1 a1 J_72 i_94 J_126 x675 k_116 0)) else (J_72 0 0 0 (ByteArray.mk #[]) (ByteArray.mk #[]) 0 0 false)

def version_Find (k : Nat) (a0 : (List (List File))) (a1 : Int) : Option (Int × File × Bool) := (version_Valid k a0).bind fun r7 => if (!r7) = true then (some (0, (⟨0, 0, (ByteArray.mk #[]), (ByteArray.mk #[]), 0, 0⟩ : File), false)) else (Jn (fun (i_63 : Int) (i_64 : Int) (i_65 : Int) (s_66 : ByteArray) (s_67 : ByteArray) (i_68 : Int) (i_69 : Int) (b_70 : Bool) => some (i_63, (⟨i_64, i_65, s_66, s_67, i_68, i_69⟩ : File), b_70)) (fun J_72 => version_Find.l0 a0 a1 J_72 k 0))

def l16_VersionBears.l2 (a0 : (List (List File))) (a1 : ByteArray) (r7 : (List Place)) (J_1262 : Option Bool) : Nat → Int → Option Bool
  | 0, _ => none
  | k_1774 + 1, i_1518 => if (decide (i_1518 < (r7.length : Int))) = true then ((idx r7 i_1518).bind fun x2718 => (version_Find k_1774 a0 x2718.Number).bind fun r2719 => Jn (fun (b_1904 : Bool) => if ((b_1904 || (sLt a1 r2719.2.1.Least)) || (!sLt a1 r2719.2.1.Limit)) = true then (some false) else (Jn (fun (b_1946 : Bool) => if b_1946 = true then (some false) else (l16_VersionBears.l2 a0 a1 r7 J_1262 k_1774 (w64 (i_1518 + 1)))) (fun J_1947 => if (decide (0 < i_1518)) = true then ((idx r7 (w64 (i_1518 - 1))).bind fun x2764 => Jn (fun (b_2000 : Bool) => J_1947 b_2000) (fun J_2001 => if (decide (r2719.1 < x2764.Level)) = true then (J_2001 true) else ((idx r7 (w64 (i_1518 - 1))).bind fun x2778 => Jn (fun (b_2018 : Bool) => J_2001 b_2018) (fun J_2019 => if (x2778.Level == r2719.1) = true then (Jn (fun (b_2024 : Bool) => J_2019 b_2024) (fun J_2025 => if (decide (0 < r2719.1)) = true then (J_2025 true) else ((idx r7 (w64 (i_1518 - 1))).bind fun x2788 => (idx r7 i_1518).bind fun x2789 => J_2025 (decide (x2788.Number ≤ x2789.Number))))) else (J_2019 false))))) else (J_1947 false)))) (fun J_1905 => if (!r2719.2.2) = true then (J_1905 true) else ((idx r7 i_1518).bind fun x2790 => J_1905 (r2719.1 != x2790.Level)))) else (J_1262)

def l16_VersionBears.l1 (a0 : (List (List File))) (a1 : ByteArray) (i_333 : Int) (J_458 : Int → Option Bool) : Nat → Int → Int → Option Bool
  | 0, _, _ => none
  | k_487 + 1, i_472, i_473 => (idx a0 i_333).bind fun x1855 => if (decide (i_473 < (x1855.length : Int))) = true then (Jn (fun (i_491 : Int) => l16_VersionBears.l1 a0 a1 i_333 J_458 k_487 i_491 (w64 (i_473 + 1))) (fun J_493 => (idx a0 i_333).bind fun x1881 => (idx x1881 i_473).bind fun x1886 => Jn (fun (b_494 : Bool) => if b_494 = true then (J_493 (w64 (i_472 + 1))) else (J_493 i_472)) (fun J_495 => if (sLt x1886.Least a1 || sEq x1886.Least a1) = true then ((idx a0 i_333).bind fun x1895 => (idx x1895 i_473).bind fun x1900 => J_495 (sLt a1 x1900.Limit)) else (J_495 false)))) else (J_458 i_472)

def l16_VersionBears.l0 (a0 : (List (List File))) (a1 : ByteArray) (r7 : (List Place)) : Nat → Int → Int → Option Bool
  | 0, _, _ => none
  | k_417 + 1, i_332, i_333 => if (decide (i_333 < (a0.length : Int))) = true then (Jn (fun (i_456 : Int) => l16_VersionBears.l0 a0 a1 r7 k_417 i_456 (w64 (i_333 + 1))) (fun J_458 => l16_VersionBears.l1 a0 a1 i_333 J_458 k_417 i_332 0)) else (if ((r7.length : Int) != i_332) = true then (some false) else (Jn (some true) (fun J_1262 => l16_VersionBears.l2 a0 a1 r7 J_1262 k_417 0)))

def l16_VersionBears (k : Nat) (a0 : (List (List File))) (a1 : ByteArray) : Option Bool := (l16_one k).bind fun r4 => if (!r4) = true then (some false) else ((version_Asks k a0 a1).bind fun r7 => (version_Valid k a0).bind fun r14 => if (!r14) = true then (some ((r7.length : Int) == 0)) else (l16_VersionBears.l0 a0 a1 r7 k 0 0))

def r16_Find.l1 (a1 : Int) (i_84 : Int) (J_116 : Option (Int × File × Bool)) (r521 : (List File)) : Nat → Int → Option (Int × File × Bool)
  | 0, _ => none
  | k_124 + 1, i_120 => if (decide (i_120 < (r521.length : Int))) = true then ((idx r521 i_120).bind fun x561 => if (x561.Number == a1) = true then ((idx r521 i_120).bind fun x563 => some (i_84, x563, true)) else (r16_Find.l1 a1 i_84 J_116 r521 k_124 (w64 (i_120 + 1)))) else (J_116)

def r16_Find.l0 (a0 : (List (List File))) (a1 : Int) : Nat → Int → Option (Int × File × Bool)
  | 0, _ => none
  | k_106 + 1, i_84 => if (decide (i_84 < (a0.length : Int))) = true then (Jn (r16_Find.l0 a0 a1 k_106 (w64 (i_84 + 1))) (fun J_116 => (r16_level k_106 a0 i_84).bind fun r521 => r16_Find.l1 a1 i_84 J_116 r521 k_106 0)) else (some (0, (⟨0, 0, (ByteArray.mk #[]), (ByteArray.mk #[]), 0, 0⟩ : File), false))

def r16_Find (k : Nat) (a0 : (List (List File))) (a1 : Int) : Option (Int × File × Bool) := r16_Find.l0 a0 a1 k 0

def r16_Numbers (k : Nat) (a0 : (List (List File))) : Option (List Int) := (r16_Valid k a0).bind fun r4 => if (!r4) = true then (some ([])) else ((r16_numbers k a0).bind fun r8 => some r8)

def version_Below.l0 (a0 : (List (List File))) (a1 : Int) : Nat → (List File) → Int → Option (List File)
  | 0, _, _ => none
  | k_56 + 1, l_44, i_45 => if (decide (i_45 < (a0.length : Int))) = true then (Jn (fun (l_58 : (List File)) => version_Below.l0 a0 a1 k_56 l_58 (w64 (i_45 + 1))) (fun J_60 => (idx a0 i_45).bind fun x126 => if (decide (a1 < i_45)) = true then ((pushN 3518437208730 l_44 x126).bind fun l132 => J_60 l132) else (J_60 l_44))) else (some l_44)

def version_Below (k : Nat) (a0 : (List (List File))) (a1 : Int) : Option (List File) := (version_Valid k a0).bind fun r4 => if (!r4) = true then (some ([])) else (version_Below.l0 a0 a1 k ([]) 0)

def version_Size.l0 (r35 : (List File)) : Nat → Int → Int → Option Int
  | 0, _, _ => none
  | k_22 + 1, i_16, i_17 => if (decide (i_17 < (r35.length : Int))) = true then ((idx r35 i_17).bind fun x65 => version_Size.l0 r35 k_22 (w64 (i_16 + x65.Size)) (w64 (i_17 + 1))) else (some i_16)

def version_Size (k : Nat) (a0 : (List (List File))) (a1 : Int) : Option Int := (version_of k a0 a1).bind fun r35 => version_Size.l0 r35 k 0 0

def r16_Size.l0 (r1 : (List File)) : Nat → Int → Int → Option Int
  | 0, _, _ => none
  | k_22 + 1, i_16, i_17 => if (decide (i_17 < (r1.length : Int))) = true then ((idx r1 i_17).bind fun x28 => r16_Size.l0 r1 k_22 (w64 (i_16 + x28.Size)) (w64 (i_17 + 1))) else (some i_16)

def r16_Size (k : Nat) (a0 : (List (List File))) (a1 : Int) : Option Int := (r16_level k a0 a1).bind fun r1 => r16_Size.l0 r1 k 0 0

def l16_ints.l0 (a0 : (List Int)) (a1 : (List Int)) : Nat → Int → Option Bool
  | 0, _ => none
  | k_16 + 1, i_12 => if (decide (i_12 < (a0.length : Int))) = true then ((idx a0 i_12).bind fun x59 => (idx a1 i_12).bind fun x60 => if (x59 != x60) = true then (some false) else (l16_ints.l0 a0 a1 k_16 (w64 (i_12 + 1)))) else (some true)

def l16_ints (k : Nat) (a0 : (List Int)) (a1 : (List Int)) : Option Bool := if ((a0.length : Int) != (a1.length : Int)) = true then (some false) else (l16_ints.l0 a0 a1 k 0)

def r16_Below.l0 (a0 : (List (List File))) (a1 : Int) : Nat → (List File) → Int → Option (List File)
  | 0, _, _ => none
  | k_56 + 1, l_44, i_45 => if (decide (i_45 < (a0.length : Int))) = true then (Jn (fun (l_58 : (List File)) => r16_Below.l0 a0 a1 k_56 l_58 (w64 (i_45 + 1))) (fun J_60 => if (decide (a1 < i_45)) = true then ((r16_level k_56 a0 i_45).bind fun r109 => (pushN 3518437208730 l_44 r109).bind fun l113 => J_60 l113) else (J_60 l_44))) else (some l_44)

def r16_Below (k : Nat) (a0 : (List (List File))) (a1 : Int) : Option (List File) := r16_Below.l0 a0 a1 k ([]) 0

def l16_VersionTells.l0 (a0 : (List (List File))) (r1 : (List (List File))) : Nat → (List Int) → Int → Option Bool
  | 0, _, _ => none
  | k_52 + 1, l_46, i_47 => if (decide (i_47 < (l_46.length : Int))) = true then ((idx l_46 i_47).bind fun x145 => (upd l_46 i_47 (-7)).bind fun l146 => l16_VersionTells.l0 a0 r1 k_52 l146 (w64 (i_47 + 1))) else ((r16_Same k_52 r1 a0).bind fun r148 => some r148)

def l16_VersionTells (k : Nat) (a0 : (List (List File))) (a1 : Int) (a2 : Int) : Option Bool := (l16_copied k a0).bind fun r1 => (version_Find k r1 a2).bind fun r5 => (r16_Find k a0 a2).bind fun r10 => (r16_Numbers k a0).bind fun r15 => (version_Numbers k r1).bind fun r19 => (version_Below k r1 a1).bind fun r23 => (l16_names).bind fun r70 => Jn (fun (b_16 : Bool) => Jn (fun (b_19 : Bool) => Jn (fun (b_22 : Bool) => Jn (fun (b_25 : Bool) => Jn (fun (b_28 : Bool) => if b_28 = true then (some false) else ((l16_wiped k r23).bind fun r97 => l16_VersionTells.l0 a0 r1 k r19 0)) (fun J_29 => if (((b_25 || (r5.1 != r10.1)) || (!File.eqb r5.2.1 r10.2.1)) || (!(r5.2.2 == r10.2.2))) = true then (J_29 true) else ((r16_Below k a0 a1).bind fun r150 => (l16_files k r23 r150).bind fun r154 => J_29 (!r154)))) (fun J_26 => if b_22 = true then (J_26 true) else ((l16_ints k r19 r15).bind fun r156 => J_26 (!r156)))) (fun J_23 => if b_19 = true then (J_23 true) else ((version_Files k r1).bind fun r158 => J_23 (r158 != (r15.length : Int))))) (fun J_20 => if b_16 = true then (J_20 true) else ((version_Size k r1 a1).bind fun r160 => (r16_Size k a0 a1).bind fun r162 => J_20 (r160 != r162)))) (fun J_17 => if (!r70) = true then (J_17 true) else ((l16_one k).bind fun r164 => J_17 (!r164)))

def version_Span.l0 (a0 : (List File)) : Nat → ByteArray → ByteArray → Int → Option (ByteArray × ByteArray × Bool)
  | 0, _, _, _ => none
  | k_78 + 1, s_60, s_61, i_62 => if (decide (i_62 < (a0.length : Int))) = true then (Jn (fun (s_82 : ByteArray) (s_83 : ByteArray) => version_Span.l0 a0 k_78 s_82 s_83 (w64 (i_62 + 1))) (fun J_85 => (idx a0 i_62).bind fun x123 => Jn (fun (s_86 : ByteArray) => if ((i_62 == 0) || (!(sLt x123.Limit s_61 || sEq x123.Limit s_61))) = true then (J_85 s_86 x123.Limit) else (J_85 s_86 s_61)) (fun J_88 => if ((i_62 == 0) || (sLt x123.Least s_60)) = true then (J_88 x123.Least) else (J_88 s_60)))) else (some (s_60, s_61, decide (0 < (a0.length : Int))))

def version_Span (k : Nat) (a0 : (List File)) : Option (ByteArray × ByteArray × Bool) := version_Span.l0 a0 k (ByteArray.mk #[]) (ByteArray.mk #[]) 0

def r16_Span.l0 (a0 : (List File)) : Nat → ByteArray → ByteArray → Int → Option (ByteArray × ByteArray × Bool)
  | 0, _, _, _ => none
  | k_28 + 1, s_20, s_21, i_22 => if (decide (i_22 < (a0.length : Int))) = true then ((idx a0 i_22).bind fun x40 => (idx a0 i_22).bind fun x41 => r16_Span.l0 a0 k_28 (minS s_20 x40.Least) (maxS s_21 x41.Limit) (w64 (i_22 + 1))) else (some (s_20, s_21, true))

def r16_Span (k : Nat) (a0 : (List File)) : Option (ByteArray × ByteArray × Bool) := if ((a0.length : Int) == 0) = true then (some ((ByteArray.mk #[]), (ByteArray.mk #[]), false)) else ((idx a0 0).bind fun x3 => (idx a0 0).bind fun x4 => r16_Span.l0 a0 k x3.Least x4.Limit 1)

def slices_Equal_File.l0 (a0 : (List File)) (a1 : (List File)) : Nat → Int → Option Bool
  | 0, _ => none
  | k_16 + 1, i_12 => if (decide (i_12 < (a0.length : Int))) = true then ((idx a0 i_12).bind fun x59 => (idx a1 i_12).bind fun x60 => if (!File.eqb x59 x60) = true then (some false) else (slices_Equal_File.l0 a0 a1 k_16 (w64 (i_12 + 1)))) else (some true)

def slices_Equal_File (k : Nat) (a0 : (List File)) (a1 : (List File)) : Option Bool := if ((a0.length : Int) != (a1.length : Int)) = true then (some false) else (slices_Equal_File.l0 a0 a1 k 0)

def version_Same_1 (k : Nat) (a0 : (List File)) (a1 : (List File)) : Option Bool := (slices_Equal_File k a0 a1).bind fun r1 => some r1

def version_Same.l0 (a0 : (List (List File))) (a1 : (List (List File))) (J_19 : Bool → Option Bool) : Nat → Int → Option Bool
  | 0, _ => none
  | k_35 + 1, i_31 => if (decide (i_31 < (a0.length : Int))) = true then ((idx a0 i_31).bind fun x328 => (idx a1 i_31).bind fun x333 => (version_Same_1 k_35 x328 x333).bind fun r338 => if (!r338) = true then (J_19 false) else (version_Same.l0 a0 a1 J_19 k_35 (w64 (i_31 + 1)))) else (J_19 true)

def version_Same (k : Nat) (a0 : (List (List File))) (a1 : (List (List File))) : Option Bool := Jn (fun (b_17 : Bool) => some b_17) (fun J_19 => if ((a0.length : Int) != (a1.length : Int)) = true then (J_19 false) else (version_Same.l0 a0 a1 J_19 k 0))

def l16_VersionSpans (k : Nat) (a0 : (List File)) (a1 : (List (List File))) (a2 : (List (List File))) : Option Bool := (pushN 3518437208730 ([]) a0).bind fun l4 => (version_Span k l4).bind fun r7 => (r16_Span k a0).bind fun r9 => (l16_one k).bind fun r11 => Jn (fun (b_1 : Bool) => Jn (fun (b_4 : Bool) => Jn (fun (b_7 : Bool) => some b_7) (fun J_8 => if b_4 = true then ((l16_copied k a1).bind fun r35 => (version_Same k a1 r35).bind fun r39 => J_8 r39) else (J_8 false))) (fun J_5 => if b_1 = true then ((l16_copied k a1).bind fun r41 => (version_Same k r41 a2).bind fun r45 => (r16_Same k a1 a2).bind fun r47 => J_5 (r45 == r47)) else (J_5 false))) (fun J_2 => if (((r11 && (sEq r7.1 r9.1)) && (sEq r7.2.1 r9.2.1)) && (r7.2.2 == r9.2.2)) = true then ((l16_files k l4 a0).bind fun r49 => J_2 r49) else (J_2 false))

def l16_VersionBack.l1 (a0 : (List (List File))) (a1 : Edit) (J_104 : (List Added) → Option Bool) : Nat → (List Added) → Int → Option Bool
  | 0, _, _ => none
  | k_148 + 1, l_128, i_129 => if (decide (i_129 < (a1.Gone.length : Int))) = true then ((idx a1.Gone i_129).bind fun x456 => (version_Find k_148 a0 x456.Number).bind fun r457 => Jn (fun (b_158 : Bool) => if b_158 = true then (some false) else ((push 3127499741075 l_128 (⟨r457.1, r457.2.1⟩ : Added)).bind fun l471 => l16_VersionBack.l1 a0 a1 J_104 k_148 l471 (w64 (i_129 + 1)))) (fun J_159 => if (!r457.2.2) = true then (J_159 true) else ((idx a1.Gone i_129).bind fun x475 => J_159 (r457.1 != x475.Level)))) else (J_104 l_128)

def l16_VersionBack.l0 (a0 : (List (List File))) (a1 : Edit) (r9 : ((List (List File)) × Int)) : Nat → (List Place) → Int → Option Bool
  | 0, _, _ => none
  | k_46 + 1, l_38, i_39 => if (decide (i_39 < (a1.Come.length : Int))) = true then ((idx a1.Come i_39).bind fun x198 => (idx a1.Come i_39).bind fun x199 => (push 14073748835379 l_38 (⟨x198.Level, x199.File.Number⟩ : Place)).bind fun l204 => l16_VersionBack.l0 a0 a1 r9 k_46 l204 (w64 (i_39 + 1))) else (Jn (fun (l_102 : (List Added)) => (version_Apply k_46 r9.1 (⟨0, 0, 0, l_38, l_102⟩ : Edit)).bind fun r339 => Jn (fun (b_105 : Bool) => some b_105) (fun J_106 => if (r339.2 == 0) = true then ((version_Same k_46 r339.1 a0).bind fun r346 => J_106 r346) else (J_106 false))) (fun J_104 => l16_VersionBack.l1 a0 a1 J_104 k_46 ([]) 0))

def l16_VersionBack (k : Nat) (a0 : (List (List File))) (a1 : Edit) : Option Bool := (l16_one k).bind fun r6 => if (!r6) = true then (some false) else ((version_Apply k a0 a1).bind fun r9 => if (r9.2 != 0) = true then (Jn (fun (b_4 : Bool) => some b_4) (fun J_5 => if ((r9.1.length : Int) == 0) = true then ((version_Valid k a0).bind fun r23 => J_5 ((r9.2 == 160) == r23)) else (J_5 false))) else ((version_Valid k r9.1).bind fun r38 => Jn (fun (b_10 : Bool) => if b_10 = true then (some false) else (l16_VersionBack.l0 a0 a1 r9 k ([]) 0)) (fun J_11 => if (!r38) = true then (J_11 true) else ((version_Files k r9.1).bind fun r478 => (version_Files k a0).bind fun r480 => J_11 (r478 != (w64 ((w64 (r480 - (a1.Gone.length : Int))) + (a1.Come.length : Int))))))))
end Go.Proofs.Ytbbepmmelpabbaa.Mo
