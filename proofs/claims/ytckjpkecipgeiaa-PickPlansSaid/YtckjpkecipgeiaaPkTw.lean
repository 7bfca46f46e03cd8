/- Printed by gen.py: structures, and the plain twins of Go functions. -/
import Derived.Test.YtckjpkecipgeiaaSyMap
set_option linter.unusedVariables false
set_option linter.unusedSimpArgs false
set_option maxRecDepth 100000
namespace Go.Proofs.Ytckjpkecipgeiaa.Mo
open Go Go.Proofs.Ytckjpkecipgeiaa.Sy
structure File where
  Number : Int
  Size : Int
  Least : ByteArray
  Limit : ByteArray
  Low : Int
  High : Int

def File.enc (x : File) : List _root_.Go.Value := [.int .i64 x.Number, .int .i64 x.Size, .string x.Least, .string x.Limit, .int .u64 x.Low, .int .u64 x.High]

def File.eqb (x y : File) : Bool := (x.Number == y.Number) && ((x.Size == y.Size) && (sEq x.Least y.Least && (sEq x.Limit y.Limit && ((x.Low == y.Low) && ((x.High == y.High) && (true))))))

structure Shape where
  Page : Int
  Restart : Int
  Bits : Int

def Shape.enc (x : Shape) : List _root_.Go.Value := [.int .i64 x.Page, .int .i64 x.Restart, .int .i64 x.Bits]

def Shape.eqb (x y : Shape) : Bool := (x.Page == y.Page) && ((x.Restart == y.Restart) && ((x.Bits == y.Bits) && (true)))

structure Config where
  Block : Int
  Mem : Int
  Frozen : Int
  Shape : Shape
  Cut : Int
  Files0 : Int
  Stop0 : Int
  Base : Int
  Ratio : Int
  Levels : Int
  Chunk : Int
  Roll : Int
  Clients : Int
  Heights : (List Int)

structure pick_Plan where
  Level : Int
  Upper : (List File)
  Lower : (List File)
  Trivial : Bool

structure R22_Plan where
  Level : Int
  Upper : (List File)
  Lower : (List File)
  Trivial : Bool

def l22_copied.l0 (a0 : (List (List File))) : Nat → (List (List File)) → Int → Option (List (List File))
  | 0, _, _ => none
  | k_28 + 1, l_21, i_22 => if (decide (i_22 < (a0.length : Int))) = true then ((idx a0 i_22).bind fun x195 => (pushN 3518437208730 ([]) x195).bind fun l200 => (push 9382499223535 l_21 l200).bind fun l205 => l22_copied.l0 a0 k_28 l205 (w64 (i_22 + 1))) else (some l_21)

def l22_copied (k : Nat) (a0 : (List (List File))) : Option (List (List File)) := l22_copied.l0 a0 k ([]) 0

def version_may (a0 : File) : Option Bool := some (((((((((((decide (1 ≤ a0.Number)) && (decide (a0.Number ≤ 2147483647))) && (decide (1 ≤ a0.Size))) && (decide (a0.Size ≤ 268435456))) && (decide (1 ≤ (a0.Least.size : Int)))) && (decide ((a0.Least.size : Int) ≤ 1024))) && (sLt a0.Least a0.Limit)) && (decide ((a0.Limit.size : Int) ≤ 1025))) && (decide (1 ≤ a0.Low))) && (decide (a0.Low ≤ a0.High))) && (decide (a0.High ≤ 72057594037927935)))

def version_Valid.l1 (i_189 : Int) (J_260 : (List (Int × Int)) → Option Bool) (x2384 : (List File)) : Nat → (List (Int × Int)) → Int → Option Bool
  | 0, _, _ => none
  | k_277 + 1, l_268, i_269 => if (decide (i_269 < (x2384.length : Int))) = true then (Jn (fun (l_278 : (List (Int × Int))) => version_Valid.l1 i_189 J_260 x2384 k_277 l_278 (w64 (i_269 + 1))) (fun J_280 => (idx x2384 i_269).bind fun x2565 => if wfi .i64 x2565.Number = true then ((mput .i64 l_268 x2565.Number (w64 ((mget l_268 x2565.Number) + 1))).bind fun l2570 => (version_may x2565).bind fun r2576 => if ((!r2576) || (decide (1 < (mget l2570 x2565.Number)))) = true then (some false) else (if (i_269 == 0) = true then (J_280 l2570) else (if (i_189 == 0) = true then ((idx x2384 (w64 (i_269 - 1))).bind fun x2593 => if (decide (x2565.Number ≤ x2593.Number)) = true then (some false) else (J_280 l2570)) else ((idx x2384 (w64 (i_269 - 1))).bind fun x2596 => if (!(sLt x2596.Limit x2565.Least || sEq x2596.Limit x2565.Least)) = true then (some false) else (J_280 l2570))))) else none)) else (J_260 l_268)

def version_Valid.l0 (a0 : (List (List File))) : Nat → (List (Int × Int)) → Int → Option Bool
  | 0, _, _ => none
  | k_237 + 1, l_188, i_189 => if (decide (i_189 < (a0.length : Int))) = true then (Jn (fun (l_258 : (List (Int × Int))) => version_Valid.l0 a0 k_237 l_258 (w64 (i_189 + 1))) (fun J_260 => (idx a0 i_189).bind fun x2384 => version_Valid.l1 i_189 J_260 x2384 k_237 l_188 0)) else (some true)

def version_Valid (k : Nat) (a0 : (List (List File))) : Option Bool := if ((decide ((a0.length : Int) < 1)) || (decide (7 < (a0.length : Int)))) = true then (some false) else (version_Valid.l0 a0 k ([]) 0)

def pick_rates (a0 : Config) : Option Bool := some ((((decide (1 ≤ a0.Base)) && (decide (a0.Base ≤ 268435456))) && (decide (2 ≤ a0.Ratio))) && (decide (a0.Ratio ≤ 100)))

def pick_may (k : Nat) (a0 : (List (List File))) (a1 : Config) : Option Bool := (version_Valid k a0).bind fun r3 => Jn (fun (b_1 : Bool) => some b_1) (fun J_2 => if ((((r3 && (a1.Levels == (a0.length : Int))) && (decide (2 ≤ a1.Levels))) && (decide (1 ≤ a1.Files0))) && (decide (1 ≤ a1.Cut))) = true then ((pick_rates a1).bind fun r12 => J_2 r12) else (J_2 false))

def version_of (k : Nat) (a0 : (List (List File))) (a1 : Int) : Option (List File) := (version_Valid k a0).bind fun r6 => if (((!r6) || (decide (a1 < 0))) || (decide ((a0.length : Int) ≤ a1))) = true then (some ([])) else ((idx a0 a1).bind fun x11 => some x11)

def version_Size.l0 (r35 : (List File)) : Nat → Int → Int → Option Int
  | 0, _, _ => none
  | k_22 + 1, i_16, i_17 => if (decide (i_17 < (r35.length : Int))) = true then ((idx r35 i_17).bind fun x65 => version_Size.l0 r35 k_22 (w64 (i_16 + x65.Size)) (w64 (i_17 + 1))) else (some i_16)

def version_Size (k : Nat) (a0 : (List (List File))) (a1 : Int) : Option Int := (version_of k a0 a1).bind fun r35 => version_Size.l0 r35 k 0 0

def pick_Bears.l0 (a0 : Config) : Nat → Int → Int → Int → Option Int
  | 0, _, _, _ => none
  | k_30 + 1, i_22, i_23, i_24 => if (decide (i_24 < i_23)) = true then (pick_Bears.l0 a0 k_30 (minI (w64 (i_22 * a0.Ratio)) 1099511627776) i_23 (w64 (i_24 + 1))) else (some i_22)

def pick_Bears (k : Nat) (a0 : Config) (a1 : Int) : Option Int := (pick_rates a0).bind fun r8 => if (((!r8) || (decide (a1 < 1))) || (decide (6 < a1))) = true then (some 0) else (pick_Bears.l0 a0 k a0.Base (w64 (a1 - 1)) 0)

def pick_Score (k : Nat) (a0 : (List (List File))) (a1 : Config) (a2 : Int) : Option Int := (pick_may k a0 a1).bind fun r16 => if (((!r16) || (decide (a2 < 0))) || (decide ((w64 ((a0.length : Int) - 1)) ≤ a2))) = true then (some 0) else (if (a2 == 0) = true then ((idx a0 0).bind fun x22 => if (minI a1.Files0 268435456) = 0 then none else (some (w64 (Int.tdiv (w64 (1000 * (x22.length : Int))) (minI a1.Files0 268435456))))) else ((version_Size k a0 a2).bind fun r29 => (pick_Bears k a1 a2).bind fun r31 => if r31 = 0 then none else (some (w64 (Int.tdiv (w64 (1000 * r29)) r31)))))

def pick_best_int.l0 (a0 : (List Int)) : Nat → Int → Int → Option Int
  | 0, _, _ => none
  | k_49 + 1, i_40, i_41 => if (decide (i_41 < (a0.length : Int))) = true then (Jn (fun (i_50 : Int) => pick_best_int.l0 a0 k_49 i_50 (w64 (i_41 + 1))) (fun J_52 => (idx a0 i_41).bind fun x77 => (idx a0 i_40).bind fun x78 => if (decide (x78 < x77)) = true then (J_52 i_41) else (J_52 i_40))) else (some i_40)

def pick_best_int (k : Nat) (a0 : (List Int)) : Option Int := pick_best_int.l0 a0 k 0 0

def pick_first_1 (a0 : File) (c0 : ByteArray) : Option Bool := some (!sLt a0.Least c0)

def slices_IndexFunc_File.l0 (a0 : (List File)) (a1 : (File → Option Bool)) : Nat → Int → Option Int
  | 0, _ => none
  | k_16 + 1, i_12 => if (decide (i_12 < (a0.length : Int))) = true then ((idx a0 i_12).bind fun x57 => (a1 x57).bind fun r58 => if r58 = true then (some i_12) else (slices_IndexFunc_File.l0 a0 a1 k_16 (w64 (i_12 + 1)))) else (some (-1))

def slices_IndexFunc_File (k : Nat) (a0 : (List File)) (a1 : (File → Option Bool)) : Option Int := slices_IndexFunc_File.l0 a0 a1 k 0

def pick_first (k : Nat) (a0 : (List File)) (a1 : Int) (a2 : (List ByteArray)) : Option File := Jn (fun (s_1 : ByteArray) => Jn ((idx a0 0).bind fun x15 => some x15) (fun J_5 => if (decide (0 < a1)) = true then ((slices_IndexFunc_File k a0 (fun x0 => pick_first_1 x0 s_1)).bind fun r18 => if (decide (0 ≤ r18)) = true then ((idx a0 r18).bind fun x21 => some x21) else (J_5)) else (J_5))) (fun J_3 => if (decide (a1 < (a2.length : Int))) = true then ((idx a2 a1).bind fun x24 => J_3 x24) else (J_3 (ByteArray.mk #[])))

def version_Span.l0 (a0 : (List File)) : Nat → ByteArray → ByteArray → Int → Option (ByteArray × ByteArray × Bool)
  | 0, _, _, _ => none
  | k_78 + 1, s_60, s_61, i_62 => if (decide (i_62 < (a0.length : Int))) = true then (Jn (fun (s_82 : ByteArray) (s_83 : ByteArray) => version_Span.l0 a0 k_78 s_82 s_83 (w64 (i_62 + 1))) (fun J_85 => (idx a0 i_62).bind fun x123 => Jn (fun (s_86 : ByteArray) => if ((i_62 == 0) || (!(sLt x123.Limit s_61 || sEq x123.Limit s_61))) = true then (J_85 s_86 x123.Limit) else (J_85 s_86 s_61)) (fun J_88 => if ((i_62 == 0) || (sLt x123.Least s_60)) = true then (J_88 x123.Least) else (J_88 s_60)))) else (some (s_60, s_61, decide (0 < (a0.length : Int))))

def version_Span (k : Nat) (a0 : (List File)) : Option (ByteArray × ByteArray × Bool) := version_Span.l0 a0 k (ByteArray.mk #[]) (ByteArray.mk #[]) 0

def version_overlaps (a0 : File) (a1 : ByteArray) (a2 : ByteArray) : Option Bool := some ((!(sLt a0.Limit a1 || sEq a0.Limit a1)) && ((sEq a2 (ByteArray.mk #[])) || ((sLt a0.Least a2) && (!(sLt a2 a1 || sEq a2 a1)))))

def version_Over.l0 (a2 : ByteArray) (a3 : ByteArray) (r87 : (List File)) : Nat → (List File) → Int → Option (List File)
  | 0, _, _ => none
  | k_56 + 1, l_44, i_45 => if (decide (i_45 < (r87.length : Int))) = true then (Jn (fun (l_58 : (List File)) => version_Over.l0 a2 a3 r87 k_56 l_58 (w64 (i_45 + 1))) (fun J_60 => (idx r87 i_45).bind fun x160 => (version_overlaps x160 a2 a3).bind fun r164 => if r164 = true then ((push 3518437208730 l_44 x160).bind fun l169 => J_60 l169) else (J_60 l_44))) else (some l_44)

def version_Over (k : Nat) (a0 : (List (List File))) (a1 : Int) (a2 : ByteArray) (a3 : ByteArray) : Option (List File) := (version_of k a0 a1).bind fun r87 => version_Over.l0 a2 a3 r87 k ([]) 0

def pick_touching.l0 (a0 : (List (List File))) (a1 : Int) : Nat → ByteArray → ByteArray → Option (List File)
  | 0, _, _ => none
  | k_11 + 1, s_5, s_6 => (version_Over k_11 a0 a1 s_5 s_6).bind fun r31 => (version_Span k_11 r31).bind fun r35 => if (((decide (0 < a1)) || (!r35.2.2)) || ((sLt s_5 r35.1 || sEq s_5 r35.1) && (sLt r35.2.1 s_6 || sEq r35.2.1 s_6))) = true then (some r31) else (pick_touching.l0 a0 a1 k_11 (minS s_5 r35.1) (maxS s_6 r35.2.1))

def pick_touching (k : Nat) (a0 : (List (List File))) (a1 : Int) (a2 : (List File)) : Option (List File) := (version_Span k a2).bind fun r1 => pick_touching.l0 a0 a1 k r1.1 r1.2.1

def pick_under (k : Nat) (a0 : (List (List File))) (a1 : Int) (a2 : (List File)) : Option (List File) := (version_Span k a2).bind fun r1 => (version_Over k a0 (w64 (a1 + 1)) r1.1 r1.2.1).bind fun r3 => some r3

def slices_Grow_File_nil (a1 : Int) : Option (List File) := if (decide (a1 < 0)) = true then (none) else (Jn (fun (l_3 : (List File)) => some l_3) (fun J_5 => if (decide (0 < (w64 (a1 - (w64 (0 - 0)))))) = true then ((mkP 4398046511104 (w64 (a1 - (w64 (0 - 0)))) (⟨0, 0, (ByteArray.mk #[]), (ByteArray.mk #[]), 0, 0⟩ : File)).bind fun l10 => (cut l10 0 0).bind fun l14 => J_5 l14) else (J_5 ([]))))

def slices_Concat_File.l1 (a0 : (List (List File))) (J_40 : (List File) → Option (List File)) : Nat → (List File) → Int → Option (List File)
  | 0, _, _ => none
  | k_54 + 1, l_47, i_48 => if (decide (i_48 < (a0.length : Int))) = true then ((idx a0 i_48).bind fun x189 => (pushN 3518437208730 l_47 x189).bind fun l194 => slices_Concat_File.l1 a0 J_40 k_54 l194 (w64 (i_48 + 1))) else (J_40 l_47)

def slices_Concat_File.l0 (a0 : (List (List File))) : Nat → Int → Int → Option (List File)
  | 0, _, _ => none
  | k_22 + 1, i_16, i_17 => if (decide (i_17 < (a0.length : Int))) = true then ((idx a0 i_17).bind fun x79 => if (decide ((w64 (i_16 + (x79.length : Int))) < 0)) = true then (none) else (slices_Concat_File.l0 a0 k_22 (w64 (i_16 + (x79.length : Int))) (w64 (i_17 + 1)))) else ((slices_Grow_File_nil i_16).bind fun r85 => Jn (fun (l_38 : (List File)) => some l_38) (fun J_40 => slices_Concat_File.l1 a0 J_40 k_22 r85 0))

def slices_Concat_File (k : Nat) (a0 : (List (List File))) : Option (List File) := slices_Concat_File.l0 a0 k 0 0

def slices_Equal_File.l0 (a0 : (List File)) (a1 : (List File)) : Nat → Int → Option Bool
  | 0, _ => none
  | k_16 + 1, i_12 => if (decide (i_12 < (a0.length : Int))) = true then ((idx a0 i_12).bind fun x59 => (idx a1 i_12).bind fun x60 => if (!File.eqb x59 x60) = true then (some false) else (slices_Equal_File.l0 a0 a1 k_16 (w64 (i_12 + 1)))) else (some true)

def slices_Equal_File (k : Nat) (a0 : (List File)) (a1 : (List File)) : Option Bool := if ((a0.length : Int) != (a1.length : Int)) = true then (some false) else (slices_Equal_File.l0 a0 a1 k 0)

def pick_size.l0 (a0 : (List File)) : Nat → Int → Int → Option Int
  | 0, _, _ => none
  | k_22 + 1, i_16, i_17 => if (decide (i_17 < (a0.length : Int))) = true then ((idx a0 i_17).bind fun x57 => pick_size.l0 a0 k_22 (w64 (i_16 + x57.Size)) (w64 (i_17 + 1))) else (some i_16)

def pick_size (k : Nat) (a0 : (List File)) : Option Int := pick_size.l0 a0 k 0 0

def pick_Next.l0 (a0 : (List (List File))) (a1 : Config) (a2 : (List ByteArray)) : Nat → (List Int) → Int → Option (pick_Plan × Bool)
  | 0, _, _ => none
  | k_34 + 1, l_26, i_27 => if (decide (i_27 < (a0.length : Int))) = true then ((pick_Score k_34 a0 a1 i_27).bind fun r109 => (push 28147497670912 l_26 r109).bind fun l113 => pick_Next.l0 a0 a1 a2 k_34 l113 (w64 (i_27 + 1))) else ((pick_best_int k_34 l_26).bind fun r116 => (idx l_26 r116).bind fun x121 => if (decide (x121 < 1000)) = true then (some ((⟨0, [], [], false⟩ : pick_Plan), false)) else ((idx a0 r116).bind fun x126 => (pick_first k_34 x126 r116 a2).bind fun r131 => Jn (fun (l_37 : (List File)) => (pick_under k_34 a0 r116 l_37).bind fun r141 => (slices_Concat_File k_34 ([l_37, r141])).bind fun r147 => (pick_touching k_34 a0 r116 r147).bind fun r151 => Jn (fun (l_50 : (List File)) => some ((⟨r116, l_50, r141, (((l_50.length : Int) == 1) && ((r141.length : Int) == 0))⟩ : pick_Plan), true)) (fun J_52 => Jn (fun (b_53 : Bool) (l_57 : (List File)) => Jn (fun (b_58 : Bool) => if b_58 = true then (J_52 r151) else (J_52 l_37)) (fun J_59 => if b_53 = true then ((pick_size k_34 r151).bind fun r195 => (pick_size k_34 r141).bind fun r197 => J_59 (decide ((w64 (r195 + r197)) ≤ (w64 (25 * (minI a1.Cut 268435456)))))) else (J_59 false))) (fun J_54 => if (decide ((l_37.length : Int) < (r151.length : Int))) = true then ((pick_under k_34 a0 r116 r151).bind fun r200 => (slices_Equal_File k_34 r200 r141).bind fun r203 => J_54 r203 r200) else (J_54 false ([]))))) (fun J_39 => if (r116 == 0) = true then ((pick_touching k_34 a0 0 ([r131])).bind fun r206 => J_39 r206) else (J_39 ([r131])))))

def pick_Next (k : Nat) (a0 : (List (List File))) (a1 : Config) (a2 : (List ByteArray)) : Option (pick_Plan × Bool) := (pick_may k a0 a1).bind fun r9 => if (!r9) = true then (some ((⟨0, [], [], false⟩ : pick_Plan), false)) else (pick_Next.l0 a0 a1 a2 k ([]) 0)

def r16_May (a0 : File) : Option Bool := some (((((((((((decide (1 ≤ a0.Number)) && (decide (a0.Number ≤ 2147483647))) && (decide (1 ≤ a0.Size))) && (decide (a0.Size ≤ 268435456))) && (decide (1 ≤ (a0.Least.size : Int)))) && (decide ((a0.Least.size : Int) ≤ 1024))) && (decide ((a0.Limit.size : Int) ≤ 1025))) && (sLt a0.Least a0.Limit)) && (decide (1 ≤ a0.Low))) && (decide (a0.Low ≤ a0.High))) && (decide (a0.High ≤ 72057594037927935)))

def r16_sorted.l1 (J_379 : (List Int) → Option (List Int)) : Nat → (List Int) → Int → Option (List Int)
  | 0, _, _ => none
  | k_402 + 1, l_390, i_391 => Jn (fun (b_406 : Bool) => if b_406 = true then ((idx l_390 i_391).bind fun x977 => (idx l_390 (w64 (i_391 - 1))).bind fun x978 => (idx l_390 (w64 (i_391 - 1))).bind fun x979 => (upd l_390 (w64 (i_391 - 1)) x977).bind fun l981 => (idx l981 i_391).bind fun x983 => (upd l981 i_391 x978).bind fun l985 => r16_sorted.l1 J_379 k_402 l985 (w64 (i_391 - 1))) else (J_379 l_390)) (fun J_407 => if (decide (0 < i_391)) = true then ((idx l_390 (w64 (i_391 - 1))).bind fun x988 => (idx l_390 i_391).bind fun x989 => J_407 (decide (x989 < x988))) else (J_407 false))

def r16_sorted.l0 (a0 : (List Int)) : Nat → (List Int) → Int → Option (List Int)
  | 0, _, _ => none
  | k_346 + 1, l_276, i_277 => if (decide (i_277 < (a0.length : Int))) = true then (Jn (fun (l_377 : (List Int)) => r16_sorted.l0 a0 k_346 l_377 (w64 (i_277 + 1))) (fun J_379 => (idx a0 i_277).bind fun x909 => (push 28147497670912 l_276 x909).bind fun l912 => r16_sorted.l1 J_379 k_346 l912 (l_276.length : Int))) else (some l_276)

def r16_sorted (k : Nat) (a0 : (List Int)) : Option (List Int) := r16_sorted.l0 a0 k ([]) 0

def r16_numbers.l1 (a0 : (List (List File))) (i_169 : Int) (J_226 : (List Int) → Option (List Int)) : Nat → (List Int) → Int → Option (List Int)
  | 0, _, _ => none
  | k_240 + 1, l_233, i_234 => (idx a0 i_169).bind fun x1222 => if (decide (i_234 < (x1222.length : Int))) = true then ((idx a0 i_169).bind fun x1239 => (idx x1239 i_234).bind fun x1244 => (push 28147497670912 l_233 x1244.Number).bind fun l1247 => r16_numbers.l1 a0 i_169 J_226 k_240 l1247 (w64 (i_234 + 1))) else (J_226 l_233)

def r16_numbers.l0 (a0 : (List (List File))) : Nat → (List Int) → Int → Option (List Int)
  | 0, _, _ => none
  | k_208 + 1, l_168, i_169 => if (decide (i_169 < (a0.length : Int))) = true then (Jn (fun (l_224 : (List Int)) => r16_numbers.l0 a0 k_208 l_224 (w64 (i_169 + 1))) (fun J_226 => r16_numbers.l1 a0 i_169 J_226 k_208 l_168 0)) else ((r16_sorted k_208 l_168).bind fun r1250 => some r1250)

def r16_numbers (k : Nat) (a0 : (List (List File))) : Option (List Int) := r16_numbers.l0 a0 k ([]) 0

def r16_Valid.l2 (r7577 : (List Int)) (J_1214 : Option Bool) : Nat → Int → Option Bool
  | 0, _ => none
  | k_1222 + 1, i_1218 => if (decide (i_1218 < (r7577.length : Int))) = true then ((idx r7577 (w64 (i_1218 - 1))).bind fun x7637 => (idx r7577 i_1218).bind fun x7638 => if (x7637 == x7638) = true then (some false) else (r16_Valid.l2 r7577 J_1214 k_1222 (w64 (i_1218 + 1)))) else (J_1214)

def r16_Valid.l1 (a0 : (List (List File))) (i_804 : Int) (J_1106 : Option Bool) : Nat → Int → Option Bool
  | 0, _ => none
  | k_1174 + 1, i_1140 => (idx a0 i_804).bind fun x7373 => if (decide (i_1140 < (x7373.length : Int))) = true then ((idx a0 i_804).bind fun x7487 => (idx x7487 i_1140).bind fun x7492 => (r16_May x7492).bind fun r7493 => if (!r7493) = true then (some false) else (Jn (fun (b_1190 : Bool) => Jn (fun (b_1196 : Bool) => if b_1196 = true then (some false) else (r16_Valid.l1 a0 i_804 J_1106 k_1174 (w64 (i_1140 + 1)))) (fun J_1197 => if b_1190 = true then (J_1197 true) else (Jn (fun (b_1202 : Bool) => J_1197 b_1202) (fun J_1203 => if ((decide (0 < i_1140)) && (decide (0 < i_804))) = true then ((idx a0 i_804).bind fun x7553 => (idx x7553 (w64 (i_1140 - 1))).bind fun x7558 => (idx a0 i_804).bind fun x7559 => (idx x7559 i_1140).bind fun x7564 => J_1203 (!(sLt x7558.Limit x7564.Least || sEq x7558.Limit x7564.Least))) else (J_1203 false))))) (fun J_1191 => if ((decide (0 < i_1140)) && (i_804 == 0)) = true then ((idx a0 i_804).bind fun x7565 => (idx x7565 (w64 (i_1140 - 1))).bind fun x7570 => (idx a0 i_804).bind fun x7571 => (idx x7571 i_1140).bind fun x7576 => J_1191 (decide (x7576.Number ≤ x7570.Number))) else (J_1191 false)))) else (J_1106)

def r16_Valid.l0 (a0 : (List (List File))) : Nat → Int → Option Bool
  | 0, _ => none
  | k_1006 + 1, i_804 => if (decide (i_804 < (a0.length : Int))) = true then (Jn (r16_Valid.l0 a0 k_1006 (w64 (i_804 + 1))) (fun J_1106 => r16_Valid.l1 a0 i_804 J_1106 k_1006 0)) else ((r16_numbers k_1006 a0).bind fun r7577 => Jn (some true) (fun J_1214 => r16_Valid.l2 r7577 J_1214 k_1006 1))

def r16_Valid (k : Nat) (a0 : (List (List File))) : Option Bool := if ((decide ((a0.length : Int) < 1)) || (decide (7 < (a0.length : Int)))) = true then (some false) else (r16_Valid.l0 a0 k 0)

def r22_rates (a0 : Config) : Option Bool := some ((((decide (1 ≤ a0.Base)) && (decide (a0.Base ≤ 268435456))) && (decide (2 ≤ a0.Ratio))) && (decide (a0.Ratio ≤ 100)))

def r22_May (k : Nat) (a0 : (List (List File))) (a1 : Config) : Option Bool := (r16_Valid k a0).bind fun r3 => Jn (fun (b_1 : Bool) => some b_1) (fun J_2 => if ((((r3 && (a1.Levels == (a0.length : Int))) && (decide (2 ≤ a1.Levels))) && (decide (1 ≤ a1.Files0))) && (decide (1 ≤ a1.Cut))) = true then ((r22_rates a1).bind fun r12 => J_2 r12) else (J_2 false))

def r16_level (k : Nat) (a0 : (List (List File))) (a1 : Int) : Option (List File) := (r16_Valid k a0).bind fun r6 => if (((!r6) || (decide (a1 < 0))) || (decide ((a0.length : Int) ≤ a1))) = true then (some ([])) else ((idx a0 a1).bind fun x11 => some x11)

def r16_Size.l0 (r1 : (List File)) : Nat → Int → Int → Option Int
  | 0, _, _ => none
  | k_22 + 1, i_16, i_17 => if (decide (i_17 < (r1.length : Int))) = true then ((idx r1 i_17).bind fun x28 => r16_Size.l0 r1 k_22 (w64 (i_16 + x28.Size)) (w64 (i_17 + 1))) else (some i_16)

def r16_Size (k : Nat) (a0 : (List (List File))) (a1 : Int) : Option Int := (r16_level k a0 a1).bind fun r1 => r16_Size.l0 r1 k 0 0

def r22_Bears.l0 (a0 : Config) (a1 : Int) : Nat → Int → Int → Option Int
  | 0, _, _ => none
  | k_28 + 1, i_22, i_23 => if (decide (i_23 < a1)) = true then (r22_Bears.l0 a0 a1 k_28 (minI (w64 (i_22 * a0.Ratio)) 1099511627776) (w64 (i_23 + 1))) else (some i_22)

def r22_Bears (k : Nat) (a0 : Config) (a1 : Int) : Option Int := Jn (fun (b_4 : Bool) => if b_4 = true then (some 0) else (r22_Bears.l0 a0 a1 k a0.Base 1)) (fun J_5 => if ((decide (a1 < 1)) || (decide (7 ≤ a1))) = true then (J_5 true) else ((r22_rates a0).bind fun r27 => J_5 (!r27)))

def r22_Score (k : Nat) (a0 : (List (List File))) (a1 : Config) (a2 : Int) : Option Int := (r22_May k a0 a1).bind fun r8 => if (((!r8) || (decide (a2 < 0))) || (decide ((w64 ((a0.length : Int) - 1)) ≤ a2))) = true then (some 0) else (if (a2 == 0) = true then ((idx a0 0).bind fun x22 => if (minI a1.Files0 268435456) = 0 then none else (some (w64 (Int.tdiv (w64 (1000 * (x22.length : Int))) (minI a1.Files0 268435456))))) else ((r16_Size k a0 a2).bind fun r29 => (r22_Bears k a1 a2).bind fun r31 => if r31 = 0 then none else (some (w64 (Int.tdiv (w64 (1000 * r29)) r31)))))

def r22_first.l0 (a0 : (List File)) (a1 : Int) (a2 : (List ByteArray)) : Nat → Int → Option File
  | 0, _ => none
  | k_16 + 1, i_12 => if (decide (i_12 < (a0.length : Int))) = true then ((idx a0 i_12).bind fun x89 => (idx a2 a1).bind fun x90 => if (!sLt x89.Least x90) = true then ((idx a0 i_12).bind fun x93 => some x93) else (r22_first.l0 a0 a1 a2 k_16 (w64 (i_12 + 1)))) else ((idx a0 0).bind fun x95 => some x95)

def r22_first (k : Nat) (a0 : (List File)) (a1 : Int) (a2 : (List ByteArray)) : Option File := if ((a1 == 0) || (decide ((a2.length : Int) ≤ a1))) = true then ((idx a0 0).bind fun x9 => some x9) else (r22_first.l0 a0 a1 a2 k 0)

def r16_Span.l0 (a0 : (List File)) : Nat → ByteArray → ByteArray → Int → Option (ByteArray × ByteArray × Bool)
  | 0, _, _, _ => none
  | k_28 + 1, s_20, s_21, i_22 => if (decide (i_22 < (a0.length : Int))) = true then ((idx a0 i_22).bind fun x40 => (idx a0 i_22).bind fun x41 => r16_Span.l0 a0 k_28 (minS s_20 x40.Least) (maxS s_21 x41.Limit) (w64 (i_22 + 1))) else (some (s_20, s_21, true))

def r16_Span (k : Nat) (a0 : (List File)) : Option (ByteArray × ByteArray × Bool) := if ((a0.length : Int) == 0) = true then (some ((ByteArray.mk #[]), (ByteArray.mk #[]), false)) else ((idx a0 0).bind fun x3 => (idx a0 0).bind fun x4 => r16_Span.l0 a0 k x3.Least x4.Limit 1)

def r16_Overlaps (a0 : File) (a1 : ByteArray) (a2 : ByteArray) : Option Bool := some ((!(sLt a0.Limit a1 || sEq a0.Limit a1)) && ((sEq a2 (ByteArray.mk #[])) || ((sLt a0.Least a2) && (!(sLt a2 a1 || sEq a2 a1)))))

def r16_Over.l0 (a2 : ByteArray) (a3 : ByteArray) (r1 : (List File)) : Nat → (List File) → Int → Option (List File)
  | 0, _, _ => none
  | k_56 + 1, l_44, i_45 => if (decide (i_45 < (r1.length : Int))) = true then (Jn (fun (l_58 : (List File)) => r16_Over.l0 a2 a3 r1 k_56 l_58 (w64 (i_45 + 1))) (fun J_60 => (idx r1 i_45).bind fun x134 => (r16_Overlaps x134 a2 a3).bind fun r135 => if r135 = true then ((idx r1 i_45).bind fun x138 => (push 3518437208730 l_44 x138).bind fun l141 => J_60 l141) else (J_60 l_44))) else (some l_44)

def r16_Over (k : Nat) (a0 : (List (List File))) (a1 : Int) (a2 : ByteArray) (a3 : ByteArray) : Option (List File) := (r16_level k a0 a1).bind fun r1 => r16_Over.l0 a2 a3 r1 k ([]) 0

def r22_touch.l0 (a0 : (List (List File))) (a1 : Int) : Nat → (List File) → Option (List File)
  | 0, _ => none
  | k_28 + 1, l_22 => if (a1 == 0) = true then ((r16_Span k_28 l_22).bind fun r59 => (r16_Over k_28 a0 a1 r59.1 r59.2.1).bind fun r61 => if ((r61.length : Int) == (l_22.length : Int)) = true then (some l_22) else (r22_touch.l0 a0 a1 k_28 r61)) else (some l_22)

def r22_touch (k : Nat) (a0 : (List (List File))) (a1 : Int) (a2 : (List File)) : Option (List File) := (r16_Span k a2).bind fun r1 => (r16_Over k a0 a1 r1.1 r1.2.1).bind fun r3 => r22_touch.l0 a0 a1 k r3

def r22_below (k : Nat) (a0 : (List (List File))) (a1 : Int) (a2 : (List File)) : Option (List File) := (r16_Span k a2).bind fun r1 => (r16_Over k a0 (w64 (a1 + 1)) r1.1 r1.2.1).bind fun r3 => some r3

def r22_same.l0 (a0 : (List File)) (a1 : (List File)) : Nat → Int → Option Bool
  | 0, _ => none
  | k_16 + 1, i_12 => if (decide (i_12 < (a0.length : Int))) = true then ((idx a0 i_12).bind fun x59 => (idx a1 i_12).bind fun x60 => if (!File.eqb x59 x60) = true then (some false) else (r22_same.l0 a0 a1 k_16 (w64 (i_12 + 1)))) else (some true)

def r22_same (k : Nat) (a0 : (List File)) (a1 : (List File)) : Option Bool := if ((a0.length : Int) != (a1.length : Int)) = true then (some false) else (r22_same.l0 a0 a1 k 0)

def r22_bytes.l0 (a0 : (List File)) : Nat → Int → Int → Option Int
  | 0, _, _ => none
  | k_22 + 1, i_16, i_17 => if (decide (i_17 < (a0.length : Int))) = true then ((idx a0 i_17).bind fun x24 => r22_bytes.l0 a0 k_22 (w64 (i_16 + x24.Size)) (w64 (i_17 + 1))) else (some i_16)

def r22_bytes (k : Nat) (a0 : (List File)) : Option Int := r22_bytes.l0 a0 k 0 0

def r22_Next.l0 (a0 : (List (List File))) (a1 : Config) (a2 : (List ByteArray)) : Nat → Int → Int → Int → Option (R22_Plan × Bool)
  | 0, _, _, _ => none
  | k_48 + 1, i_36, i_37, i_38 => if (decide (i_38 < (a0.length : Int))) = true then (Jn (fun (i_49 : Int) (i_50 : Int) => r22_Next.l0 a0 a1 a2 k_48 i_49 i_50 (w64 (i_38 + 1))) (fun J_52 => (r22_Score k_48 a0 a1 i_38).bind fun r61 => if ((decide (1000 ≤ r61)) && (decide (i_36 < r61))) = true then (J_52 r61 i_38) else (J_52 i_36 i_37))) else (if (decide (i_37 < 0)) = true then (some ((⟨0, [], [], false⟩ : R22_Plan), false)) else ((idx a0 i_37).bind fun x71 => (r22_first k_48 x71 i_37 a2).bind fun r76 => Jn (fun (l_55 : (List File)) => (r22_below k_48 a0 i_37 l_55).bind fun r86 => (pushN 3518437208730 ([]) l_55).bind fun l93 => (pushN 3518437208730 l93 r86).bind fun l96 => (r22_touch k_48 a0 i_37 l96).bind fun r99 => Jn (fun (l_68 : (List File)) => some ((⟨i_37, l_68, r86, (((l_68.length : Int) == 1) && ((r86.length : Int) == 0))⟩ : R22_Plan), true)) (fun J_70 => Jn (fun (b_71 : Bool) (l_75 : (List File)) => Jn (fun (b_76 : Bool) => if b_76 = true then (J_70 r99) else (J_70 l_55)) (fun J_77 => if b_71 = true then ((r22_bytes k_48 r99).bind fun r143 => (r22_bytes k_48 r86).bind fun r145 => J_77 (decide ((w64 (r143 + r145)) ≤ (w64 (25 * (minI a1.Cut 268435456)))))) else (J_77 false))) (fun J_72 => if (decide ((l_55.length : Int) < (r99.length : Int))) = true then ((r22_below k_48 a0 i_37 r99).bind fun r148 => (r22_same k_48 r148 r86).bind fun r151 => J_72 r151 r148) else (J_72 false ([]))))) (fun J_57 => if (i_37 == 0) = true then ((r22_touch k_48 a0 0 ([r76])).bind fun r154 => J_57 r154) else (J_57 ([r76])))))

def r22_Next (k : Nat) (a0 : (List (List File))) (a1 : Config) (a2 : (List ByteArray)) : Option (R22_Plan × Bool) := r22_Next.l0 a0 a1 a2 k 0 (-1) 0

def l22_file (a0 : Int) (a1 : ByteArray) (a2 : ByteArray) (a3 : Int) : Option File := some (⟨a0, a3, a1, a2, 1, 1⟩ : File)

def l22_works (k : Nat) : Option Bool := (l22_file 4 (ByteArray.mk #[97]) (ByteArray.mk #[99]) 10).bind fun r1 => (l22_file 6 (ByteArray.mk #[100]) (ByteArray.mk #[101]) 10).bind fun r3 => (l22_file 7 (ByteArray.mk #[98]) (ByteArray.mk #[100]) 10).bind fun r5 => (l22_file 2 (ByteArray.mk #[97]) (ByteArray.mk #[98]) 30).bind fun r10 => (l22_file 3 (ByteArray.mk #[120]) (ByteArray.mk #[122]) 30).bind fun r12 => (pick_Next k ([[r1, r3, r5], [r10, r12], []]) (⟨0, 0, 0, (⟨0, 0, 0⟩ : Shape), 50, 2, 0, 100, 10, 3, 0, 0, 0, []⟩ : Config) ([])).bind fun r23 => Jn (fun (b_1 : Bool) => Jn (fun (b_4 : Bool) => Jn (fun (b_7 : Bool) => Jn (fun (b_10 : Bool) => some (b_10 && (!r23.1.Trivial))) (fun J_11 => if (b_7 && ((r23.1.Lower.length : Int) == 1)) = true then ((idx r23.1.Lower 0).bind fun x46 => J_11 (x46.Number == 2)) else (J_11 false))) (fun J_8 => if ((b_4 && (r23.1.Level == 0)) && ((r23.1.Upper.length : Int) == 2)) = true then ((idx r23.1.Upper 1).bind fun x47 => J_8 (x47.Number == 7)) else (J_8 false))) (fun J_5 => if b_1 = true then ((pick_Score k ([[r1, r3, r5], [r10, r12], []]) (⟨0, 0, 0, (⟨0, 0, 0⟩ : Shape), 50, 2, 0, 100, 10, 3, 0, 0, 0, []⟩ : Config) 1).bind fun r48 => J_5 (r48 == 600)) else (J_5 false))) (fun J_2 => if r23.2 = true then ((pick_Score k ([[r1, r3, r5], [r10, r12], []]) (⟨0, 0, 0, (⟨0, 0, 0⟩ : Shape), 50, 2, 0, 100, 10, 3, 0, 0, 0, []⟩ : Config) 0).bind fun r50 => J_2 (r50 == 1500)) else (J_2 false))

def l22_files.l0 (a0 : (List File)) (a1 : (List File)) : Nat → Int → Option Bool
  | 0, _ => none
  | k_16 + 1, i_12 => if (decide (i_12 < (a0.length : Int))) = true then ((idx a0 i_12).bind fun x59 => (idx a1 i_12).bind fun x60 => if (!File.eqb x59 x60) = true then (some false) else (l22_files.l0 a0 a1 k_16 (w64 (i_12 + 1)))) else (some true)

def l22_files (k : Nat) (a0 : (List File)) (a1 : (List File)) : Option Bool := if ((a0.length : Int) != (a1.length : Int)) = true then (some false) else (l22_files.l0 a0 a1 k 0)

def r16_Same.l1 (a0 : (List (List File))) (a1 : (List (List File))) (i_84 : Int) (J_116 : Option Bool) : Nat → Int → Option Bool
  | 0, _ => none
  | k_124 + 1, i_120 => (idx a0 i_84).bind fun x1709 => if (decide (i_120 < (x1709.length : Int))) = true then ((idx a0 i_84).bind fun x1729 => (idx x1729 i_120).bind fun x1734 => (idx a1 i_84).bind fun x1735 => (idx x1735 i_120).bind fun x1740 => if (!File.eqb x1734 x1740) = true then (some false) else (r16_Same.l1 a0 a1 i_84 J_116 k_124 (w64 (i_120 + 1)))) else (J_116)

def r16_Same.l0 (a0 : (List (List File))) (a1 : (List (List File))) : Nat → Int → Option Bool
  | 0, _ => none
  | k_106 + 1, i_84 => if (decide (i_84 < (a0.length : Int))) = true then (Jn (r16_Same.l0 a0 a1 k_106 (w64 (i_84 + 1))) (fun J_116 => (idx a0 i_84).bind fun x1611 => (idx a1 i_84).bind fun x1616 => if ((x1611.length : Int) != (x1616.length : Int)) = true then (some false) else (r16_Same.l1 a0 a1 i_84 J_116 k_106 0))) else (some true)

def r16_Same (k : Nat) (a0 : (List (List File))) (a1 : (List (List File))) : Option Bool := if ((a0.length : Int) != (a1.length : Int)) = true then (some false) else (r16_Same.l0 a0 a1 k 0)

def l22_PickPlans.l2 (J_47 : Option Bool) : Nat → (List File) → Int → Option Bool
  | 0, _, _ => none
  | k_76 + 1, l_70, i_71 => if (decide (i_71 < (l_70.length : Int))) = true then ((idx l_70 i_71).bind fun x214 => (upd l_70 i_71 (⟨(-8), 0, (ByteArray.mk #[]), (ByteArray.mk #[]), 0, 0⟩ : File)).bind fun l215 => l22_PickPlans.l2 J_47 k_76 l215 (w64 (i_71 + 1))) else (J_47)

def l22_PickPlans.l1 (a2 : (List ByteArray)) (l10 : (List ByteArray)) (J_57 : Option Bool) : Nat → Int → Option Bool
  | 0, _ => none
  | k_65 + 1, i_61 => if (decide (i_61 < (a2.length : Int))) = true then ((idx l10 i_61).bind fun x189 => (idx a2 i_61).bind fun x190 => if (!sEq x189 x190) = true then (some false) else (l22_PickPlans.l1 a2 l10 J_57 k_65 (w64 (i_61 + 1)))) else (J_57)

def l22_PickPlans.l0 (a0 : (List (List File))) (a2 : (List ByteArray)) (r3 : (List (List File))) (l10 : (List ByteArray)) (r13 : (pick_Plan × Bool)) : Nat → (List File) → Int → Option Bool
  | 0, _, _ => none
  | k_34 + 1, l_28, i_29 => if (decide (i_29 < (l_28.length : Int))) = true then ((idx l_28 i_29).bind fun x104 => (upd l_28 i_29 (⟨(-7), 0, (ByteArray.mk #[]), (ByteArray.mk #[]), 0, 0⟩ : File)).bind fun l105 => l22_PickPlans.l0 a0 a2 r3 l10 r13 k_34 l105 (w64 (i_29 + 1))) else (Jn (Jn ((r16_Same k_34 r3 a0).bind fun r161 => some r161) (fun J_57 => l22_PickPlans.l1 a2 l10 J_57 k_34 0)) (fun J_47 => l22_PickPlans.l2 J_47 k_34 r13.1.Lower 0))

def l22_PickPlans (k : Nat) (a0 : (List (List File))) (a1 : Config) (a2 : (List ByteArray)) : Option Bool := (l22_copied k a0).bind fun r3 => (pushN 14073748835379 ([]) a2).bind fun l10 => (pick_Next k r3 a1 l10).bind fun r13 => (r22_Next k a0 a1 a2).bind fun r22 => (l22_works k).bind fun r47 => Jn (fun (b_7 : Bool) => Jn (fun (b_10 : Bool) => if b_10 = true then (some false) else (l22_PickPlans.l0 a0 a2 r3 l10 r13 k r13.1.Upper 0)) (fun J_11 => if b_7 = true then (J_11 true) else ((l22_files k r13.1.Lower r22.1.Lower).bind fun r217 => J_11 (!r217)))) (fun J_8 => if ((((!r47) || (!(r13.2 == r22.2))) || (r13.1.Level != r22.1.Level)) || (!(r13.1.Trivial == r22.1.Trivial))) = true then (J_8 true) else ((l22_files k r13.1.Upper r22.1.Upper).bind fun r219 => J_8 (!r219)))

def l22_in.l0 (a0 : (List File)) (a1 : File) : Nat → Int → Option Bool
  | 0, _ => none
  | k_16 + 1, i_12 => if (decide (i_12 < (a0.length : Int))) = true then ((idx a0 i_12).bind fun x48 => if (File.eqb x48 a1) = true then (some true) else (l22_in.l0 a0 a1 k_16 (w64 (i_12 + 1)))) else (some false)

def l22_in (k : Nat) (a0 : (List File)) (a1 : File) : Option Bool := l22_in.l0 a0 a1 k 0

def l22_meets (a0 : File) (a1 : ByteArray) (a2 : ByteArray) : Option Bool := some ((!(sLt a0.Limit a1 || sEq a0.Limit a1)) && (sLt a0.Least a2))

def l22_PickWhole.l4 (a0 : (List (List File))) (r9 : (pick_Plan × Bool)) (r48 : (ByteArray × ByteArray × Bool)) (J_374 : Option Bool) : Nat → Int → Option Bool
  | 0, _ => none
  | k_430 + 1, i_420 => (idx a0 (w64 (r9.1.Level + 1))).bind fun x1595 => if (decide (i_420 < (x1595.length : Int))) = true then ((idx a0 (w64 (r9.1.Level + 1))).bind fun x1618 => (idx x1618 i_420).bind fun x1623 => (l22_in k_430 r9.1.Lower x1623).bind fun r1627 => Jn (fun (b_434 : Bool) => if b_434 = true then (some false) else (l22_PickWhole.l4 a0 r9 r48 J_374 k_430 (w64 (i_420 + 1)))) (fun J_435 => if (!r1627) = true then ((l22_meets x1623 r48.1 r48.2.1).bind fun r1633 => J_435 r1633) else (J_435 false))) else (J_374)

def l22_PickWhole.l3 (a0 : (List (List File))) (r9 : (pick_Plan × Bool)) (J_384 : Option Bool) : Nat → Int → Option Bool
  | 0, _ => none
  | k_410 + 1, i_406 => if (decide (i_406 < (r9.1.Upper.length : Int))) = true then ((idx a0 r9.1.Level).bind fun x1487 => (idx r9.1.Upper i_406).bind fun x1492 => (l22_in k_410 x1487 x1492).bind fun r1493 => if (!r1493) = true then (some false) else (l22_PickWhole.l3 a0 r9 J_384 k_410 (w64 (i_406 + 1)))) else (J_384)

def l22_PickWhole.l2 (a0 : (List (List File))) (r9 : (pick_Plan × Bool)) (J_394 : Option Bool) : Nat → Int → Option Bool
  | 0, _ => none
  | k_402 + 1, i_398 => if (decide (i_398 < (r9.1.Lower.length : Int))) = true then ((idx a0 (w64 (r9.1.Level + 1))).bind fun x1421 => (idx r9.1.Lower i_398).bind fun x1426 => (l22_in k_402 x1421 x1426).bind fun r1427 => if (!r1427) = true then (some false) else (l22_PickWhole.l2 a0 r9 J_394 k_402 (w64 (i_398 + 1)))) else (J_394)

def l22_PickWhole.l1 (r9 : (pick_Plan × Bool)) (J_320 : Option Bool) (x1019 : File) : Nat → Int → Option Bool
  | 0, _ => none
  | k_340 + 1, i_330 => Jn (fun (b_344 : Bool) => if b_344 = true then ((idx r9.1.Upper i_330).bind fun x1087 => (idx r9.1.Upper i_330).bind fun x1088 => (l22_meets x1019 x1087.Least x1088.Limit).bind fun r1089 => if r1089 = true then (some false) else (l22_PickWhole.l1 r9 J_320 x1019 k_340 (w64 (i_330 + 1)))) else (J_320)) (fun J_345 => if (decide (i_330 < (r9.1.Upper.length : Int))) = true then ((l22_in k_340 r9.1.Upper x1019).bind fun r1093 => J_345 (!r1093)) else (J_345 false))

def l22_PickWhole.l0 (a0 : (List (List File))) (r9 : (pick_Plan × Bool)) (r48 : (ByteArray × ByteArray × Bool)) : Nat → Int → Option Bool
  | 0, _ => none
  | k_292 + 1, i_234 => (idx a0 r9.1.Level).bind fun x927 => if (decide (i_234 < (x927.length : Int))) = true then (Jn (l22_PickWhole.l0 a0 r9 r48 k_292 (w64 (i_234 + 1))) (fun J_320 => (idx a0 r9.1.Level).bind fun x1014 => (idx x1014 i_234).bind fun x1019 => l22_PickWhole.l1 r9 J_320 x1019 k_292 0)) else (Jn (Jn (Jn (some true) (fun J_394 => l22_PickWhole.l2 a0 r9 J_394 k_292 0)) (fun J_384 => l22_PickWhole.l3 a0 r9 J_384 k_292 0)) (fun J_374 => l22_PickWhole.l4 a0 r9 r48 J_374 k_292 0))

def l22_PickWhole (k : Nat) (a0 : (List (List File))) (a1 : Config) (a2 : (List ByteArray)) : Option Bool := (l22_works k).bind fun r6 => if (!r6) = true then (some false) else ((pick_Next k a0 a1 a2).bind fun r9 => if (!r9.2) = true then (some (((r9.1.Upper.length : Int) == 0) && ((r9.1.Lower.length : Int) == 0))) else (Jn (fun (b_4 : Bool) => if b_4 = true then (some false) else ((pushN 3518437208730 ([]) r9.1.Upper).bind fun l41 => (pushN 3518437208730 l41 r9.1.Lower).bind fun l45 => (version_Span k l45).bind fun r48 => l22_PickWhole.l0 a0 r9 r48 k 0)) (fun J_5 => if (((decide (r9.1.Level < 0)) || (decide ((a0.length : Int) ≤ (w64 (r9.1.Level + 1))))) || ((r9.1.Upper.length : Int) == 0)) = true then (J_5 true) else ((pick_Score k a0 a1 r9.1.Level).bind fun r1635 => J_5 (decide (r1635 < 1000))))))

def l22_PickFullest.l0 (a0 : (List (List File))) (a1 : Config) (r9 : (pick_Plan × Bool)) : Nat → Bool → Int → Option Bool
  | 0, _, _ => none
  | k_412 + 1, b_328, i_329 => if (decide (i_329 < (a0.length : Int))) = true then ((pick_Score k_412 a0 a1 i_329).bind fun r371 => Jn (fun (b_464 : Bool) => if b_464 = true then (some false) else (l22_PickFullest.l0 a0 a1 r9 k_412 (b_328 || (decide (1000 ≤ r371))) (w64 (i_329 + 1)))) (fun J_465 => if r9.2 = true then ((pick_Score k_412 a0 a1 r9.1.Level).bind fun r389 => Jn (fun (b_482 : Bool) => J_465 b_482) (fun J_483 => if (decide (r389 < r371)) = true then (J_483 true) else (Jn (fun (b_488 : Bool) => J_483 b_488) (fun J_489 => if (decide (i_329 < r9.1.Level)) = true then ((pick_Score k_412 a0 a1 r9.1.Level).bind fun r400 => J_489 (r371 == r400)) else (J_489 false))))) else (J_465 false))) else (some (r9.2 == b_328))

def l22_PickFullest (k : Nat) (a0 : (List (List File))) (a1 : Config) (a2 : (List ByteArray)) : Option Bool := (l22_works k).bind fun r6 => if (!r6) = true then (some false) else ((pick_Next k a0 a1 a2).bind fun r9 => l22_PickFullest.l0 a0 a1 r9 k false 0)
end Go.Proofs.Ytckjpkecipgeiaa.Mo
