/- Printed by gen.py: structures, and the plain twins of Go functions. -/
import Derived.Test.YtfofolmagnaimaaSyFun
set_option linter.unusedVariables false
set_option linter.unusedSimpArgs false
set_option maxRecDepth 100000
namespace Go.Proofs.Ytfofolmagnaimaa.Mo
open Go Go.Proofs.Ytfofolmagnaimaa.Sy
structure File where
  Number : Int
  Size : Int
  Least : ByteArray
  Limit : ByteArray
  Low : Int
  High : Int

def File.enc (x : File) : List _root_.Go.Value := [.int .i64 x.Number, .int .i64 x.Size, .string x.Least, .string x.Limit, .int .u64 x.Low, .int .u64 x.High]

def File.eqb (x y : File) : Bool := (x.Number == y.Number) && ((x.Size == y.Size) && (sEq x.Least y.Least && (sEq x.Limit y.Limit && ((x.Low == y.Low) && ((x.High == y.High) && (true))))))

structure R21_Rule where
  Snaps : (List Int)
  Below : (List File)

structure drop_Rule where
  Snaps : (List Int)
  Below : (List File)

def l21_rule (a0 : R21_Rule) : Option drop_Rule := Jn (fun (l_3 : (List Int)) (l_6 : (List File)) => some (⟨l_3, l_6⟩ : drop_Rule)) (fun J_8 => (pushN 17592186044416 ([]) a0.Snaps).bind fun l63 => (pushN 2199023255552 ([]) a0.Below).bind fun l71 => J_8 l63 l71)

def slices_Index_uint64.l0 (a0 : (List Int)) (a1 : Int) : Nat → Int → Option Int
  | 0, _ => none
  | k_16 + 1, i_12 => if (decide (i_12 < (a0.length : Int))) = true then ((idx a0 i_12).bind fun x35 => if (a1 == x35) = true then (some i_12) else (slices_Index_uint64.l0 a0 a1 k_16 (w64 (i_12 + 1)))) else (some (-1))

def slices_Index_uint64 (k : Nat) (a0 : (List Int)) (a1 : Int) : Option Int := slices_Index_uint64.l0 a0 a1 k 0

def slices_Contains_uint64 (k : Nat) (a0 : (List Int)) (a1 : Int) : Option Bool := (slices_Index_uint64 k a0 a1).bind fun r1 => some (decide (0 ≤ r1))

def drop_Stripe.l0 (a0 : (List Int)) (a1 : Int) : Nat → Int → Int → Option Int
  | 0, _, _ => none
  | k_67 + 1, i_52, i_53 => if (decide (i_53 < (a0.length : Int))) = true then (Jn (fun (i_71 : Int) => drop_Stripe.l0 a0 a1 k_67 i_71 (w64 (i_53 + 1))) (fun J_73 => (idx a0 i_53).bind fun x112 => Jn (fun (b_74 : Bool) => if b_74 = true then (J_73 (w64 (i_52 + 1))) else (J_73 i_52)) (fun J_75 => if (decide (x112 < a1)) = true then ((cut a0 0 i_53).bind fun l118 => (slices_Contains_uint64 k_67 l118 x112).bind fun r119 => J_75 (!r119)) else (J_75 false)))) else (some i_52)

def drop_Stripe (k : Nat) (a0 : (List Int)) (a1 : Int) : Option Int := drop_Stripe.l0 a0 a1 k 0 0

def r21_Stripe.l1 (a0 : (List Int)) (i_517 : Int) (J_743 : Bool → Option Int) : Nat → Bool → Int → Option Int
  | 0, _, _ => none
  | k_766 + 1, b_754, i_755 => if (decide (i_755 < i_517)) = true then (Jn (fun (b_770 : Bool) => r21_Stripe.l1 a0 i_517 J_743 k_766 b_770 (w64 (i_755 + 1))) (fun J_771 => if b_754 = true then (J_771 true) else ((idx a0 i_755).bind fun x1055 => (idx a0 i_517).bind fun x1056 => J_771 (x1055 == x1056)))) else (J_743 b_754)

def r21_Stripe.l0 (a0 : (List Int)) (a1 : Int) : Nat → Int → Int → Option Int
  | 0, _, _ => none
  | k_647 + 1, i_516, i_517 => if (decide (i_517 < (a0.length : Int))) = true then (Jn (fun (i_709 : Int) => r21_Stripe.l0 a0 a1 k_647 i_709 (w64 (i_517 + 1))) (fun J_711 => Jn (fun (b_741 : Bool) => (idx a0 i_517).bind fun x1012 => if ((decide (x1012 < a1)) && (!b_741)) = true then (J_711 (w64 (i_516 + 1))) else (J_711 i_516)) (fun J_743 => r21_Stripe.l1 a0 i_517 J_743 k_647 false 0))) else (some i_516)

def r21_Stripe (k : Nat) (a0 : (List Int)) (a1 : Int) : Option Int := r21_Stripe.l0 a0 a1 k 0 0

def drop_Bears_1 (a0 : File) (c0 : ByteArray) : Option Bool := some ((sLt a0.Least c0 || sEq a0.Least c0) && (sLt c0 a0.Limit))

def slices_IndexFunc_File.l0 (a0 : (List File)) (a1 : (File → Option Bool)) : Nat → Int → Option Int
  | 0, _ => none
  | k_16 + 1, i_12 => if (decide (i_12 < (a0.length : Int))) = true then ((idx a0 i_12).bind fun x57 => (a1 x57).bind fun r58 => if r58 = true then (some i_12) else (slices_IndexFunc_File.l0 a0 a1 k_16 (w64 (i_12 + 1)))) else (some (-1))

def slices_IndexFunc_File (k : Nat) (a0 : (List File)) (a1 : (File → Option Bool)) : Option Int := slices_IndexFunc_File.l0 a0 a1 k 0

def slices_ContainsFunc_File (k : Nat) (a0 : (List File)) (a1 : (File → Option Bool)) : Option Bool := (slices_IndexFunc_File k a0 a1).bind fun r1 => some (decide (0 ≤ r1))

def drop_Bears (k : Nat) (a0 : (List File)) (a1 : ByteArray) : Option Bool := (slices_ContainsFunc_File k a0 (fun x0 => drop_Bears_1 x0 a1)).bind fun r3 => some r3

def r21_Bears.l0 (a0 : (List File)) (a1 : ByteArray) : Nat → Int → Option Bool
  | 0, _ => none
  | k_46 + 1, i_36 => if (decide (i_36 < (a0.length : Int))) = true then ((idx a0 i_36).bind fun x68 => Jn (fun (b_50 : Bool) => if b_50 = true then (some true) else (r21_Bears.l0 a0 a1 k_46 (w64 (i_36 + 1)))) (fun J_51 => if (sLt x68.Least a1 || sEq x68.Least a1) = true then ((idx a0 i_36).bind fun x72 => J_51 (sLt a1 x72.Limit)) else (J_51 false))) else (some false)

def r21_Bears (k : Nat) (a0 : (List File)) (a1 : ByteArray) : Option Bool := r21_Bears.l0 a0 a1 k 0

def l21_kept.l1 (a0 : drop_Rule) (a1 : R21_Rule) (J_36 : Bool → Option Bool) : Nat → Bool → Int → Option Bool
  | 0, _, _ => none
  | k_47 + 1, b_41, i_42 => if (b_41 && (decide (i_42 < (a1.Below.length : Int)))) = true then ((idx a0.Below i_42).bind fun x123 => (idx a1.Below i_42).bind fun x124 => l21_kept.l1 a0 a1 J_36 k_47 (File.eqb x123 x124) (w64 (i_42 + 1))) else (J_36 b_41)

def l21_kept.l0 (a0 : drop_Rule) (a1 : R21_Rule) : Nat → Bool → Int → Option Bool
  | 0, _, _ => none
  | k_22 + 1, b_16, i_17 => if (b_16 && (decide (i_17 < (a1.Snaps.length : Int)))) = true then ((idx a0.Snaps i_17).bind fun x63 => (idx a1.Snaps i_17).bind fun x64 => l21_kept.l0 a0 a1 k_22 (x63 == x64) (w64 (i_17 + 1))) else (Jn (fun (b_34 : Bool) => some b_34) (fun J_36 => l21_kept.l1 a0 a1 J_36 k_22 b_16 0))

def l21_kept (k : Nat) (a0 : drop_Rule) (a1 : R21_Rule) : Option Bool := l21_kept.l0 a0 a1 k (((a0.Snaps.length : Int) == (a1.Snaps.length : Int)) && ((a0.Below.length : Int) == (a1.Below.length : Int))) 0

def l21_DropStripes (k : Nat) (a0 : R21_Rule) (a1 : Int) (a2 : ByteArray) : Option Bool := (l21_rule a0).bind fun r3 => (drop_Stripe k r3.Snaps a1).bind fun r12 => (r21_Stripe k a0.Snaps a1).bind fun r14 => Jn (fun (b_1 : Bool) => Jn (fun (b_4 : Bool) => some b_4) (fun J_5 => if b_1 = true then ((l21_kept k r3 a0).bind fun r25 => J_5 r25) else (J_5 false))) (fun J_2 => if (r12 == r14) = true then ((drop_Bears k r3.Below a2).bind fun r27 => (r21_Bears k a0.Below a2).bind fun r29 => J_2 (r27 == r29)) else (J_2 false))
end Go.Proofs.Ytfofolmagnaimaa.Mo
