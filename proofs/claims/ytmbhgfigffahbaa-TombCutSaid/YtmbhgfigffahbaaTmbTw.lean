/- Printed by gen.py: structures, and the plain twins of Go functions. -/
import Derived.Test.YtmbhgfigffahbaaSyQuiet
set_option linter.unusedVariables false
set_option linter.unusedSimpArgs false
set_option maxRecDepth 100000
namespace Go.Proofs.Ytmbhgfigffahbaa.Mo
open Go Go.Proofs.Ytmbhgfigffahbaa.Sy
structure Tomb where
  Begin : ByteArray
  End : ByteArray
  Seq : Int

def Tomb.enc (x : Tomb) : List Value := [.string x.Begin, .string x.End, .int .u64 x.Seq]

def Tomb.eqb (x y : Tomb) : Bool := sEq x.Begin y.Begin && (sEq x.End y.End && ((x.Seq == y.Seq) && (true)))

structure L09_Ask where
  Key : ByteArray
  Seq : Int
  Least : ByteArray
  Limit : ByteArray
  Stop : Int

def L09_Ask.enc (x : L09_Ask) : List Value := [.string x.Key, .int .u64 x.Seq, .string x.Least, .string x.Limit, .int .i64 x.Stop]

def L09_Ask.eqb (x y : L09_Ask) : Bool := sEq x.Key y.Key && ((x.Seq == y.Seq) && (sEq x.Least y.Least && (sEq x.Limit y.Limit && ((x.Stop == y.Stop) && (true)))))

def tomb_Valid (a0 : Tomb) : Option Bool := some (((((!sEq a0.Begin (ByteArray.mk #[])) && (decide ((a0.Begin.size : Int) ≤ 1024))) && (decide ((a0.End.size : Int) ≤ 1025))) && (sLt a0.Begin a0.End)) && (decide (a0.Seq ≤ 72057594037927935)))

def tomb_valid.l0 (a0 : (List Tomb)) : Nat → (List Tomb) → Int → Option (List Tomb)
  | 0, _, _ => none
  | k_56 + 1, l_44, i_45 => if (decide (i_45 < (a0.length : Int))) = true then (Jn (fun (l_58 : (List Tomb)) => tomb_valid.l0 a0 k_56 l_58 (w64 (i_45 + 1))) (fun J_60 => (idx a0 i_45).bind fun x152 => (tomb_Valid x152).bind fun r156 => if r156 = true then ((push 3518437208883 l_44 x152).bind fun l161 => J_60 l161) else (J_60 l_44))) else (some l_44)

def tomb_valid (k : Nat) (a0 : (List Tomb)) : Option (List Tomb) := tomb_valid.l0 a0 k ([]) 0

def tomb_Cut.l0 (a1 : ByteArray) (a2 : ByteArray) (r105 : (List Tomb)) : Nat → (List Tomb) → Int → Option (List Tomb)
  | 0, _, _ => none
  | k_86 + 1, l_68, i_69 => if (decide (i_69 < (r105.length : Int))) = true then (Jn (fun (l_91 : (List Tomb)) => tomb_Cut.l0 a1 a2 r105 k_86 l_91 (w64 (i_69 + 1))) (fun J_93 => (idx r105 i_69).bind fun x193 => Jn (fun (s_94 : ByteArray) => if (sLt (maxS x193.Begin a1) s_94) = true then ((push 3518437208883 l_68 (⟨maxS x193.Begin a1, s_94, x193.Seq⟩ : Tomb)).bind fun l203 => J_93 l203) else (J_93 l_68)) (fun J_96 => if (!sEq a2 (ByteArray.mk #[])) = true then (J_96 (minS x193.End a2)) else (J_96 x193.End)))) else (some l_68)

def tomb_Cut (k : Nat) (a0 : (List Tomb)) (a1 : ByteArray) (a2 : ByteArray) : Option (List Tomb) := (tomb_valid k a0).bind fun r105 => tomb_Cut.l0 a1 a2 r105 k ([]) 0

def tomb_Cover.l0 (a0 : (List Tomb)) (a1 : ByteArray) (a2 : Int) : Nat → Int → Bool → Int → Option (Int × Bool)
  | 0, _, _, _ => none
  | k_48 + 1, i_36, b_37, i_38 => if (decide (i_38 < (a0.length : Int))) = true then (Jn (fun (i_49 : Int) (b_50 : Bool) => tomb_Cover.l0 a0 a1 a2 k_48 i_49 b_50 (w64 (i_38 + 1))) (fun J_52 => (idx a0 i_38).bind fun x123 => (tomb_Valid x123).bind fun r127 => if (((r127 && (decide (x123.Seq ≤ a2))) && (sLt x123.Begin a1 || sEq x123.Begin a1)) && (sLt a1 x123.End)) = true then (J_52 (maxI i_36 x123.Seq) true) else (J_52 i_36 b_37))) else (some (i_36, b_37))

def tomb_Cover (k : Nat) (a0 : (List Tomb)) (a1 : ByteArray) (a2 : Int) : Option (Int × Bool) := tomb_Cover.l0 a0 a1 a2 k 0 false 0

def l09_TombCut.l0 (a0 : (List Tomb)) (a1 : L09_Ask) (r4 : (List Tomb)) (r8 : (Int × Bool)) (i_1 : Int) (b_2 : Bool) : Nat → Int → Option Bool
  | 0, _ => none
  | k_350 + 1, i_280 => if (decide (i_280 < (r4.length : Int))) = true then ((idx r4 i_280).bind fun x335 => Jn (fun (b_387 : Bool) => Jn (fun (b_399 : Bool) => if b_399 = true then (some false) else (l09_TombCut.l0 a0 a1 r4 r8 i_1 b_2 k_350 (w64 (i_280 + 1)))) (fun J_400 => if b_387 = true then (J_400 true) else ((idx r4 i_280).bind fun x351 => (tomb_Valid x351).bind fun r352 => Jn (fun (b_408 : Bool) => Jn (fun (b_411 : Bool) => J_400 b_411) (fun J_412 => if b_408 = true then ((idx r4 i_280).bind fun x358 => J_412 (decide ((x358.End.size : Int) ≤ 1025))) else (J_412 false))) (fun J_409 => if (!r352) = true then ((idx r4 i_280).bind fun x359 => J_409 (decide ((x359.Begin.size : Int) ≤ 1024))) else (J_409 false))))) (fun J_388 => if (sLt x335.Begin a1.Least) = true then (J_388 true) else (Jn (fun (b_414 : Bool) => J_388 b_414) (fun J_415 => if (!sEq a1.Limit (ByteArray.mk #[])) = true then ((idx r4 i_280).bind fun x362 => J_415 (!(sLt x362.End a1.Limit || sEq x362.End a1.Limit))) else (J_415 false))))) else ((tomb_Cut k_350 ([(⟨(ByteArray.mk #[97]), (ByteArray.mk #[100]), 5⟩ : Tomb)]) (ByteArray.mk #[98]) (ByteArray.mk #[99])).bind fun r366 => Jn (fun (b_420 : Bool) => if b_420 = true then (some false) else (some ((decide ((r4.length : Int) ≤ (a0.length : Int))) && (((decide (1024 < (a1.Least.size : Int))) || (decide (1025 < (a1.Limit.size : Int)))) || ((r8.1 == i_1) && (r8.2 == b_2)))))) (fun J_421 => if ((r366.length : Int) != 1) = true then (J_421 true) else ((idx r366 0).bind fun x381 => J_421 (!Tomb.eqb x381 (⟨(ByteArray.mk #[98]), (ByteArray.mk #[99]), 5⟩ : Tomb)))))

def l09_TombCut (k : Nat) (a0 : (List Tomb)) (a1 : L09_Ask) : Option Bool := (tomb_Cut k a0 a1.Least a1.Limit).bind fun r4 => (tomb_Cover k r4 a1.Key a1.Seq).bind fun r8 => (tomb_Cover k a0 a1.Key a1.Seq).bind fun r10 => Jn (fun (i_1 : Int) (b_2 : Bool) => l09_TombCut.l0 a0 a1 r4 r8 i_1 b_2 k 0) (fun J_4 => if ((sLt a1.Key a1.Least) || ((!sEq a1.Limit (ByteArray.mk #[])) && (!sLt a1.Key a1.Limit))) = true then (J_4 0 false) else (J_4 r10.1 r10.2))
end Go.Proofs.Ytmbhgfigffahbaa.Mo
