import Derived.Test.YtbaemhkfmddakaaGreatSyAv
set_option linter.unusedVariables false
set_option linter.unusedSectionVars false
set_option linter.unusedSimpArgs false
set_option maxRecDepth 100000
namespace Go.Proofs.YtbaemhkfmddakaaGreat.Mo
open Go Go.Proofs.YtbaemhkfmddakaaGreat.Sy
structure Tomb where
  Begin : ByteArray
  End : ByteArray
  Seq : Int
def Tomb.enc (x : Tomb) : List _root_.Go.Value := [.string x.Begin, .string x.End, .int .u64 x.Seq]
def Tomb.eqb (x y : Tomb) : Bool := sEq x.Begin y.Begin && (sEq x.End y.End && ((x.Seq == y.Seq) && (true)))
structure Op where
  Kind : Int
  Key : ByteArray
  Value : ByteArray
def Op.enc (x : Op) : List _root_.Go.Value := [.int .i64 x.Kind, .string x.Key, .string x.Value]
def Op.eqb (x y : Op) : Bool := (x.Kind == y.Kind) && (sEq x.Key y.Key && (sEq x.Value y.Value && (true)))
structure L10_Act where
  Kind : Int
  Height : Int
  Seq : Int
  Op : Op
def L10_Act.enc (x : L10_Act) : List _root_.Go.Value := [.int .i64 x.Kind, .int .i64 x.Height, .int .u64 x.Seq, .int .i64 x.Op.Kind, .string x.Op.Key, .string x.Op.Value]
def L10_Act.eqb (x y : L10_Act) : Bool := (x.Kind == y.Kind) && ((x.Height == y.Height) && ((x.Seq == y.Seq) && (Op.eqb x.Op y.Op && (true))))
structure IKey where
  Key : ByteArray
  Seq : Int
  Kind : Int
def IKey.enc (x : IKey) : List _root_.Go.Value := [.string x.Key, .int .u64 x.Seq, .int .i64 x.Kind]
def IKey.eqb (x y : IKey) : Bool := sEq x.Key y.Key && ((x.Seq == y.Seq) && ((x.Kind == y.Kind) && (true)))
structure St132 where
  e0 : Int
  e1 : Int
  e2 : Int
  e3 : Int
  e4 : Int
  e5 : Int
  e6 : Int
  e7 : Int
  e8 : Int
  e9 : Int
  e10 : Int
  e11 : Int
def St132.enc (x : St132) : List _root_.Go.Value := [.int .i32 x.e0, .int .i32 x.e1, .int .i32 x.e2, .int .i32 x.e3, .int .i32 x.e4, .int .i32 x.e5, .int .i32 x.e6, .int .i32 x.e7, .int .i32 x.e8, .int .i32 x.e9, .int .i32 x.e10, .int .i32 x.e11]
def St132.eqb (x y : St132) : Bool := (x.e0 == y.e0) && ((x.e1 == y.e1) && ((x.e2 == y.e2) && ((x.e3 == y.e3) && ((x.e4 == y.e4) && ((x.e5 == y.e5) && ((x.e6 == y.e6) && ((x.e7 == y.e7) && ((x.e8 == y.e8) && ((x.e9 == y.e9) && ((x.e10 == y.e10) && ((x.e11 == y.e11) && (true))))))))))))
structure skip_node_string where
  key : IKey
  value : ByteArray
  height : Int
  next_ : St132
  prev : Int
def skip_node_string.enc (x : skip_node_string) : List _root_.Go.Value := [.string x.key.Key, .int .u64 x.key.Seq, .int .i64 x.key.Kind, .string x.value, .int .i64 x.height, .int .i32 x.next_.e0, .int .i32 x.next_.e1, .int .i32 x.next_.e2, .int .i32 x.next_.e3, .int .i32 x.next_.e4, .int .i32 x.next_.e5, .int .i32 x.next_.e6, .int .i32 x.next_.e7, .int .i32 x.next_.e8, .int .i32 x.next_.e9, .int .i32 x.next_.e10, .int .i32 x.next_.e11, .int .i32 x.prev]
def skip_node_string.eqb (x y : skip_node_string) : Bool := IKey.eqb x.key y.key && (sEq x.value y.value && ((x.height == y.height) && (St132.eqb x.next_ y.next_ && ((x.prev == y.prev) && (true)))))
structure Entry where
  Key : ByteArray
  Seq : Int
  Kind : Int
  Value : ByteArray
def Entry.enc (x : Entry) : List _root_.Go.Value := [.string x.Key, .int .u64 x.Seq, .int .i64 x.Kind, .string x.Value]
def Entry.eqb (x y : Entry) : Bool := sEq x.Key y.Key && ((x.Seq == y.Seq) && ((x.Kind == y.Kind) && (sEq x.Value y.Value && (true))))
def tomb_Valid (a0 : Tomb) : Option Bool := some (((((!sEq a0.Begin (ByteArray.mk #[])) && (decide ((a0.Begin.size : Int) ≤ 1024))) && (decide ((a0.End.size : Int) ≤ 1025))) && (sLt a0.Begin a0.End)) && (decide (a0.Seq ≤ 72057594037927935)))
def tomb_valid.l0 (a0 : (List Tomb)) : Nat → (List Tomb) → Int → Option (List Tomb)
  | 0, _, _ => none
  | k_56 + 1, l_44, i_45 => if (decide (i_45 < (a0.length : Int))) = true then (Jn (fun (l_58 : (List Tomb)) => tomb_valid.l0 a0 k_56 l_58 (w64 (i_45 + 1))) (fun J_60 => (idx a0 i_45).bind fun x154 => (tomb_Valid x154).bind fun r158 => if r158 = true then ((push 5629499534059 l_44 x154).bind fun l163 => J_60 l163) else (J_60 l_44))) else (some l_44)
def tomb_valid (k : Nat) (a0 : (List Tomb)) : Option (List Tomb) := tomb_valid.l0 a0 k ([]) 0
def l10_MemNil.l1 (J_171 : Option Bool) : Nat → Option Bool
  | 0 => none
  | k_176 + 1 => J_171
def l10_MemNil.l0 : Nat → Option Bool
  | 0 => none
  | k_114 + 1 => Jn (if ((!Entry.eqb (⟨(ByteArray.mk #[]), 0, 0, (ByteArray.mk #[])⟩ : Entry) (⟨(ByteArray.mk #[]), 0, 0, (ByteArray.mk #[])⟩ : Entry)) || false) = true then (some false) else (Jn ((mkS 2513169434916 1 (⟨(⟨(ByteArray.mk #[]), 0, 0⟩ : IKey), (ByteArray.mk #[]), 0, (⟨0, 0, 0, 0, 0, 0, 0, 0, 0, 0, 0, 0⟩ : St132), 0⟩ : skip_node_string)).bind fun l1017 => (tomb_valid k_114 ([])).bind fun r1031 => some (7 == 7)) (fun J_147 => Jn (Jn (if ((!Entry.eqb (⟨(ByteArray.mk #[]), 0, 0, (ByteArray.mk #[])⟩ : Entry) (⟨(ByteArray.mk #[]), 0, 0, (ByteArray.mk #[])⟩ : Entry)) || false) = true then (some false) else (J_147)) (fun J_164 => J_164)) (fun J_162 => Jn (J_162) (fun J_171 => Jn (l10_MemNil.l1 J_171 k_114) (fun J_173 => J_173)))))) (fun J_116 => J_116)
def l10_MemNil (k : Nat) (a0 : L10_Act) (a1 : IKey) : Option Bool := if ((((((((((!Entry.eqb (⟨(ByteArray.mk #[]), 0, 0, (ByteArray.mk #[])⟩ : Entry) (⟨(ByteArray.mk #[]), 0, 0, (ByteArray.mk #[])⟩ : Entry)) || false) || false) || false) || false) || false) || false) || false) || false) || false) = true then (some false) else (if ((((((((((!Entry.eqb (⟨(ByteArray.mk #[]), 0, 0, (ByteArray.mk #[])⟩ : Entry) (⟨(ByteArray.mk #[]), 0, 0, (ByteArray.mk #[])⟩ : Entry)) || false) || false) || false) || false) || false) || false) || false) || false) || false) = true then (some false) else (if ((!Entry.eqb (⟨(ByteArray.mk #[]), 0, 0, (ByteArray.mk #[])⟩ : Entry) (⟨(ByteArray.mk #[]), 0, 0, (ByteArray.mk #[])⟩ : Entry)) || false) = true then (some false) else (if ((!Entry.eqb (⟨(ByteArray.mk #[]), 0, 0, (ByteArray.mk #[])⟩ : Entry) (⟨(ByteArray.mk #[]), 0, 0, (ByteArray.mk #[])⟩ : Entry)) || false) = true then (some false) else (l10_MemNil.l0 k))))
end Go.Proofs.YtbaemhkfmddakaaGreat.Mo
