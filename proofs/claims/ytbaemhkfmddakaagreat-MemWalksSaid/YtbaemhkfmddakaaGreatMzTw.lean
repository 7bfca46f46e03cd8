import Derived.Test.YtbaemhkfmddakaaGreatSyAv
import Derived.Test.YtbaemhkfmddakaaGreatSySs
import Derived.Test.YtbaemhkfmddakaaGreatSyS2
set_option linter.unusedVariables false
set_option linter.unusedSectionVars false
set_option linter.unusedSimpArgs false
set_option maxRecDepth 100000
namespace Go.Proofs.YtbaemhkfmddakaaGreat.Mo
open Go Go.Proofs.YtbaemhkfmddakaaGreat.Sy
structure Tomb where
  Begin : ByteArray
  End : ByteArray
  Seq : Int
def Tomb.enc (x : Tomb) : List _root_.Go.Value := [.string x.Begin, .string x.End, .int .u64 x.Seq]
def Tomb.eqb (x y : Tomb) : Bool := sEq x.Begin y.Begin && (sEq x.End y.End && ((x.Seq == y.Seq) && (true)))
structure Op where
  Kind : Int
  Key : ByteArray
  Value : ByteArray
def Op.enc (x : Op) : List _root_.Go.Value := [.int .i64 x.Kind, .string x.Key, .string x.Value]
def Op.eqb (x y : Op) : Bool := (x.Kind == y.Kind) && (sEq x.Key y.Key && (sEq x.Value y.Value && (true)))
structure tomb_Set where
  tombs : (List Tomb)
  made : Bool
structure IKey where
  Key : ByteArray
  Seq : Int
  Kind : Int
def IKey.enc (x : IKey) : List _root_.Go.Value := [.string x.Key, .int .u64 x.Seq, .int .i64 x.Kind]
def IKey.eqb (x y : IKey) : Bool := sEq x.Key y.Key && ((x.Seq == y.Seq) && ((x.Kind == y.Kind) && (true)))
structure St132 where
  e0 : Int
  e1 : Int
  e2 : Int
  e3 : Int
  e4 : Int
  e5 : Int
  e6 : Int
  e7 : Int
  e8 : Int
  e9 : Int
  e10 : Int
  e11 : Int
def St132.l (x : St132) : List Int := [x.e0, x.e1, x.e2, x.e3, x.e4, x.e5, x.e6, x.e7, x.e8, x.e9, x.e10, x.e11]
def St132.ofl (l : List Int) : St132 := ⟨l.getD 0 0, l.getD 1 0, l.getD 2 0, l.getD 3 0, l.getD 4 0, l.getD 5 0, l.getD 6 0, l.getD 7 0, l.getD 8 0, l.getD 9 0, l.getD 10 0, l.getD 11 0⟩
def St132.get (x : St132) (i : Int) : Int := (St132.l x).getD (Int.toNat i) 0
def St132.put (x : St132) (i v : Int) : St132 := St132.ofl ((St132.l x).set (Int.toNat i) v)
theorem St132.l_ofl : ∀ l : List Int, l.length = 12 → (St132.ofl l).l = l
  | [a0, a1, a2, a3, a4, a5, a6, a7, a8, a9, a10, a11], _ => rfl
theorem St132.l_put {x y : St132} {i v : Int} (h : some (St132.put x i v) = some y) : y.l = x.l.set (Int.toNat i) v := by
  obtain rfl := Option.some.inj h
  exact St132.l_ofl _ (by rw [List.length_set]; rfl)
def St132.enc (x : St132) : List _root_.Go.Value := [.int .i32 x.e0, .int .i32 x.e1, .int .i32 x.e2, .int .i32 x.e3, .int .i32 x.e4, .int .i32 x.e5, .int .i32 x.e6, .int .i32 x.e7, .int .i32 x.e8, .int .i32 x.e9, .int .i32 x.e10, .int .i32 x.e11]
def St132.eqb (x y : St132) : Bool := (x.e0 == y.e0) && ((x.e1 == y.e1) && ((x.e2 == y.e2) && ((x.e3 == y.e3) && ((x.e4 == y.e4) && ((x.e5 == y.e5) && ((x.e6 == y.e6) && ((x.e7 == y.e7) && ((x.e8 == y.e8) && ((x.e9 == y.e9) && ((x.e10 == y.e10) && ((x.e11 == y.e11) && (true))))))))))))
structure skip_node_string where
  key : IKey
  value : ByteArray
  height : Int
  next_ : St132
  prev : Int
def skip_node_string.enc (x : skip_node_string) : List _root_.Go.Value := [.string x.key.Key, .int .u64 x.key.Seq, .int .i64 x.key.Kind, .string x.value, .int .i64 x.height, .int .i32 x.next_.e0, .int .i32 x.next_.e1, .int .i32 x.next_.e2, .int .i32 x.next_.e3, .int .i32 x.next_.e4, .int .i32 x.next_.e5, .int .i32 x.next_.e6, .int .i32 x.next_.e7, .int .i32 x.next_.e8, .int .i32 x.next_.e9, .int .i32 x.next_.e10, .int .i32 x.next_.e11, .int .i32 x.prev]
def skip_node_string.eqb (x y : skip_node_string) : Bool := IKey.eqb x.key y.key && (sEq x.value y.value && ((x.height == y.height) && (St132.eqb x.next_ y.next_ && ((x.prev == y.prev) && (true)))))
structure skip_List_string where
  nodes : (List skip_node_string)
  most : Int
  height : Int
  last : Int
structure mem_Table where
  made : Bool
  frozen : Bool
  log : Int
  list : skip_List_string
  tombs : tomb_Set
  size : Int
  n : Int
  low : Int
  high : Int
structure St135 where
  e0 : Int
  e1 : Int
  e2 : Int
  e3 : Int
  e4 : Int
  e5 : Int
  e6 : Int
  e7 : Int
  e8 : Int
  e9 : Int
  e10 : Int
  e11 : Int
def St135.l (x : St135) : List Int := [x.e0, x.e1, x.e2, x.e3, x.e4, x.e5, x.e6, x.e7, x.e8, x.e9, x.e10, x.e11]
def St135.ofl (l : List Int) : St135 := ⟨l.getD 0 0, l.getD 1 0, l.getD 2 0, l.getD 3 0, l.getD 4 0, l.getD 5 0, l.getD 6 0, l.getD 7 0, l.getD 8 0, l.getD 9 0, l.getD 10 0, l.getD 11 0⟩
def St135.get (x : St135) (i : Int) : Int := (St135.l x).getD (Int.toNat i) 0
def St135.put (x : St135) (i v : Int) : St135 := St135.ofl ((St135.l x).set (Int.toNat i) v)
theorem St135.l_ofl : ∀ l : List Int, l.length = 12 → (St135.ofl l).l = l
  | [a0, a1, a2, a3, a4, a5, a6, a7, a8, a9, a10, a11], _ => rfl
theorem St135.l_put {x y : St135} {i v : Int} (h : some (St135.put x i v) = some y) : y.l = x.l.set (Int.toNat i) v := by
  obtain rfl := Option.some.inj h
  exact St135.l_ofl _ (by rw [List.length_set]; rfl)
def St135.enc (x : St135) : List _root_.Go.Value := [.int .i64 x.e0, .int .i64 x.e1, .int .i64 x.e2, .int .i64 x.e3, .int .i64 x.e4, .int .i64 x.e5, .int .i64 x.e6, .int .i64 x.e7, .int .i64 x.e8, .int .i64 x.e9, .int .i64 x.e10, .int .i64 x.e11]
def St135.eqb (x y : St135) : Bool := (x.e0 == y.e0) && ((x.e1 == y.e1) && ((x.e2 == y.e2) && ((x.e3 == y.e3) && ((x.e4 == y.e4) && ((x.e5 == y.e5) && ((x.e6 == y.e6) && ((x.e7 == y.e7) && ((x.e8 == y.e8) && ((x.e9 == y.e9) && ((x.e10 == y.e10) && ((x.e11 == y.e11) && (true))))))))))))
structure Entry where
  Key : ByteArray
  Seq : Int
  Kind : Int
  Value : ByteArray
def Entry.enc (x : Entry) : List _root_.Go.Value := [.string x.Key, .int .u64 x.Seq, .int .i64 x.Kind, .string x.Value]
def Entry.eqb (x y : Entry) : Bool := sEq x.Key y.Key && ((x.Seq == y.Seq) && ((x.Kind == y.Kind) && (sEq x.Value y.Value && (true))))
structure Fragment where
  Begin : ByteArray
  End : ByteArray
  Seqs : (List Int)
structure L10_Act where
  Kind : Int
  Height : Int
  Seq : Int
  Op : Op
def L10_Act.enc (x : L10_Act) : List _root_.Go.Value := [.int .i64 x.Kind, .int .i64 x.Height, .int .u64 x.Seq, .int .i64 x.Op.Kind, .string x.Op.Key, .string x.Op.Value]
def L10_Act.eqb (x y : L10_Act) : Bool := (x.Kind == y.Kind) && ((x.Height == y.Height) && ((x.Seq == y.Seq) && (Op.eqb x.Op y.Op && (true))))
structure mem_Cursor where
  t : mem_Table
  where_ : Int
  n : Int
def tomb_Valid (a0 : Tomb) : Option Bool := some (((((!sEq a0.Begin (ByteArray.mk #[])) && (decide ((a0.Begin.size : Int) ≤ 1024))) && (decide ((a0.End.size : Int) ≤ 1025))) && (sLt a0.Begin a0.End)) && (decide (a0.Seq ≤ 72057594037927935)))
def tomb_valid.l0 (a0 : (List Tomb)) : Nat → (List Tomb) → Int → Option (List Tomb)
  | 0, _, _ => none
  | k_56 + 1, l_44, i_45 => if (decide (i_45 < (a0.length : Int))) = true then (Jn (fun (l_58 : (List Tomb)) => tomb_valid.l0 a0 k_56 l_58 (w64 (i_45 + 1))) (fun J_60 => (idx a0 i_45).bind fun x154 => (tomb_Valid x154).bind fun r158 => if r158 = true then ((push 5629499534059 l_44 x154).bind fun l163 => J_60 l163) else (J_60 l_44))) else (some l_44)
def tomb_valid (k : Nat) (a0 : (List Tomb)) : Option (List Tomb) := tomb_valid.l0 a0 k ([]) 0
def mem_may (a0 : Op) : Option Bool := if ((decide ((a0.Key.size : Int) < 1)) || (decide (1024 < (a0.Key.size : Int)))) = true then (some false) else (if (a0.Kind == 0) = true then (some (sEq a0.Value (ByteArray.mk #[]))) else (if (a0.Kind == 1) = true then (some (decide ((a0.Value.size : Int) ≤ 65536))) else (if (a0.Kind == 2) = true then (some ((decide ((a0.Value.size : Int) ≤ 1024)) && (sLt a0.Key a0.Value))) else (some false))))
def slices_Clone_Tomb (a0 : (List Tomb)) : Option (List Tomb) := (pushN 5629499534059 ([]) a0).bind fun l7 => some l7
def tomb_Set_Tombs (a0 : tomb_Set) : Option (List Tomb) := (slices_Clone_Tomb a0.tombs).bind fun r4 => some r4
def mem_Table_addTomb_1 (a0 : Tomb) (c0 : Tomb) : Option Bool := some ((sEq a0.Begin c0.Begin) && (a0.Seq == c0.Seq))
def slices_IndexFunc_Tomb.l0 (a0 : (List Tomb)) (a1 : (Tomb → Option Bool)) : Nat → Int → Option Int
  | 0, _ => none
  | k_16 + 1, i_12 => if (decide (i_12 < (a0.length : Int))) = true then ((idx a0 i_12).bind fun x57 => (a1 x57).bind fun r58 => if r58 = true then (some i_12) else (slices_IndexFunc_Tomb.l0 a0 a1 k_16 (w64 (i_12 + 1)))) else (some (-1))
def slices_IndexFunc_Tomb (k : Nat) (a0 : (List Tomb)) (a1 : (Tomb → Option Bool)) : Option Int := slices_IndexFunc_Tomb.l0 a0 a1 k 0
def slices_ContainsFunc_Tomb (k : Nat) (a0 : (List Tomb)) (a1 : (Tomb → Option Bool)) : Option Bool := (slices_IndexFunc_Tomb k a0 a1).bind fun r1 => some (decide (0 ≤ r1))
def tomb_Set_Add (a0 : tomb_Set) (a1 : Tomb) : Option (Int × tomb_Set) := if (!a0.made) = true then (some (1, a0)) else ((tomb_Valid a1).bind fun r12 => if (!r12) = true then (some (2, a0)) else ((push 5629499534059 a0.tombs a1).bind fun l19 => some (0, (⟨l19, a0.made⟩ : tomb_Set))))
def mem_Table_addTomb (k : Nat) (a0 : mem_Table) (a1 : Tomb) : Option (Int × mem_Table) := (tomb_Set_Tombs a0.tombs).bind fun r5 => (slices_ContainsFunc_Tomb k r5 (fun x0 => mem_Table_addTomb_1 x0 a1)).bind fun r9 => if r9 = true then (some (81, a0)) else ((tomb_Set_Add a0.tombs a1).bind fun r14 => some (r14.1, (⟨a0.made, a0.frozen, a0.log, a0.list, r14.2, a0.size, a0.n, a0.low, a0.high⟩ : mem_Table)))
def skip_List_string_none (a0 : skip_List_string) : Option Bool := some ((a0.nodes.length : Int) == 0)
def ikey_isKind (a0 : Int) : Option Bool := Jn (fun (b_4 : Bool) => if b_4 = true then (some true) else (some false)) (fun J_6 => if (a0 == 0) = true then (J_6 (a0 == 0)) else (if (a0 == 1) = true then (J_6 (a0 == 1)) else (if (a0 == 2) = true then (J_6 (a0 == 2)) else (J_6 (a0 == 255)))))
def ikey_Valid (a0 : IKey) : Option Bool := Jn (fun (b_1 : Bool) => some b_1) (fun J_2 => if (((!sEq a0.Key (ByteArray.mk #[])) && (decide ((a0.Key.size : Int) ≤ 1024))) && (decide (a0.Seq ≤ 72057594037927935))) = true then ((ikey_isKind a0.Kind).bind fun r8 => J_2 r8) else (J_2 false))
def internal_bytealg_CompareString (a0 : ByteArray) (a1 : ByteArray) : Option Int := some (ordS a0 a1)
def strings_Compare (a0 : ByteArray) (a1 : ByteArray) : Option Int := (internal_bytealg_CompareString a0 a1).bind fun r1 => some r1
def cmp_isNaN_uint64 (a0 : Int) : Option Bool := some (a0 != a0)
def cmp_Compare_uint64 (a0 : Int) (a1 : Int) : Option Int := (cmp_isNaN_uint64 a0).bind fun r1 => (cmp_isNaN_uint64 a1).bind fun r3 => if r1 = true then (if r3 = true then (some 0) else (some (-1))) else (if r3 = true then (some 1) else (if (decide (a0 < a1)) = true then (some (-1)) else (if (decide (a1 < a0)) = true then (some 1) else (some 0))))
def cmp_isNaN_int (a0 : Int) : Option Bool := some (a0 != a0)
def cmp_Compare_int (a0 : Int) (a1 : Int) : Option Int := (cmp_isNaN_int a0).bind fun r1 => (cmp_isNaN_int a1).bind fun r3 => if r1 = true then (if r3 = true then (some 0) else (some (-1))) else (if r3 = true then (some 1) else (if (decide (a0 < a1)) = true then (some (-1)) else (if (decide (a1 < a0)) = true then (some 1) else (some 0))))
def cmp_Or_int.l0 (a0 : (List Int)) : Nat → Int → Option Int
  | 0, _ => none
  | k_16 + 1, i_12 => if (decide (i_12 < (a0.length : Int))) = true then ((idx a0 i_12).bind fun x35 => if (x35 != 0) = true then (some x35) else (cmp_Or_int.l0 a0 k_16 (w64 (i_12 + 1)))) else (some 0)
def cmp_Or_int (k : Nat) (a0 : (List Int)) : Option Int := cmp_Or_int.l0 a0 k 0
def ikey_Compare (k : Nat) (a0 : IKey) (a1 : IKey) : Option Int := (strings_Compare a0.Key a1.Key).bind fun r5 => (cmp_Compare_uint64 a1.Seq a0.Seq).bind fun r7 => (cmp_Compare_int a1.Kind a0.Kind).bind fun r10 => (cmp_Or_int k ([r5, r7, r10])).bind fun r16 => some r16
def skip_List_string_trail.l0 (a0 : skip_List_string) (a1 : IKey) : Nat → Int → Int → Int → Int → Int → Int → Int → Int → Int → Int → Int → Int → Int → Int → Option St135
  | 0, _, _, _, _, _, _, _, _, _, _, _, _, _, _ => none
  | k_130 + 1, i_94, i_95, i_96, i_97, i_98, i_99, i_100, i_101, i_102, i_103, i_104, i_105, i_106, i_107 => if (decide (0 ≤ i_107)) = true then ((idx a0.nodes i_106).bind fun x132 => if 0 ≤ i_107 ∧ i_107 < (12 : Int) then (Jn (fun (b_134 : Bool) => if b_134 = true then (skip_List_string_trail.l0 a0 a1 k_130 i_94 i_95 i_96 i_97 i_98 i_99 i_100 i_101 i_102 i_103 i_104 i_105 (w64 (St132.get x132.next_ i_107)) i_107) else ((some (St135.put (⟨i_94, i_95, i_96, i_97, i_98, i_99, i_100, i_101, i_102, i_103, i_104, i_105⟩ : St135) i_107 i_106)).bind fun y149 => skip_List_string_trail.l0 a0 a1 k_130 y149.e0 y149.e1 y149.e2 y149.e3 y149.e4 y149.e5 y149.e6 y149.e7 y149.e8 y149.e9 y149.e10 y149.e11 i_106 (w64 (i_107 - 1)))) (fun J_135 => if ((w64 (St132.get x132.next_ i_107)) != 0) = true then ((idx a0.nodes (w64 (St132.get x132.next_ i_107))).bind fun x151 => (ikey_Compare k_130 x151.key a1).bind fun r152 => J_135 (decide (r152 < 0))) else (J_135 false))) else none) else (some (⟨i_94, i_95, i_96, i_97, i_98, i_99, i_100, i_101, i_102, i_103, i_104, i_105⟩ : St135))
def skip_List_string_trail (k : Nat) (a0 : skip_List_string) (a1 : IKey) : Option St135 := skip_List_string_trail.l0 a0 a1 k 0 0 0 0 0 0 0 0 0 0 0 0 0 (w64 (a0.height - 1))
def skip_List_string_Before (k : Nat) (a0 : skip_List_string) (a1 : IKey) : Option Int := (skip_List_string_none a0).bind fun r6 => if r6 = true then (some 0) else ((skip_List_string_trail k a0 a1).bind fun r9 => some (St135.get r9 0))
def skip_List_string_Seek (k : Nat) (a0 : skip_List_string) (a1 : IKey) : Option Int := (skip_List_string_none a0).bind fun r6 => if r6 = true then (some 0) else ((skip_List_string_Before k a0 a1).bind fun r12 => (idx a0.nodes r12).bind fun x14 => some (w64 (St132.get x14.next_ 0)))
def skip_List_string_Insert.l0 (a0 : skip_List_string) (a1 : IKey) (a2 : ByteArray) (a3 : Int) (r40 : St135) : Nat → (List skip_node_string) → Int → Int → Int → Int → Int → Int → Int → Int → Int → Int → Int → Int → Int → Option (Int × skip_List_string)
  | 0, _, _, _, _, _, _, _, _, _, _, _, _, _, _ => none
  | k_100 + 1, l_70, i_71, i_72, i_73, i_74, i_75, i_76, i_77, i_78, i_79, i_80, i_81, i_82, i_83 => if (decide (i_83 < a3)) = true then (if 0 ≤ i_83 ∧ i_83 < (12 : Int) then ((idx l_70 (St135.get r40 i_83)).bind fun x190 => (some (St132.put (⟨i_71, i_72, i_73, i_74, i_75, i_76, i_77, i_78, i_79, i_80, i_81, i_82⟩ : St132) i_83 (St132.get x190.next_ i_83))).bind fun y192 => (idx l_70 (St135.get r40 i_83)).bind fun x195 => (some (St132.put x195.next_ i_83 (w32 (a0.nodes.length : Int)))).bind fun y197 => (upd l_70 (St135.get r40 i_83) (⟨x195.key, x195.value, x195.height, y197, x195.prev⟩ : skip_node_string)).bind fun l199 => skip_List_string_Insert.l0 a0 a1 a2 a3 r40 k_100 l199 y192.e0 y192.e1 y192.e2 y192.e3 y192.e4 y192.e5 y192.e6 y192.e7 y192.e8 y192.e9 y192.e10 y192.e11 (w64 (i_83 + 1))) else none) else ((push 2010535547779 l_70 (⟨a1, a2, a3, (⟨i_71, i_72, i_73, i_74, i_75, i_76, i_77, i_78, i_79, i_80, i_81, i_82⟩ : St132), w32 (St135.get r40 0)⟩ : skip_node_string)).bind fun l205 => Jn (fun (l_101 : (List skip_node_string)) (i_102 : Int) => some (0, (⟨l_101, a0.most, maxI a0.height a3, i_102⟩ : skip_List_string))) (fun J_104 => if ((w64 (St132.get (⟨i_71, i_72, i_73, i_74, i_75, i_76, i_77, i_78, i_79, i_80, i_81, i_82⟩ : St132) 0)) != 0) = true then ((idx l205 (w64 (St132.get (⟨i_71, i_72, i_73, i_74, i_75, i_76, i_77, i_78, i_79, i_80, i_81, i_82⟩ : St132) 0))).bind fun x218 => (upd l205 (w64 (St132.get (⟨i_71, i_72, i_73, i_74, i_75, i_76, i_77, i_78, i_79, i_80, i_81, i_82⟩ : St132) 0)) (⟨x218.key, x218.value, x218.height, x218.next_, w32 (a0.nodes.length : Int)⟩ : skip_node_string)).bind fun l219 => J_104 l219 a0.last) else (J_104 l205 (a0.nodes.length : Int))))
def skip_List_string_Insert (k : Nat) (a0 : skip_List_string) (a1 : IKey) (a2 : ByteArray) (a3 : Int) : Option (Int × skip_List_string) := (skip_List_string_none a0).bind fun r11 => if r11 = true then (some (1, a0)) else ((ikey_Valid a1).bind fun r14 => if (!r14) = true then (some (30, a0)) else (if ((decide (a3 < 1)) || (decide (12 < a3))) = true then (some (2, a0)) else ((skip_List_string_Seek k a0 a1).bind fun r28 => Jn (fun (b_4 : Bool) => if b_4 = true then (some (81, a0)) else (if (decide (a0.most < (a0.nodes.length : Int))) = true then (some (82, a0)) else ((skip_List_string_trail k a0 a1).bind fun r40 => skip_List_string_Insert.l0 a0 a1 a2 a3 r40 k a0.nodes 0 0 0 0 0 0 0 0 0 0 0 0 0))) (fun J_5 => if (r28 != 0) = true then ((idx a0.nodes r28).bind fun x222 => J_5 (IKey.eqb x222.key a1)) else (J_5 false)))))
def mem_Table_Add (k : Nat) (a0 : mem_Table) (a1 : Int) (a2 : Op) (a3 : Int) : Option (Int × mem_Table) := if (!a0.made) = true then (some (1, a0)) else (if a0.frozen = true then (some (230, a0)) else (if ((decide (a1 < 1)) || (decide (72057594037927935 < a1))) = true then (some (2, a0)) else ((mem_may a2).bind fun r24 => if (!r24) = true then (some (40, a0)) else (if ((decide (a3 < 1)) || (decide (12 < a3))) = true then (some (2, a0)) else (Jn (fun (x_1 : mem_Table) (i_2 : Int) => if (i_2 != 0) = true then (some (i_2, x_1)) else (Jn (fun (i_7 : Int) => some (0, (⟨x_1.made, x_1.frozen, x_1.log, x_1.list, x_1.tombs, w64 (x_1.size + (w64 ((w64 (16 + (a2.Key.size : Int))) + (a2.Value.size : Int)))), w64 (x_1.n + 1), i_7, maxI x_1.high a1⟩ : mem_Table))) (fun J_9 => if ((x_1.n == 0) || (decide (a1 < x_1.low))) = true then (J_9 a1) else (J_9 x_1.low)))) (fun J_4 => if (a2.Kind == 2) = true then ((mem_Table_addTomb k a0 (⟨a2.Key, a2.Value, a1⟩ : Tomb)).bind fun r56 => J_4 r56.2 r56.1) else ((skip_List_string_Insert k a0.list (⟨a2.Key, a1, a2.Kind⟩ : IKey) a2.Value a3).bind fun r60 => J_4 (⟨a0.made, a0.frozen, a0.log, r60.2, a0.tombs, a0.size, a0.n, a0.low, a0.high⟩ : mem_Table) r60.1)))))))
def ikey_At (a0 : ByteArray) (a1 : Int) : Option IKey := some (⟨a0, minI a1 72057594037927935, 255⟩ : IKey)
def skip_List_string_has (a0 : skip_List_string) (a1 : Int) : Option Bool := (skip_List_string_none a0).bind fun r1 => some (((!r1) && (decide (1 ≤ a1))) && (decide (a1 < (a0.nodes.length : Int))))
def skip_List_string_Node (a0 : skip_List_string) (a1 : Int) : Option (IKey × ByteArray × Bool) := (skip_List_string_has a0 a1).bind fun r7 => if (!r7) = true then (some ((⟨(ByteArray.mk #[]), 0, 0⟩ : IKey), (ByteArray.mk #[]), false)) else ((idx a0.nodes a1).bind fun x15 => (idx a0.nodes a1).bind fun x16 => some (x15.key, x16.value, true))
def mem_Table_entry (a0 : mem_Table) (a1 : Int) : Option Entry := (skip_List_string_Node a0.list a1).bind fun r10 => some (⟨r10.1.Key, r10.1.Seq, r10.1.Kind, r10.2.1⟩ : Entry)
def mem_Table_newest (k : Nat) (a0 : mem_Table) (a1 : ByteArray) (a2 : Int) : Option (Entry × Bool) := (ikey_At a1 a2).bind fun r10 => (skip_List_string_Seek k a0.list r10).bind fun r12 => if (r12 == 0) = true then (some ((⟨(ByteArray.mk #[]), 0, 0, (ByteArray.mk #[])⟩ : Entry), false)) else ((mem_Table_entry a0 r12).bind fun r20 => if (!sEq r20.Key a1) = true then (some ((⟨(ByteArray.mk #[]), 0, 0, (ByteArray.mk #[])⟩ : Entry), false)) else (some (r20, true)))
def math_bits_Len32 (a0 : Int) : Option Int := Jn (fun (i_1 : Int) (i_2 : Int) => Jn (fun (i_5 : Int) (i_6 : Int) => (sidx (ByteArray.mk #[0, 1, 2, 2, 3, 3, 3, 3, 4, 4, 4, 4, 4, 4, 4, 4, 5, 5, 5, 5, 5, 5, 5, 5, 5, 5, 5, 5, 5, 5, 5, 5, 6, 6, 6, 6, 6, 6, 6, 6, 6, 6, 6, 6, 6, 6, 6, 6, 6, 6, 6, 6, 6, 6, 6, 6, 6, 6, 6, 6, 6, 6, 6, 6, 7, 7, 7, 7, 7, 7, 7, 7, 7, 7, 7, 7, 7, 7, 7, 7, 7, 7, 7, 7, 7, 7, 7, 7, 7, 7, 7, 7, 7, 7, 7, 7, 7, 7, 7, 7, 7, 7, 7, 7, 7, 7, 7, 7, 7, 7, 7, 7, 7, 7, 7, 7, 7, 7, 7, 7, 7, 7, 7, 7, 7, 7, 7, 7, 8, 8, 8, 8, 8, 8, 8, 8, 8, 8, 8, 8, 8, 8, 8, 8, 8, 8, 8, 8, 8, 8, 8, 8, 8, 8, 8, 8, 8, 8, 8, 8, 8, 8, 8, 8, 8, 8, 8, 8, 8, 8, 8, 8, 8, 8, 8, 8, 8, 8, 8, 8, 8, 8, 8, 8, 8, 8, 8, 8, 8, 8, 8, 8, 8, 8, 8, 8, 8, 8, 8, 8, 8, 8, 8, 8, 8, 8, 8, 8, 8, 8, 8, 8, 8, 8, 8, 8, 8, 8, 8, 8, 8, 8, 8, 8, 8, 8, 8, 8, 8, 8, 8, 8, 8, 8, 8, 8, 8, 8, 8, 8, 8, 8, 8, 8, 8, 8, 8, 8, 8, 8, 8, 8, 8, 8, 8, 8]) (wu8 i_5)).bind fun n3 => some (w64 (i_6 + (w64 n3)))) (fun J_8 => if (decide (256 ≤ i_1)) = true then (J_8 (i_1 / 2 ^ (Int.toNat 8)) (w64 (i_2 + 8))) else (J_8 i_1 i_2))) (fun J_4 => if (decide (65536 ≤ a0)) = true then (J_4 (a0 / 2 ^ (Int.toNat 16)) 16) else (J_4 a0 0))
def math_bits_Len64 (a0 : Int) : Option Int := Jn (fun (i_1 : Int) (i_2 : Int) => Jn (fun (i_5 : Int) (i_6 : Int) => Jn (fun (i_9 : Int) (i_10 : Int) => (sidx (ByteArray.mk #[0, 1, 2, 2, 3, 3, 3, 3, 4, 4, 4, 4, 4, 4, 4, 4, 5, 5, 5, 5, 5, 5, 5, 5, 5, 5, 5, 5, 5, 5, 5, 5, 6, 6, 6, 6, 6, 6, 6, 6, 6, 6, 6, 6, 6, 6, 6, 6, 6, 6, 6, 6, 6, 6, 6, 6, 6, 6, 6, 6, 6, 6, 6, 6, 7, 7, 7, 7, 7, 7, 7, 7, 7, 7, 7, 7, 7, 7, 7, 7, 7, 7, 7, 7, 7, 7, 7, 7, 7, 7, 7, 7, 7, 7, 7, 7, 7, 7, 7, 7, 7, 7, 7, 7, 7, 7, 7, 7, 7, 7, 7, 7, 7, 7, 7, 7, 7, 7, 7, 7, 7, 7, 7, 7, 7, 7, 7, 7, 8, 8, 8, 8, 8, 8, 8, 8, 8, 8, 8, 8, 8, 8, 8, 8, 8, 8, 8, 8, 8, 8, 8, 8, 8, 8, 8, 8, 8, 8, 8, 8, 8, 8, 8, 8, 8, 8, 8, 8, 8, 8, 8, 8, 8, 8, 8, 8, 8, 8, 8, 8, 8, 8, 8, 8, 8, 8, 8, 8, 8, 8, 8, 8, 8, 8, 8, 8, 8, 8, 8, 8, 8, 8, 8, 8, 8, 8, 8, 8, 8, 8, 8, 8, 8, 8, 8, 8, 8, 8, 8, 8, 8, 8, 8, 8, 8, 8, 8, 8, 8, 8, 8, 8, 8, 8, 8, 8, 8, 8, 8, 8, 8, 8, 8, 8, 8, 8, 8, 8, 8, 8, 8, 8, 8, 8, 8, 8]) (wu8 i_9)).bind fun n4 => some (w64 (i_10 + (w64 n4)))) (fun J_12 => if (decide (256 ≤ i_5)) = true then (J_12 (i_5 / 2 ^ (Int.toNat 8)) (w64 (i_6 + 8))) else (J_12 i_5 i_6))) (fun J_8 => if (decide (65536 ≤ i_1)) = true then (J_8 (i_1 / 2 ^ (Int.toNat 16)) (w64 (i_2 + 16))) else (J_8 i_1 i_2))) (fun J_4 => if (decide (4294967296 ≤ a0)) = true then (J_4 (a0 / 2 ^ (Int.toNat 32)) 32) else (J_4 a0 0))
def math_bits_Len (a0 : Int) : Option Int := (math_bits_Len64 a0).bind fun r1 => some r1
def cmp_isNaN_string (a0 : ByteArray) : Option Bool := some (!sEq a0 a0)
def cmp_Less_string (a0 : ByteArray) (a1 : ByteArray) : Option Bool := (cmp_isNaN_string a0).bind fun r1 => Jn (fun (b_1 : Bool) => some (b_1 || (sLt a0 a1))) (fun J_2 => if r1 = true then ((cmp_isNaN_string a1).bind fun r7 => J_2 (!r7)) else (J_2 false))
def slices_nextPowerOfTwo (a0 : Int) : Option Int := (math_bits_Len (wu64 a0)).bind fun r1 => (shlO .u64 1 r1).bind fun n3 => some n3
def slices_xorshift_Next (a0 : Int) : Option (Int × Int) := some ((bits .xor .u64 (bits .xor .u64 (bits .xor .u64 a0 (wu64 (a0 * 2 ^ (Int.toNat 13)))) ((bits .xor .u64 a0 (wu64 (a0 * 2 ^ (Int.toNat 13)))) / 2 ^ (Int.toNat 7))) (wu64 ((bits .xor .u64 (bits .xor .u64 a0 (wu64 (a0 * 2 ^ (Int.toNat 13)))) ((bits .xor .u64 a0 (wu64 (a0 * 2 ^ (Int.toNat 13)))) / 2 ^ (Int.toNat 7))) * 2 ^ (Int.toNat 17)))), (bits .xor .u64 (bits .xor .u64 (bits .xor .u64 a0 (wu64 (a0 * 2 ^ (Int.toNat 13)))) ((bits .xor .u64 a0 (wu64 (a0 * 2 ^ (Int.toNat 13)))) / 2 ^ (Int.toNat 7))) (wu64 ((bits .xor .u64 (bits .xor .u64 a0 (wu64 (a0 * 2 ^ (Int.toNat 13)))) ((bits .xor .u64 a0 (wu64 (a0 * 2 ^ (Int.toNat 13)))) / 2 ^ (Int.toNat 7))) * 2 ^ (Int.toNat 17)))))
def slices_Sort_string (k : Nat) (a0 : (List ByteArray)) : Option (List ByteArray) := if a0.length ≤ 1152921504606846976 then some (sortI a0) else none
def slices_Compact_string.l1 (a0 : (List ByteArray)) (i_468 : Int) (J_674 : (List ByteArray) → Int → Option (List ByteArray)) : Nat → (List ByteArray) → Int → Int → Option (List ByteArray)
  | 0, _, _, _ => none
  | k_696 + 1, l_684, i_685, i_686 => (cut l_684 i_468 (a0.length : Int)).bind fun l1534 => if (decide (i_686 < (l1534.length : Int))) = true then (Jn (fun (l_697 : (List ByteArray)) (i_698 : Int) => slices_Compact_string.l1 a0 i_468 J_674 k_696 l_697 i_698 (w64 (i_686 + 1))) (fun J_700 => (idx l1534 i_686).bind fun x1544 => (idx l1534 (w64 (i_686 - 1))).bind fun x1545 => if (!sEq x1544 x1545) = true then ((idx l1534 i_686).bind fun x1548 => (idx l_684 i_685).bind fun x1549 => (upd l_684 i_685 x1548).bind fun l1550 => J_700 l1550 (w64 (i_685 + 1))) else (J_700 l_684 i_685))) else (J_674 l_684 i_685)
def slices_Compact_string.l0 (a0 : (List ByteArray)) : Nat → Int → Option (List ByteArray)
  | 0, _ => none
  | k_586 + 1, i_468 => if (decide (i_468 < (a0.length : Int))) = true then (Jn (slices_Compact_string.l0 a0 k_586 (w64 (i_468 + 1))) (fun J_644 => (idx a0 i_468).bind fun x1424 => (idx a0 (w64 (i_468 - 1))).bind fun x1425 => if (sEq x1424 x1425) = true then ((cut a0 i_468 (a0.length : Int)).bind fun l1428 => Jn (fun (l_671 : (List ByteArray)) (i_672 : Int) => (cut l_671 i_672 (l_671.length : Int)).bind fun l1489 => (cut (clr l_671 (Int.toNat i_672) (Int.toNat (l_671.length : Int)) (ByteArray.mk #[])) 0 i_672).bind fun l1491 => some l1491) (fun J_674 => slices_Compact_string.l1 a0 i_468 J_674 k_586 a0 i_468 1)) else (J_644))) else (some a0)
def slices_Compact_string (k : Nat) (a0 : (List ByteArray)) : Option (List ByteArray) := if (decide ((a0.length : Int) < 2)) = true then (some a0) else (slices_Compact_string.l0 a0 k 1)
def tomb_unlike_string (k : Nat) (a0 : (List ByteArray)) : Option (List ByteArray) := (slices_Sort_string k a0).bind fun r1 => (slices_Compact_string k r1).bind fun r4 => some r4
def cmp_Less_uint64 (a0 : Int) (a1 : Int) : Option Bool := (cmp_isNaN_uint64 a0).bind fun r1 => Jn (fun (b_1 : Bool) => some (b_1 || (decide (a0 < a1)))) (fun J_2 => if r1 = true then ((cmp_isNaN_uint64 a1).bind fun r7 => J_2 (!r7)) else (J_2 false))
def slices_insertionSortOrdered_uint64.l1 (a1 : Int) (J_166 : (List Int) → Option (List Int)) : Nat → (List Int) → Int → Option (List Int)
  | 0, _, _ => none
  | k_189 + 1, l_177, i_178 => Jn (fun (b_193 : Bool) => if b_193 = true then ((idx l_177 (w64 (i_178 - 1))).bind fun x787 => (idx l_177 i_178).bind fun x788 => (idx l_177 i_178).bind fun x789 => (upd l_177 i_178 x787).bind fun l791 => (idx l791 (w64 (i_178 - 1))).bind fun x793 => (upd l791 (w64 (i_178 - 1)) x788).bind fun l795 => slices_insertionSortOrdered_uint64.l1 a1 J_166 k_189 l795 (w64 (i_178 - 1))) else (J_166 l_177)) (fun J_194 => if (decide (a1 < i_178)) = true then ((idx l_177 i_178).bind fun x798 => (idx l_177 (w64 (i_178 - 1))).bind fun x799 => (cmp_Less_uint64 x798 x799).bind fun r800 => J_194 r800) else (J_194 false))
def slices_insertionSortOrdered_uint64.l0 (a1 : Int) (a2 : Int) : Nat → (List Int) → Int → Option (List Int)
  | 0, _, _ => none
  | k_134 + 1, l_67, i_68 => if (decide (i_68 < a2)) = true then (Jn (fun (l_164 : (List Int)) => slices_insertionSortOrdered_uint64.l0 a1 a2 k_134 l_164 (w64 (i_68 + 1))) (fun J_166 => slices_insertionSortOrdered_uint64.l1 a1 J_166 k_134 l_67 i_68)) else (some l_67)
def slices_insertionSortOrdered_uint64 (k : Nat) (a0 : (List Int)) (a1 : Int) (a2 : Int) : Option (List Int) := slices_insertionSortOrdered_uint64.l0 a1 a2 k a0 (w64 (a1 + 1))
def slices_siftDownOrdered_uint64.l0 (a2 : Int) (a3 : Int) : Nat → (List Int) → Int → Option (List Int)
  | 0, _, _ => none
  | k_32 + 1, l_16, i_17 => if (decide (a2 ≤ (w64 ((w64 (2 * i_17)) + 1)))) = true then (some l_16) else (Jn (fun (i_36 : Int) => (idx l_16 (w64 (a3 + i_17))).bind fun x116 => (idx l_16 (w64 (a3 + i_36))).bind fun x117 => (cmp_Less_uint64 x116 x117).bind fun r118 => if (!r118) = true then (some l_16) else ((idx l_16 (w64 (a3 + i_36))).bind fun x122 => (idx l_16 (w64 (a3 + i_17))).bind fun x123 => (idx l_16 (w64 (a3 + i_17))).bind fun x124 => (upd l_16 (w64 (a3 + i_17)) x122).bind fun l126 => (idx l126 (w64 (a3 + i_36))).bind fun x128 => (upd l126 (w64 (a3 + i_36)) x123).bind fun l130 => slices_siftDownOrdered_uint64.l0 a2 a3 k_32 l130 i_36)) (fun J_38 => Jn (fun (b_39 : Bool) => if b_39 = true then (J_38 (w64 ((w64 ((w64 (2 * i_17)) + 1)) + 1))) else (J_38 (w64 ((w64 (2 * i_17)) + 1)))) (fun J_40 => if (decide ((w64 ((w64 ((w64 (2 * i_17)) + 1)) + 1)) < a2)) = true then ((idx l_16 (w64 (a3 + (w64 ((w64 (2 * i_17)) + 1))))).bind fun x140 => (idx l_16 (w64 ((w64 (a3 + (w64 ((w64 (2 * i_17)) + 1)))) + 1))).bind fun x141 => (cmp_Less_uint64 x140 x141).bind fun r142 => J_40 r142) else (J_40 false))))
def slices_siftDownOrdered_uint64 (k : Nat) (a0 : (List Int)) (a1 : Int) (a2 : Int) (a3 : Int) : Option (List Int) := slices_siftDownOrdered_uint64.l0 a2 a3 k a0 a1
def slices_heapSortOrdered_uint64.l1 (a1 : Int) : Nat → (List Int) → Int → Option (List Int)
  | 0, _, _ => none
  | k_44 + 1, l_38, i_39 => if (decide (0 ≤ i_39)) = true then ((idx l_38 (w64 (a1 + i_39))).bind fun x125 => (idx l_38 a1).bind fun x126 => (idx l_38 a1).bind fun x127 => (upd l_38 a1 x125).bind fun l129 => (idx l129 (w64 (a1 + i_39))).bind fun x131 => (upd l129 (w64 (a1 + i_39)) x126).bind fun l133 => (slices_siftDownOrdered_uint64 k_44 l133 0 i_39 a1).bind fun r136 => slices_heapSortOrdered_uint64.l1 a1 k_44 r136 (w64 (i_39 - 1))) else (some l_38)
def slices_heapSortOrdered_uint64.l0 (a1 : Int) : Nat → (List Int) → Int → Int → Option (List Int)
  | 0, _, _, _ => none
  | k_32 + 1, l_24, i_25, i_26 => if (decide (0 ≤ i_26)) = true then ((slices_siftDownOrdered_uint64 k_32 l_24 i_26 i_25 a1).bind fun r46 => slices_heapSortOrdered_uint64.l0 a1 k_32 r46 i_25 (w64 (i_26 - 1))) else (slices_heapSortOrdered_uint64.l1 a1 k_32 l_24 (w64 (i_25 - 1)))
def slices_heapSortOrdered_uint64 (k : Nat) (a0 : (List Int)) (a1 : Int) (a2 : Int) : Option (List Int) := slices_heapSortOrdered_uint64.l0 a1 k a0 (w64 (a2 - a1)) (w64 (Int.tdiv (w64 ((w64 (a2 - a1)) - 1)) 2))
def slices_breakPatternsOrdered_uint64.l0 (a1 : Int) (r5 : Int) : Nat → (List Int) → Int → Int → Int → Option (List Int)
  | 0, _, _, _, _ => none
  | k_32 + 1, l_16, i_17, i_18, i_19 => if (decide (i_19 ≤ (w64 ((w64 (a1 + (w64 ((w64 (Int.tdiv i_17 4)) * 2)))) + 1)))) = true then ((slices_xorshift_Next i_18).bind fun r94 => Jn (fun (i_36 : Int) => (idx l_16 (w64 (a1 + i_36))).bind fun x98 => (idx l_16 i_19).bind fun x99 => (idx l_16 i_19).bind fun x100 => (upd l_16 i_19 x98).bind fun l102 => (idx l102 (w64 (a1 + i_36))).bind fun x104 => (upd l102 (w64 (a1 + i_36)) x99).bind fun l106 => slices_breakPatternsOrdered_uint64.l0 a1 r5 k_32 l106 i_17 r94.2 (w64 (i_19 + 1))) (fun J_38 => if (decide (i_17 ≤ (w64 (bits .and .u64 r94.1 (wu64 (r5 - 1)))))) = true then (J_38 (w64 ((w64 (bits .and .u64 r94.1 (wu64 (r5 - 1)))) - i_17))) else (J_38 (w64 (bits .and .u64 r94.1 (wu64 (r5 - 1))))))) else (some l_16)
def slices_breakPatternsOrdered_uint64 (k : Nat) (a0 : (List Int)) (a1 : Int) (a2 : Int) : Option (List Int) := if (decide (8 ≤ (w64 (a2 - a1)))) = true then ((slices_nextPowerOfTwo (w64 (a2 - a1))).bind fun r5 => slices_breakPatternsOrdered_uint64.l0 a1 r5 k a0 (w64 (a2 - a1)) (wu64 (w64 (a2 - a1))) (w64 ((w64 (a1 + (w64 ((w64 (Int.tdiv (w64 (a2 - a1)) 4)) * 2)))) - 1))) else (some a0)
def slices_order2Ordered_uint64 (a0 : (List Int)) (a1 : Int) (a2 : Int) (a3 : Int) : Option (Int × Int × Int) := (idx a0 a2).bind fun x8 => (idx a0 a1).bind fun x9 => (cmp_Less_uint64 x8 x9).bind fun r10 => if r10 = true then (some (a2, a1, w64 (a3 + 1))) else (some (a1, a2, a3))
def slices_medianOrdered_uint64 (a0 : (List Int)) (a1 : Int) (a2 : Int) (a3 : Int) (a4 : Int) : Option (Int × Int) := (slices_order2Ordered_uint64 a0 a1 a2 a4).bind fun r1 => (slices_order2Ordered_uint64 a0 r1.2.1 a3 r1.2.2).bind fun r4 => (slices_order2Ordered_uint64 a0 r1.1 r4.1 r4.2.2).bind fun r7 => some (r7.2.1, r7.2.2)
def slices_medianAdjacentOrdered_uint64 (a0 : (List Int)) (a1 : Int) (a2 : Int) : Option (Int × Int) := (slices_medianOrdered_uint64 a0 (w64 (a1 - 1)) a1 (w64 (a1 + 1)) a2).bind fun r1 => some (r1.1, r1.2)
def slices_choosePivotOrdered_uint64 (a0 : (List Int)) (a1 : Int) (a2 : Int) : Option (Int × Int) := Jn (fun (i_7 : Int) (i_8 : Int) => if (i_7 == 0) = true then (some (i_8, 1)) else (if (i_7 == 12) = true then (some (i_8, 2)) else (some (i_8, 0)))) (fun J_10 => if (decide (8 ≤ (w64 (a2 - a1)))) = true then (Jn (fun (i_11 : Int) (i_12 : Int) (i_13 : Int) (i_14 : Int) => (slices_medianOrdered_uint64 a0 i_12 i_13 i_14 i_11).bind fun r41 => J_10 r41.2 r41.1) (fun J_16 => if (decide (50 ≤ (w64 (a2 - a1)))) = true then ((slices_medianAdjacentOrdered_uint64 a0 (w64 (a1 + (w64 ((w64 (Int.tdiv (w64 (a2 - a1)) 4)) * 1)))) 0).bind fun r45 => (slices_medianAdjacentOrdered_uint64 a0 (w64 (a1 + (w64 ((w64 (Int.tdiv (w64 (a2 - a1)) 4)) * 2)))) r45.2).bind fun r48 => (slices_medianAdjacentOrdered_uint64 a0 (w64 (a1 + (w64 ((w64 (Int.tdiv (w64 (a2 - a1)) 4)) * 3)))) r48.2).bind fun r51 => J_16 r51.2 r45.1 r48.1 r51.1) else (J_16 0 (w64 (a1 + (w64 ((w64 (Int.tdiv (w64 (a2 - a1)) 4)) * 1)))) (w64 (a1 + (w64 ((w64 (Int.tdiv (w64 (a2 - a1)) 4)) * 2)))) (w64 (a1 + (w64 ((w64 (Int.tdiv (w64 (a2 - a1)) 4)) * 3))))))) else (J_10 0 (w64 (a1 + (w64 ((w64 (Int.tdiv (w64 (a2 - a1)) 4)) * 2))))))
def slices_reverseRangeOrdered_uint64.l0 : Nat → (List Int) → Int → Int → Option (List Int)
  | 0, _, _, _ => none
  | k_15 + 1, l_7, i_8, i_9 => if (decide (i_8 < i_9)) = true then ((idx l_7 i_9).bind fun x30 => (idx l_7 i_8).bind fun x31 => (idx l_7 i_8).bind fun x32 => (upd l_7 i_8 x30).bind fun l34 => (idx l34 i_9).bind fun x36 => (upd l34 i_9 x31).bind fun l38 => slices_reverseRangeOrdered_uint64.l0 k_15 l38 (w64 (i_8 + 1)) (w64 (i_9 - 1))) else (some l_7)
def slices_reverseRangeOrdered_uint64 (k : Nat) (a0 : (List Int)) (a1 : Int) (a2 : Int) : Option (List Int) := slices_reverseRangeOrdered_uint64.l0 k a0 a1 (w64 (a2 - 1))
def slices_partialInsertionSortOrdered_uint64.l3 (a2 : Int) (l_765 : (List Int)) (J_1083 : Int → Option (Bool × (List Int))) : Nat → Int → Option (Bool × (List Int))
  | 0, _ => none
  | k_1139 + 1, i_1129 => Jn (fun (b_1143 : Bool) => if b_1143 = true then (slices_partialInsertionSortOrdered_uint64.l3 a2 l_765 J_1083 k_1139 (w64 (i_1129 + 1))) else (J_1083 i_1129)) (fun J_1144 => if (decide (i_1129 < a2)) = true then ((idx l_765 i_1129).bind fun x6995 => (idx l_765 (w64 (i_1129 - 1))).bind fun x6996 => (cmp_Less_uint64 x6995 x6996).bind fun r6997 => J_1144 (!r6997)) else (J_1144 false))
def slices_partialInsertionSortOrdered_uint64.l2 (J_1097 : (List Int) → Option (Bool × (List Int))) : Nat → (List Int) → Int → Option (Bool × (List Int))
  | 0, _, _ => none
  | k_1119 + 1, l_1113, i_1114 => if (decide (1 ≤ i_1114)) = true then ((idx l_1113 i_1114).bind fun x6916 => (idx l_1113 (w64 (i_1114 - 1))).bind fun x6917 => (cmp_Less_uint64 x6916 x6917).bind fun r6918 => if (!r6918) = true then (J_1097 l_1113) else ((idx l_1113 (w64 (i_1114 - 1))).bind fun x6922 => (idx l_1113 i_1114).bind fun x6923 => (idx l_1113 i_1114).bind fun x6924 => (upd l_1113 i_1114 x6922).bind fun l6926 => (idx l6926 (w64 (i_1114 - 1))).bind fun x6928 => (upd l6926 (w64 (i_1114 - 1)) x6923).bind fun l6930 => slices_partialInsertionSortOrdered_uint64.l2 J_1097 k_1119 l6930 (w64 (i_1114 - 1)))) else (J_1097 l_1113)
def slices_partialInsertionSortOrdered_uint64.l1 (a2 : Int) (J_1054 : (List Int) → Int → Option (Bool × (List Int))) (i_1081 : Int) : Nat → (List Int) → Int → Option (Bool × (List Int))
  | 0, _, _ => none
  | k_1108 + 1, l_1102, i_1103 => if (decide (i_1103 < a2)) = true then ((idx l_1102 i_1103).bind fun x6771 => (idx l_1102 (w64 (i_1103 - 1))).bind fun x6772 => (cmp_Less_uint64 x6771 x6772).bind fun r6773 => if (!r6773) = true then (J_1054 l_1102 i_1081) else ((idx l_1102 (w64 (i_1103 - 1))).bind fun x6777 => (idx l_1102 i_1103).bind fun x6778 => (idx l_1102 i_1103).bind fun x6779 => (upd l_1102 i_1103 x6777).bind fun l6781 => (idx l6781 (w64 (i_1103 - 1))).bind fun x6783 => (upd l6781 (w64 (i_1103 - 1)) x6778).bind fun l6785 => slices_partialInsertionSortOrdered_uint64.l1 a2 J_1054 i_1081 k_1108 l6785 (w64 (i_1103 + 1)))) else (J_1054 l_1102 i_1081)
def slices_partialInsertionSortOrdered_uint64.l0 (a1 : Int) (a2 : Int) : Nat → (List Int) → Int → Int → Option (Bool × (List Int))
  | 0, _, _, _ => none
  | k_959 + 1, l_765, i_766, i_767 => if (decide (i_767 < 5)) = true then (Jn (fun (l_1051 : (List Int)) (i_1052 : Int) => slices_partialInsertionSortOrdered_uint64.l0 a1 a2 k_959 l_1051 i_1052 (w64 (i_767 + 1))) (fun J_1054 => Jn (fun (i_1081 : Int) => if (i_1081 == a2) = true then (some (true, l_765)) else (if (decide ((w64 (a2 - a1)) < 50)) = true then (some (false, l_765)) else ((idx l_765 (w64 (i_1081 - 1))).bind fun x6487 => (idx l_765 i_1081).bind fun x6488 => (idx l_765 i_1081).bind fun x6489 => (upd l_765 i_1081 x6487).bind fun l6491 => (idx l6491 (w64 (i_1081 - 1))).bind fun x6493 => (upd l6491 (w64 (i_1081 - 1)) x6488).bind fun l6495 => Jn (fun (l_1095 : (List Int)) => if (decide (2 ≤ (w64 (a2 - i_1081)))) = true then (slices_partialInsertionSortOrdered_uint64.l1 a2 J_1054 i_1081 k_959 l_1095 (w64 (i_1081 + 1))) else (J_1054 l_1095 i_1081)) (fun J_1097 => if (decide (2 ≤ (w64 (i_1081 - a1)))) = true then (slices_partialInsertionSortOrdered_uint64.l2 J_1097 k_959 l6495 (w64 (i_1081 - 1))) else (J_1097 l6495))))) (fun J_1083 => slices_partialInsertionSortOrdered_uint64.l3 a2 l_765 J_1083 k_959 i_766))) else (some (false, l_765))
def slices_partialInsertionSortOrdered_uint64 (k : Nat) (a0 : (List Int)) (a1 : Int) (a2 : Int) : Option (Bool × (List Int)) := slices_partialInsertionSortOrdered_uint64.l0 a1 a2 k a0 (w64 (a1 + 1)) 0
def slices_partitionEqualOrdered_uint64.l2 (a1 : Int) (l_462 : (List Int)) (i_464 : Int) (J_609 : Int → Option (Int × (List Int))) : Nat → Int → Option (Int × (List Int))
  | 0, _ => none
  | k_684 + 1, i_674 => Jn (fun (b_688 : Bool) => if b_688 = true then (slices_partitionEqualOrdered_uint64.l2 a1 l_462 i_464 J_609 k_684 (w64 (i_674 + 1))) else (J_609 i_674)) (fun J_689 => if (decide (i_674 ≤ i_464)) = true then ((idx l_462 a1).bind fun x1671 => (idx l_462 i_674).bind fun x1672 => (cmp_Less_uint64 x1671 x1672).bind fun r1673 => J_689 (!r1673)) else (J_689 false))
def slices_partitionEqualOrdered_uint64.l1 (a1 : Int) (l_462 : (List Int)) (i_607 : Int) (J_638 : Int → Option (Int × (List Int))) : Nat → Int → Option (Int × (List Int))
  | 0, _ => none
  | k_658 + 1, i_648 => Jn (fun (b_662 : Bool) => if b_662 = true then (slices_partitionEqualOrdered_uint64.l1 a1 l_462 i_607 J_638 k_658 (w64 (i_648 - 1))) else (J_638 i_648)) (fun J_663 => if (decide (i_607 ≤ i_648)) = true then ((idx l_462 a1).bind fun x1605 => (idx l_462 i_648).bind fun x1606 => (cmp_Less_uint64 x1605 x1606).bind fun r1607 => J_663 r1607) else (J_663 false))
def slices_partitionEqualOrdered_uint64.l0 (a1 : Int) : Nat → (List Int) → Int → Int → Option (Int × (List Int))
  | 0, _, _, _ => none
  | k_580 + 1, l_462, i_463, i_464 => Jn (fun (i_607 : Int) => Jn (fun (i_636 : Int) => if (decide (i_636 < i_607)) = true then (some (i_607, l_462)) else ((idx l_462 i_636).bind fun x1532 => (idx l_462 i_607).bind fun x1533 => (idx l_462 i_607).bind fun x1534 => (upd l_462 i_607 x1532).bind fun l1536 => (idx l1536 i_636).bind fun x1538 => (upd l1536 i_636 x1533).bind fun l1540 => slices_partitionEqualOrdered_uint64.l0 a1 k_580 l1540 (w64 (i_607 + 1)) (w64 (i_636 - 1)))) (fun J_638 => slices_partitionEqualOrdered_uint64.l1 a1 l_462 i_607 J_638 k_580 i_464)) (fun J_609 => slices_partitionEqualOrdered_uint64.l2 a1 l_462 i_464 J_609 k_580 i_463)
def slices_partitionEqualOrdered_uint64 (k : Nat) (a0 : (List Int)) (a1 : Int) (a2 : Int) (a3 : Int) : Option (Int × (List Int)) := (idx a0 a3).bind fun x1 => (idx a0 a1).bind fun x2 => (idx a0 a1).bind fun x3 => (upd a0 a1 x1).bind fun l5 => (idx l5 a3).bind fun x7 => (upd l5 a3 x2).bind fun l10 => slices_partitionEqualOrdered_uint64.l0 a1 k l10 (w64 (a1 + 1)) (w64 (a2 - 1))
def slices_partitionOrdered_uint64.l4 (a1 : Int) (l10 : (List Int)) (i_20 : Int) (J_67 : Int → Option (Int × Bool × (List Int))) : Nat → Int → Option (Int × Bool × (List Int))
  | 0, _ => none
  | k_779 + 1, i_769 => Jn (fun (b_783 : Bool) => if b_783 = true then (slices_partitionOrdered_uint64.l4 a1 l10 i_20 J_67 k_779 (w64 (i_769 - 1))) else (J_67 i_769)) (fun J_784 => if (decide (i_20 ≤ i_769)) = true then ((idx l10 i_769).bind fun x1933 => (idx l10 a1).bind fun x1934 => (cmp_Less_uint64 x1933 x1934).bind fun r1935 => J_784 (!r1935)) else (J_784 false))
def slices_partitionOrdered_uint64.l3 (a1 : Int) (l_531 : (List Int)) (i_533 : Int) (J_678 : Int → Option (Int × Bool × (List Int))) : Nat → Int → Option (Int × Bool × (List Int))
  | 0, _ => none
  | k_753 + 1, i_743 => Jn (fun (b_757 : Bool) => if b_757 = true then (slices_partitionOrdered_uint64.l3 a1 l_531 i_533 J_678 k_753 (w64 (i_743 + 1))) else (J_678 i_743)) (fun J_758 => if (decide (i_743 ≤ i_533)) = true then ((idx l_531 i_743).bind fun x1867 => (idx l_531 a1).bind fun x1868 => (cmp_Less_uint64 x1867 x1868).bind fun r1869 => J_758 r1869) else (J_758 false))
def slices_partitionOrdered_uint64.l2 (a1 : Int) (l_531 : (List Int)) (i_676 : Int) (J_707 : Int → Option (Int × Bool × (List Int))) : Nat → Int → Option (Int × Bool × (List Int))
  | 0, _ => none
  | k_727 + 1, i_717 => Jn (fun (b_731 : Bool) => if b_731 = true then (slices_partitionOrdered_uint64.l2 a1 l_531 i_676 J_707 k_727 (w64 (i_717 - 1))) else (J_707 i_717)) (fun J_732 => if (decide (i_676 ≤ i_717)) = true then ((idx l_531 i_717).bind fun x1801 => (idx l_531 a1).bind fun x1802 => (cmp_Less_uint64 x1801 x1802).bind fun r1803 => J_732 (!r1803)) else (J_732 false))
def slices_partitionOrdered_uint64.l1 (a1 : Int) (J_415 : (List Int) → Int → Option (Int × Bool × (List Int))) : Nat → (List Int) → Int → Int → Option (Int × Bool × (List Int))
  | 0, _, _, _ => none
  | k_649 + 1, l_531, i_532, i_533 => Jn (fun (i_676 : Int) => Jn (fun (i_705 : Int) => if (decide (i_705 < i_676)) = true then (J_415 l_531 i_705) else ((idx l_531 i_705).bind fun x1728 => (idx l_531 i_676).bind fun x1729 => (idx l_531 i_676).bind fun x1730 => (upd l_531 i_676 x1728).bind fun l1732 => (idx l1732 i_705).bind fun x1734 => (upd l1732 i_705 x1729).bind fun l1736 => slices_partitionOrdered_uint64.l1 a1 J_415 k_649 l1736 (w64 (i_676 + 1)) (w64 (i_705 - 1)))) (fun J_707 => slices_partitionOrdered_uint64.l2 a1 l_531 i_676 J_707 k_649 i_533)) (fun J_678 => slices_partitionOrdered_uint64.l3 a1 l_531 i_533 J_678 k_649 i_532)
def slices_partitionOrdered_uint64.l0 (a1 : Int) (l10 : (List Int)) : Nat → Int → Int → Option (Int × Bool × (List Int))
  | 0, _, _ => none
  | k_32 + 1, i_20, i_21 => Jn (fun (b_36 : Bool) => if b_36 = true then (slices_partitionOrdered_uint64.l0 a1 l10 k_32 (w64 (i_20 + 1)) i_21) else (Jn (fun (i_65 : Int) => if (decide (i_65 < i_20)) = true then ((idx l10 a1).bind fun x176 => (idx l10 i_65).bind fun x177 => (idx l10 i_65).bind fun x178 => (upd l10 i_65 x176).bind fun l180 => (idx l180 a1).bind fun x182 => (upd l180 a1 x177).bind fun l184 => some (i_65, true, l184)) else ((idx l10 i_65).bind fun x187 => (idx l10 i_20).bind fun x188 => (idx l10 i_20).bind fun x189 => (upd l10 i_20 x187).bind fun l191 => (idx l191 i_65).bind fun x193 => (upd l191 i_65 x188).bind fun l195 => Jn (fun (l_412 : (List Int)) (i_413 : Int) => (idx l_412 a1).bind fun x1029 => (idx l_412 i_413).bind fun x1030 => (idx l_412 i_413).bind fun x1031 => (upd l_412 i_413 x1029).bind fun l1033 => (idx l1033 a1).bind fun x1035 => (upd l1033 a1 x1030).bind fun l1037 => some (i_413, false, l1037)) (fun J_415 => slices_partitionOrdered_uint64.l1 a1 J_415 k_32 l195 (w64 (i_20 + 1)) (w64 (i_65 - 1))))) (fun J_67 => slices_partitionOrdered_uint64.l4 a1 l10 i_20 J_67 k_32 i_21))) (fun J_37 => if (decide (i_20 ≤ i_21)) = true then ((idx l10 i_20).bind fun x1937 => (idx l10 a1).bind fun x1938 => (cmp_Less_uint64 x1937 x1938).bind fun r1939 => J_37 r1939) else (J_37 false))
def slices_partitionOrdered_uint64 (k : Nat) (a0 : (List Int)) (a1 : Int) (a2 : Int) (a3 : Int) : Option (Int × Bool × (List Int)) := (idx a0 a3).bind fun x1 => (idx a0 a1).bind fun x2 => (idx a0 a1).bind fun x3 => (upd a0 a1 x1).bind fun l5 => (idx l5 a3).bind fun x7 => (upd l5 a3 x2).bind fun l10 => slices_partitionOrdered_uint64.l0 a1 l10 k (w64 (a1 + 1)) (w64 (a2 - 1))
def slices_pdqsortOrdered_uint64.l0 (RCALL : (List Int) → Int → Int → Int → Option (List Int)) : Nat → (List Int) → Int → Int → Int → Bool → Bool → Option (List Int)
  | 0, _, _, _, _, _, _ => none
  | k_86 + 1, l_54, i_55, i_56, i_57, b_58, b_59 => if (decide ((w64 (i_56 - i_55)) ≤ 12)) = true then ((slices_insertionSortOrdered_uint64 k_86 l_54 i_55 i_56).bind fun r253 => some r253) else (if (i_57 == 0) = true then ((slices_heapSortOrdered_uint64 k_86 l_54 i_55 i_56).bind fun r261 => some r261) else (Jn (fun (l_87 : (List Int)) (i_88 : Int) => (slices_choosePivotOrdered_uint64 l_87 i_55 i_56).bind fun r268 => Jn (fun (l_91 : (List Int)) (i_92 : Int) (i_93 : Int) => Jn (fun (l_96 : (List Int)) => Jn (fun (b_102 : Bool) => if b_102 = true then ((slices_partitionEqualOrdered_uint64 k_86 l_96 i_55 i_56 i_92).bind fun r302 => slices_pdqsortOrdered_uint64.l0 RCALL k_86 r302.2 r302.1 i_56 i_88 b_58 b_59) else ((slices_partitionOrdered_uint64 k_86 l_96 i_55 i_56 i_92).bind fun r305 => if (decide ((w64 (r305.1 - i_55)) < (w64 (i_56 - r305.1)))) = true then ((RCALL r305.2.2 i_55 r305.1 i_88).bind fun r309 => slices_pdqsortOrdered_uint64.l0 RCALL k_86 r309 (w64 (r305.1 + 1)) i_56 i_88 (decide ((w64 (Int.tdiv (w64 (i_56 - i_55)) 8)) ≤ (w64 (r305.1 - i_55)))) r305.2.1) else ((RCALL r305.2.2 (w64 (r305.1 + 1)) i_56 i_88).bind fun r312 => slices_pdqsortOrdered_uint64.l0 RCALL k_86 r312 i_55 r305.1 i_88 (decide ((w64 (Int.tdiv (w64 (i_56 - i_55)) 8)) ≤ (w64 (i_56 - r305.1)))) r305.2.1))) (fun J_103 => if (decide (0 < i_55)) = true then ((idx l_96 (w64 (i_55 - 1))).bind fun x315 => (idx l_96 i_92).bind fun x316 => (cmp_Less_uint64 x315 x316).bind fun r317 => J_103 (!r317)) else (J_103 false))) (fun J_98 => if ((b_58 && b_59) && (i_93 == 1)) = true then ((slices_partialInsertionSortOrdered_uint64 k_86 l_91 i_55 i_56).bind fun r322 => if r322.1 = true then (some r322.2) else (J_98 r322.2)) else (J_98 l_91))) (fun J_95 => if (r268.2 == 2) = true then ((slices_reverseRangeOrdered_uint64 k_86 l_87 i_55 i_56).bind fun r327 => J_95 r327 (w64 ((w64 (i_56 - 1)) - (w64 (r268.1 - i_55)))) 1) else (J_95 l_87 r268.1 r268.2))) (fun J_90 => if (!b_58) = true then ((slices_breakPatternsOrdered_uint64 k_86 l_54 i_55 i_56).bind fun r331 => J_90 r331 (w64 (i_57 - 1))) else (J_90 l_54 i_57))))
def slices_pdqsortOrdered_uint64 : Nat → (List Int) → Int → Int → Int → Option (List Int)
  | 0, _, _, _, _ => none
  | k + 1, a0, a1, a2, a3 => slices_pdqsortOrdered_uint64.l0 (fun x0 x1 x2 x3 => slices_pdqsortOrdered_uint64 k x0 x1 x2 x3) k a0 a1 a2 a3 true true
def slices_Sort_uint64 (k : Nat) (a0 : (List Int)) : Option (List Int) := (math_bits_Len (wu64 (a0.length : Int))).bind fun r1 => (slices_pdqsortOrdered_uint64 k a0 0 (a0.length : Int) r1).bind fun r3 => some r3
def slices_Compact_uint64.l1 (a0 : (List Int)) (i_468 : Int) (J_674 : (List Int) → Int → Option (List Int)) : Nat → (List Int) → Int → Int → Option (List Int)
  | 0, _, _, _ => none
  | k_696 + 1, l_684, i_685, i_686 => (cut l_684 i_468 (a0.length : Int)).bind fun l1534 => if (decide (i_686 < (l1534.length : Int))) = true then (Jn (fun (l_697 : (List Int)) (i_698 : Int) => slices_Compact_uint64.l1 a0 i_468 J_674 k_696 l_697 i_698 (w64 (i_686 + 1))) (fun J_700 => (idx l1534 i_686).bind fun x1544 => (idx l1534 (w64 (i_686 - 1))).bind fun x1545 => if (x1544 != x1545) = true then ((idx l1534 i_686).bind fun x1548 => (idx l_684 i_685).bind fun x1549 => (upd l_684 i_685 x1548).bind fun l1550 => J_700 l1550 (w64 (i_685 + 1))) else (J_700 l_684 i_685))) else (J_674 l_684 i_685)
def slices_Compact_uint64.l0 (a0 : (List Int)) : Nat → Int → Option (List Int)
  | 0, _ => none
  | k_586 + 1, i_468 => if (decide (i_468 < (a0.length : Int))) = true then (Jn (slices_Compact_uint64.l0 a0 k_586 (w64 (i_468 + 1))) (fun J_644 => (idx a0 i_468).bind fun x1424 => (idx a0 (w64 (i_468 - 1))).bind fun x1425 => if (x1424 == x1425) = true then ((cut a0 i_468 (a0.length : Int)).bind fun l1428 => Jn (fun (l_671 : (List Int)) (i_672 : Int) => (cut l_671 i_672 (l_671.length : Int)).bind fun l1489 => (cut (clr l_671 (Int.toNat i_672) (Int.toNat (l_671.length : Int)) 0) 0 i_672).bind fun l1491 => some l1491) (fun J_674 => slices_Compact_uint64.l1 a0 i_468 J_674 k_586 a0 i_468 1)) else (J_644))) else (some a0)
def slices_Compact_uint64 (k : Nat) (a0 : (List Int)) : Option (List Int) := if (decide ((a0.length : Int) < 2)) = true then (some a0) else (slices_Compact_uint64.l0 a0 k 1)
def tomb_unlike_uint64 (k : Nat) (a0 : (List Int)) : Option (List Int) := (slices_Sort_uint64 k a0).bind fun r1 => (slices_Compact_uint64 k r1).bind fun r4 => some r4
def slices_Reverse_uint64.l0 : Nat → (List Int) → Int → Int → Option (List Int)
  | 0, _, _, _ => none
  | k_15 + 1, l_7, i_8, i_9 => if (decide (i_8 < i_9)) = true then ((idx l_7 i_9).bind fun x63 => (idx l_7 i_8).bind fun x64 => (idx l_7 i_8).bind fun x65 => (upd l_7 i_8 x63).bind fun l67 => (idx l67 i_9).bind fun x69 => (upd l67 i_9 x64).bind fun l71 => slices_Reverse_uint64.l0 k_15 l71 (w64 (i_8 + 1)) (w64 (i_9 - 1))) else (some l_7)
def slices_Reverse_uint64 (k : Nat) (a0 : (List Int)) : Option (List Int) := slices_Reverse_uint64.l0 k a0 0 (w64 ((a0.length : Int) - 1))
def slices_Equal_uint64.l0 (a0 : (List Int)) (a1 : (List Int)) : Nat → Int → Option Bool
  | 0, _ => none
  | k_16 + 1, i_12 => if (decide (i_12 < (a0.length : Int))) = true then ((idx a0 i_12).bind fun x59 => (idx a1 i_12).bind fun x60 => if (x59 != x60) = true then (some false) else (slices_Equal_uint64.l0 a0 a1 k_16 (w64 (i_12 + 1)))) else (some true)
def slices_Equal_uint64 (k : Nat) (a0 : (List Int)) (a1 : (List Int)) : Option Bool := if ((a0.length : Int) != (a1.length : Int)) = true then (some false) else (slices_Equal_uint64.l0 a0 a1 k 0)
def tomb_Fragments.l2 (r1 : (List Tomb)) (x2810 : ByteArray) (x2811 : ByteArray) (J_981 : (List Int) → Option (List Fragment)) : Nat → (List Int) → Int → Option (List Fragment)
  | 0, _, _ => none
  | k_1019 + 1, l_1007, i_1008 => if (decide (i_1008 < (r1.length : Int))) = true then (Jn (fun (l_1021 : (List Int)) => tomb_Fragments.l2 r1 x2810 x2811 J_981 k_1019 l_1021 (w64 (i_1008 + 1))) (fun J_1023 => (idx r1 i_1008).bind fun x3057 => if ((sLt x3057.Begin x2810 || sEq x3057.Begin x2810) && (sLt x2811 x3057.End || sEq x2811 x3057.End)) = true then ((push 28147497670912 l_1007 x3057.Seq).bind fun l3065 => J_1023 l3065) else (J_1023 l_1007))) else (J_981 l_1007)
def tomb_Fragments.l1 (r1 : (List Tomb)) (r142 : (List ByteArray)) (J_531 : (List Fragment) → Option (List Fragment)) : Nat → (List Fragment) → Int → Option (List Fragment)
  | 0, _, _ => none
  | k_865 + 1, l_699, i_700 => if (decide (i_700 < (r142.length : Int))) = true then (Jn (fun (l_944 : (List Fragment)) => tomb_Fragments.l1 r1 r142 J_531 k_865 l_944 (w64 (i_700 + 1))) (fun J_946 => (idx r142 (w64 (i_700 - 1))).bind fun x2810 => (idx r142 i_700).bind fun x2811 => Jn (fun (l_979 : (List Int)) => if ((l_979.length : Int) == 0) = true then (J_946 l_699) else ((tomb_unlike_uint64 k_865 l_979).bind fun r2902 => (slices_Reverse_uint64 k_865 r2902).bind fun r2908 => Jn (fun (b_988 : Bool) => Jn (fun (b_991 : Bool) => if b_991 = true then ((idx l_699 (w64 ((l_699.length : Int) - 1))).bind fun x2964 => (upd l_699 (w64 ((l_699.length : Int) - 1)) (⟨x2964.Begin, x2811, x2964.Seqs⟩ : Fragment)).bind fun l2969 => J_946 l2969) else ((push 4021071095713 l_699 (⟨x2810, x2811, r2908⟩ : Fragment)).bind fun l2973 => J_946 l2973)) (fun J_992 => if b_988 = true then ((idx l_699 (w64 ((l_699.length : Int) - 1))).bind fun x2976 => (slices_Equal_uint64 k_865 x2976.Seqs r2908).bind fun r2981 => J_992 r2981) else (J_992 false))) (fun J_989 => if (decide (0 < (l_699.length : Int))) = true then ((idx l_699 (w64 ((l_699.length : Int) - 1))).bind fun x2983 => J_989 (sEq x2983.End x2810)) else (J_989 false)))) (fun J_981 => tomb_Fragments.l2 r1 x2810 x2811 J_981 k_865 ([]) 0))) else (J_531 l_699)
def tomb_Fragments.l0 (r1 : (List Tomb)) : Nat → (List ByteArray) → Int → Option (List Fragment)
  | 0, _, _ => none
  | k_34 + 1, l_26, i_27 => if (decide (i_27 < (r1.length : Int))) = true then ((idx r1 i_27).bind fun x132 => (pushN 14073748835379 l_26 ([x132.Begin, x132.End])).bind fun l139 => tomb_Fragments.l0 r1 k_34 l139 (w64 (i_27 + 1))) else ((tomb_unlike_string k_34 l_26).bind fun r142 => Jn (fun (l_529 : (List Fragment)) => some l_529) (fun J_531 => tomb_Fragments.l1 r1 r142 J_531 k_34 ([]) 1))
def tomb_Fragments (k : Nat) (a0 : (List Tomb)) : Option (List Fragment) := (tomb_valid k a0).bind fun r1 => tomb_Fragments.l0 r1 k ([]) 0
def tomb_Set_Cover.l1 (a2 : Int) (x1059 : Fragment) (J_236 : Option (Int × Bool)) : Nat → Int → Option (Int × Bool)
  | 0, _ => none
  | k_244 + 1, i_240 => if (decide (i_240 < (x1059.Seqs.length : Int))) = true then ((idx x1059.Seqs i_240).bind fun x1143 => if (decide (x1143 ≤ a2)) = true then (some (x1143, true)) else (tomb_Set_Cover.l1 a2 x1059 J_236 k_244 (w64 (i_240 + 1)))) else (J_236)
def tomb_Set_Cover.l0 (a1 : ByteArray) (a2 : Int) (r593 : (List Fragment)) : Nat → Int → Option (Int × Bool)
  | 0, _ => none
  | k_206 + 1, i_164 => if (decide (i_164 < (r593.length : Int))) = true then (Jn (tomb_Set_Cover.l0 a1 a2 r593 k_206 (w64 (i_164 + 1))) (fun J_226 => (idx r593 i_164).bind fun x1059 => Jn (J_226) (fun J_236 => if ((sLt a1 x1059.Begin) || (!sLt a1 x1059.End)) = true then (J_236) else (tomb_Set_Cover.l1 a2 x1059 J_236 k_206 0)))) else (some (0, false))
def tomb_Set_Cover (k : Nat) (a0 : tomb_Set) (a1 : ByteArray) (a2 : Int) : Option (Int × Bool) := (tomb_Set_Tombs a0).bind fun r589 => (tomb_Fragments k r589).bind fun r593 => tomb_Set_Cover.l0 a1 a2 r593 k 0
def mem_counted (a0 : ByteArray) (a1 : Entry) (a2 : Bool) (a3 : Int) (a4 : Bool) : Option (Entry × Bool) := if (a4 && ((!a2) || (decide (a1.Seq < a3)))) = true then (some ((⟨a0, a3, 2, (ByteArray.mk #[])⟩ : Entry), true)) else (some (a1, a2))
def mem_Table_Get (k : Nat) (a0 : mem_Table) (a1 : ByteArray) (a2 : Int) : Option (Entry × Bool) := if (!a0.made) = true then (some ((⟨(ByteArray.mk #[]), 0, 0, (ByteArray.mk #[])⟩ : Entry), false)) else ((mem_Table_newest k a0 a1 a2).bind fun r35 => (tomb_Set_Cover k a0.tombs a1 a2).bind fun r40 => (mem_counted a1 r35.1 r35.2 r40.1 r40.2).bind fun r42 => some (r42.1, r42.2))
def mem_Table_Size (a0 : mem_Table) : Option Int := if (!a0.made) = true then (some 0) else (some a0.size)
def l10_works (k : Nat) : Option Bool := (mkS 2513169434916 1 (⟨(⟨(ByteArray.mk #[]), 0, 0⟩ : IKey), (ByteArray.mk #[]), 0, (⟨0, 0, 0, 0, 0, 0, 0, 0, 0, 0, 0, 0⟩ : St132), 0⟩ : skip_node_string)).bind fun l36 => (tomb_valid k ([])).bind fun r50 => (mem_Table_Add k (⟨true, false, 1, (⟨l36, 1048576, 0, 0⟩ : skip_List_string), (⟨r50, true⟩ : tomb_Set), 0, 0, 0, 0⟩ : mem_Table) 1 (⟨1, (ByteArray.mk #[97]), (ByteArray.mk #[120])⟩ : Op) 1).bind fun r76 => Jn (fun (x_11 : mem_Table) (b_9 : Bool) => Jn (fun (x_15 : mem_Table) (b_13 : Bool) => if b_13 = true then (some false) else ((mem_Table_Get k x_15 (ByteArray.mk #[97]) 1).bind fun r88 => (mem_Table_Get k x_15 (ByteArray.mk #[97]) 9).bind fun r93 => Jn (fun (b_17 : Bool) => some b_17) (fun J_18 => if ((Entry.eqb r88.1 (⟨(ByteArray.mk #[97]), 1, 1, (ByteArray.mk #[120])⟩ : Entry)) && (Entry.eqb r93.1 (⟨(ByteArray.mk #[97]), 2, 2, (ByteArray.mk #[])⟩ : Entry))) = true then ((mem_Table_Size x_15).bind fun r102 => J_18 (r102 == 54)) else (J_18 false)))) (fun J_14 => if b_9 = true then (J_14 x_11 true) else ((mem_Table_Add k x_11 3 (⟨1, (ByteArray.mk #[98]), (ByteArray.mk #[121])⟩ : Op) 4).bind fun r104 => J_14 r104.2 (r104.1 != 0)))) (fun J_10 => if (r76.1 != 0) = true then (J_10 r76.2 true) else ((mem_Table_Add k r76.2 2 (⟨2, (ByteArray.mk #[97]), (ByteArray.mk #[99])⟩ : Op) 1).bind fun r107 => J_10 r107.2 (r107.1 != 0)))
def l10_among (a0 : Int) (a1 : Int) : Option Int := if a1 = 0 then none else (if a1 = 0 then none else (some (Int.tmod (w64 ((Int.tmod a0 a1) + a1)) a1)))
def skip_List_string_First (a0 : skip_List_string) : Option Int := (skip_List_string_none a0).bind fun r4 => if r4 = true then (some 0) else ((idx a0.nodes 0).bind fun x10 => some (w64 (St132.get x10.next_ 0)))
def skip_List_string_Next (a0 : skip_List_string) (a1 : Int) : Option Int := (skip_List_string_has a0 a1).bind fun r4 => if (!r4) = true then (some 0) else ((idx a0.nodes a1).bind fun x10 => some (w64 (St132.get x10.next_ 0)))
def mem_Table_Entries.l0 (a0 : mem_Table) : Nat → (List Entry) → Int → Option (List Entry)
  | 0, _, _ => none
  | k_34 + 1, l_26, i_27 => if (i_27 != 0) = true then ((mem_Table_entry a0 i_27).bind fun r141 => (push 4691249611691 l_26 r141).bind fun l145 => (skip_List_string_Next a0.list i_27).bind fun r148 => mem_Table_Entries.l0 a0 k_34 l145 r148) else (some l_26)
def mem_Table_Entries (k : Nat) (a0 : mem_Table) : Option (List Entry) := if (!a0.made) = true then (some ([])) else ((skip_List_string_First a0.list).bind fun r92 => mem_Table_Entries.l0 a0 k ([]) r92)
def mem_Cursor_Here (a0 : mem_Cursor) : Option (Entry × Bool) := if (a0.where_ != 1) = true then (some ((⟨(ByteArray.mk #[]), 0, 0, (ByteArray.mk #[])⟩ : Entry), false)) else ((mem_Table_entry a0.t a0.n).bind fun r23 => some (r23, true))
def mem_Cursor_stand (a0 : mem_Cursor) (a1 : Int) (a2 : Int) : Option (Bool × mem_Cursor) := Jn (fun (i_1 : Int) => some ((a1 != 0), (⟨a0.t, i_1, a1⟩ : mem_Cursor))) (fun J_3 => if (a1 == 0) = true then (J_3 a2) else (J_3 1))
def mem_Cursor_First (a0 : mem_Cursor) : Option (Bool × mem_Cursor) := (skip_List_string_First a0.t.list).bind fun r20 => (mem_Cursor_stand a0 r20 2).bind fun r22 => some (r22.1, (⟨a0.t, r22.2.where_, r22.2.n⟩ : mem_Cursor))
def mem_Cursor_Next (a0 : mem_Cursor) : Option (Bool × mem_Cursor) := Jn (fun (b_1 : Bool) (i_2 : Int) (i_3 : Int) => some (b_1, (⟨a0.t, i_2, i_3⟩ : mem_Cursor))) (fun J_5 => if (a0.where_ == 0) = true then ((mem_Cursor_First a0).bind fun r31 => J_5 r31.1 r31.2.where_ r31.2.n) else (if (a0.where_ == 2) = true then (J_5 false a0.where_ a0.n) else ((skip_List_string_Next a0.t.list a0.n).bind fun r36 => (mem_Cursor_stand a0 r36 2).bind fun r38 => J_5 r38.1 r38.2.where_ r38.2.n)))
def skip_List_string_Last (a0 : skip_List_string) : Option Int := (skip_List_string_none a0).bind fun r4 => if r4 = true then (some 0) else (some a0.last)
def mem_Cursor_Last (a0 : mem_Cursor) : Option (Bool × mem_Cursor) := (skip_List_string_Last a0.t.list).bind fun r20 => (mem_Cursor_stand a0 r20 0).bind fun r22 => some (r22.1, (⟨a0.t, r22.2.where_, r22.2.n⟩ : mem_Cursor))
def skip_List_string_Prev (a0 : skip_List_string) (a1 : Int) : Option Int := (skip_List_string_has a0 a1).bind fun r4 => if (!r4) = true then (some 0) else ((idx a0.nodes a1).bind fun x10 => some (w64 x10.prev))
def mem_Cursor_Prev (a0 : mem_Cursor) : Option (Bool × mem_Cursor) := Jn (fun (b_1 : Bool) (i_2 : Int) (i_3 : Int) => some (b_1, (⟨a0.t, i_2, i_3⟩ : mem_Cursor))) (fun J_5 => if (a0.where_ == 2) = true then ((mem_Cursor_Last a0).bind fun r31 => J_5 r31.1 r31.2.where_ r31.2.n) else (if (a0.where_ == 0) = true then (J_5 false a0.where_ a0.n) else ((skip_List_string_Prev a0.t.list a0.n).bind fun r36 => (mem_Cursor_stand a0 r36 0).bind fun r38 => J_5 r38.1 r38.2.where_ r38.2.n)))
def l10_MemWalks.l2 (x_48 : mem_Table) (r528 : (List Entry)) (r544 : Int) (J_401 : Int → Int → Option Bool) : Nat → Int → Int → Int → Option Bool
  | 0, _, _, _ => none
  | k_712 + 1, i_596, i_597, i_598 => if (decide (i_598 < (r528.length : Int))) = true then ((mem_Cursor_Here (⟨x_48, i_596, i_597⟩ : mem_Cursor)).bind fun r1522 => Jn (fun (b_787 : Bool) => Jn (fun (i_795 : Int) (i_796 : Int) (b_793 : Bool) => if b_793 = true then (some false) else (Jn (fun (i_810 : Int) (i_811 : Int) (b_803 : Bool) => if b_803 = true then (some false) else (l10_MemWalks.l2 x_48 r528 r544 J_401 k_712 i_810 i_811 (w64 (i_598 + 1)))) (fun J_804 => if ((decide (0 < i_598)) && (i_598 == r544)) = true then ((mem_Cursor_Prev (⟨x_48, i_795, i_796⟩ : mem_Cursor)).bind fun r1569 => Jn (fun (i_815 : Int) (i_816 : Int) (b_813 : Bool) => J_804 i_815 i_816 (!b_813)) (fun J_814 => if r1569.1 = true then ((mem_Cursor_Next (⟨x_48, r1569.2.where_, r1569.2.n⟩ : mem_Cursor)).bind fun r1576 => J_814 r1576.2.where_ r1576.2.n r1576.1) else (J_814 r1569.2.where_ r1569.2.n false))) else (J_804 i_795 i_796 false)))) (fun J_794 => if b_787 = true then (J_794 i_596 i_597 true) else ((mem_Cursor_Next (⟨x_48, i_596, i_597⟩ : mem_Cursor)).bind fun r1580 => J_794 r1580.2.where_ r1580.2.n (!r1580.1)))) (fun J_788 => if (!(r1522.2 == (decide (0 < i_598)))) = true then (J_788 true) else (Jn (fun (b_818 : Bool) => J_788 b_818) (fun J_819 => if r1522.2 = true then ((idx r528 (w64 (i_598 - 1))).bind fun x1585 => J_819 (!Entry.eqb r1522.1 x1585)) else (J_819 false))))) else (J_401 i_596 i_597)
def l10_MemWalks.l1 (x_48 : mem_Table) (r528 : (List Entry)) (J_447 : Int → Int → Option Bool) : Nat → Int → Int → Int → Option Bool
  | 0, _, _, _ => none
  | k_476 + 1, i_462, i_463, i_464 => if (decide (0 ≤ i_464)) = true then ((mem_Cursor_Prev (⟨x_48, i_462, i_463⟩ : mem_Cursor)).bind fun r1179 => if (!r1179.1) = true then (some false) else ((mem_Cursor_Here (⟨x_48, r1179.2.where_, r1179.2.n⟩ : mem_Cursor)).bind fun r1183 => Jn (fun (b_480 : Bool) => if b_480 = true then (some false) else (l10_MemWalks.l1 x_48 r528 J_447 k_476 r1179.2.where_ r1179.2.n (w64 (i_464 - 1)))) (fun J_481 => if (!r1183.2) = true then (J_481 true) else ((idx r528 i_464).bind fun x1192 => J_481 (!Entry.eqb r1183.1 x1192))))) else (J_447 i_462 i_463)
def l10_MemWalks.l0 (a0 : (List L10_Act)) (a1 : Int) : Nat → mem_Table → (List Bool) → Int → Option Bool
  | 0, _, _, _ => none
  | k_56 + 1, x_48, l_49, i_50 => if ((decide (i_50 < (a0.length : Int))) && true) = true then ((idx a0 i_50).bind fun x498 => (idx a0 i_50).bind fun x499 => (idx a0 i_50).bind fun x500 => (l10_among (w64 (x500.Height + 0)) 12).bind fun r501 => (mem_Table_Add k_56 x_48 x498.Seq x499.Op (w64 (1 + r501))).bind fun r504 => (idx l_49 i_50).bind fun x507 => (upd l_49 i_50 (r504.1 == 0)).bind fun l509 => l10_MemWalks.l0 a0 a1 k_56 r504.2 l509 (w64 (i_50 + 1))) else ((mem_Table_Entries k_56 x_48).bind fun r528 => if (!x_48.made) = true then (some false) else ((l10_among a1 (w64 ((r528.length : Int) + 1))).bind fun r544 => Jn (fun (i_398 : Int) (i_399 : Int) => (mem_Cursor_Next (⟨x_48, i_398, i_399⟩ : mem_Cursor)).bind fun r947 => Jn (fun (i_409 : Int) (i_410 : Int) (b_407 : Bool) => if b_407 = true then (some false) else (Jn (fun (i_444 : Int) (i_445 : Int) => (mem_Cursor_Prev (⟨x_48, i_444, i_445⟩ : mem_Cursor)).bind fun r1069 => Jn (fun (b_448 : Bool) => some b_448) (fun J_449 => if (!r1069.1) = true then ((mem_Cursor_Next (⟨x_48, r1069.2.where_, r1069.2.n⟩ : mem_Cursor)).bind fun r1076 => J_449 (r1076.1 == (decide (0 < (r528.length : Int))))) else (J_449 false))) (fun J_447 => l10_MemWalks.l1 x_48 r528 J_447 k_56 i_409 i_410 (w64 ((r528.length : Int) - 1))))) (fun J_408 => if r947.1 = true then (J_408 r947.2.where_ r947.2.n true) else ((mem_Cursor_Next (⟨x_48, r947.2.where_, r947.2.n⟩ : mem_Cursor)).bind fun r1193 => J_408 r1193.2.where_ r1193.2.n r1193.1))) (fun J_401 => l10_MemWalks.l2 x_48 r528 r544 J_401 k_56 0 0 0)))
def l10_MemWalks (k : Nat) (a0 : (List L10_Act)) (a1 : Int) : Option Bool := (l10_works k).bind fun r4 => if (!r4) = true then (some false) else ((mkS 2513169434916 1 (⟨(⟨(ByteArray.mk #[]), 0, 0⟩ : IKey), (ByteArray.mk #[]), 0, (⟨0, 0, 0, 0, 0, 0, 0, 0, 0, 0, 0, 0⟩ : St132), 0⟩ : skip_node_string)).bind fun l294 => (tomb_valid k ([])).bind fun r308 => (mkS 281474976710656 (a0.length : Int) false).bind fun l316 => l10_MemWalks.l0 a0 a1 k (⟨true, false, 1, (⟨l294, 1048576, 0, 0⟩ : skip_List_string), (⟨r308, true⟩ : tomb_Set), 0, 0, 0, 0⟩ : mem_Table) l316 0)
end Go.Proofs.YtbaemhkfmddakaaGreat.Mo
