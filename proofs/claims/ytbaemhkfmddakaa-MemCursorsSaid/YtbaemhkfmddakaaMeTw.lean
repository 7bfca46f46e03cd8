import Derived.Test.YtbaemhkfmddakaaSyAv
set_option linter.unusedVariables false
set_option linter.unusedSectionVars false
set_option linter.unusedSimpArgs false
set_option maxRecDepth 100000
namespace Go.Proofs.Ytbaemhkfmddakaa.Mo
open Go Go.Proofs.Ytbaemhkfmddakaa.Sy
structure Tomb where
  Begin : ByteArray
  End : ByteArray
  Seq : Int
def Tomb.enc (x : Tomb) : List _root_.Go.Value := [.string x.Begin, .string x.End, .int .u64 x.Seq]
def Tomb.eqb (x y : Tomb) : Bool := sEq x.Begin y.Begin && (sEq x.End y.End && ((x.Seq == y.Seq) && (true)))
structure IKey where
  Key : ByteArray
  Seq : Int
  Kind : Int
def IKey.enc (x : IKey) : List _root_.Go.Value := [.string x.Key, .int .u64 x.Seq, .int .i64 x.Kind]
def IKey.eqb (x y : IKey) : Bool := sEq x.Key y.Key && ((x.Seq == y.Seq) && ((x.Kind == y.Kind) && (true)))
structure St104 where
  e0 : Int
  e1 : Int
  e2 : Int
  e3 : Int
  e4 : Int
  e5 : Int
  e6 : Int
  e7 : Int
  e8 : Int
  e9 : Int
  e10 : Int
  e11 : Int
def St104.l (x : St104) : List Int := [x.e0, x.e1, x.e2, x.e3, x.e4, x.e5, x.e6, x.e7, x.e8, x.e9, x.e10, x.e11]
def St104.ofl (l : List Int) : St104 := ⟨l.getD 0 0, l.getD 1 0, l.getD 2 0, l.getD 3 0, l.getD 4 0, l.getD 5 0, l.getD 6 0, l.getD 7 0, l.getD 8 0, l.getD 9 0, l.getD 10 0, l.getD 11 0⟩
def St104.get (x : St104) (i : Int) : Int := (St104.l x).getD (Int.toNat i) 0
def St104.put (x : St104) (i v : Int) : St104 := St104.ofl ((St104.l x).set (Int.toNat i) v)
theorem St104.l_ofl : ∀ l : List Int, l.length = 12 → (St104.ofl l).l = l
  | [a0, a1, a2, a3, a4, a5, a6, a7, a8, a9, a10, a11], _ => rfl
theorem St104.l_put {x y : St104} {i v : Int} (h : some (St104.put x i v) = some y) : y.l = x.l.set (Int.toNat i) v := by
  obtain rfl := Option.some.inj h
  exact St104.l_ofl _ (by rw [List.length_set]; rfl)
def St104.enc (x : St104) : List _root_.Go.Value := [.int .i32 x.e0, .int .i32 x.e1, .int .i32 x.e2, .int .i32 x.e3, .int .i32 x.e4, .int .i32 x.e5, .int .i32 x.e6, .int .i32 x.e7, .int .i32 x.e8, .int .i32 x.e9, .int .i32 x.e10, .int .i32 x.e11]
def St104.eqb (x y : St104) : Bool := (x.e0 == y.e0) && ((x.e1 == y.e1) && ((x.e2 == y.e2) && ((x.e3 == y.e3) && ((x.e4 == y.e4) && ((x.e5 == y.e5) && ((x.e6 == y.e6) && ((x.e7 == y.e7) && ((x.e8 == y.e8) && ((x.e9 == y.e9) && ((x.e10 == y.e10) && ((x.e11 == y.e11) && (true))))))))))))
structure skip_node_string where
  key : IKey
  value : ByteArray
  height : Int
  next_ : St104
  prev : Int
def skip_node_string.enc (x : skip_node_string) : List _root_.Go.Value := [.string x.key.Key, .int .u64 x.key.Seq, .int .i64 x.key.Kind, .string x.value, .int .i64 x.height, .int .i32 x.next_.e0, .int .i32 x.next_.e1, .int .i32 x.next_.e2, .int .i32 x.next_.e3, .int .i32 x.next_.e4, .int .i32 x.next_.e5, .int .i32 x.next_.e6, .int .i32 x.next_.e7, .int .i32 x.next_.e8, .int .i32 x.next_.e9, .int .i32 x.next_.e10, .int .i32 x.next_.e11, .int .i32 x.prev]
def skip_node_string.eqb (x y : skip_node_string) : Bool := IKey.eqb x.key y.key && (sEq x.value y.value && ((x.height == y.height) && (St104.eqb x.next_ y.next_ && ((x.prev == y.prev) && (true)))))
structure skip_List_string where
  nodes : (List skip_node_string)
  most : Int
  height : Int
  last : Int
structure tomb_Set where
  tombs : (List Tomb)
  made : Bool
structure mem_Table where
  made : Bool
  frozen : Bool
  log : Int
  list : skip_List_string
  tombs : tomb_Set
  size : Int
  n : Int
  low : Int
  high : Int
structure Op where
  Kind : Int
  Key : ByteArray
  Value : ByteArray
def Op.enc (x : Op) : List _root_.Go.Value := [.int .i64 x.Kind, .string x.Key, .string x.Value]
def Op.eqb (x y : Op) : Bool := (x.Kind == y.Kind) && (sEq x.Key y.Key && (sEq x.Value y.Value && (true)))
structure St107 where
  e0 : Int
  e1 : Int
  e2 : Int
  e3 : Int
  e4 : Int
  e5 : Int
  e6 : Int
  e7 : Int
  e8 : Int
  e9 : Int
  e10 : Int
  e11 : Int
def St107.l (x : St107) : List Int := [x.e0, x.e1, x.e2, x.e3, x.e4, x.e5, x.e6, x.e7, x.e8, x.e9, x.e10, x.e11]
def St107.ofl (l : List Int) : St107 := ⟨l.getD 0 0, l.getD 1 0, l.getD 2 0, l.getD 3 0, l.getD 4 0, l.getD 5 0, l.getD 6 0, l.getD 7 0, l.getD 8 0, l.getD 9 0, l.getD 10 0, l.getD 11 0⟩
def St107.get (x : St107) (i : Int) : Int := (St107.l x).getD (Int.toNat i) 0
def St107.put (x : St107) (i v : Int) : St107 := St107.ofl ((St107.l x).set (Int.toNat i) v)
theorem St107.l_ofl : ∀ l : List Int, l.length = 12 → (St107.ofl l).l = l
  | [a0, a1, a2, a3, a4, a5, a6, a7, a8, a9, a10, a11], _ => rfl
theorem St107.l_put {x y : St107} {i v : Int} (h : some (St107.put x i v) = some y) : y.l = x.l.set (Int.toNat i) v := by
  obtain rfl := Option.some.inj h
  exact St107.l_ofl _ (by rw [List.length_set]; rfl)
def St107.enc (x : St107) : List _root_.Go.Value := [.int .i64 x.e0, .int .i64 x.e1, .int .i64 x.e2, .int .i64 x.e3, .int .i64 x.e4, .int .i64 x.e5, .int .i64 x.e6, .int .i64 x.e7, .int .i64 x.e8, .int .i64 x.e9, .int .i64 x.e10, .int .i64 x.e11]
def St107.eqb (x y : St107) : Bool := (x.e0 == y.e0) && ((x.e1 == y.e1) && ((x.e2 == y.e2) && ((x.e3 == y.e3) && ((x.e4 == y.e4) && ((x.e5 == y.e5) && ((x.e6 == y.e6) && ((x.e7 == y.e7) && ((x.e8 == y.e8) && ((x.e9 == y.e9) && ((x.e10 == y.e10) && ((x.e11 == y.e11) && (true))))))))))))
structure Entry where
  Key : ByteArray
  Seq : Int
  Kind : Int
  Value : ByteArray
def Entry.enc (x : Entry) : List _root_.Go.Value := [.string x.Key, .int .u64 x.Seq, .int .i64 x.Kind, .string x.Value]
def Entry.eqb (x y : Entry) : Bool := sEq x.Key y.Key && ((x.Seq == y.Seq) && ((x.Kind == y.Kind) && (sEq x.Value y.Value && (true))))
structure R10_Spot where
  State : Int
  Key : IKey
def R10_Spot.enc (x : R10_Spot) : List _root_.Go.Value := [.int .i64 x.State, .string x.Key.Key, .int .u64 x.Key.Seq, .int .i64 x.Key.Kind]
def R10_Spot.eqb (x y : R10_Spot) : Bool := (x.State == y.State) && (IKey.eqb x.Key y.Key && (true))
structure mem_Cursor where
  t : mem_Table
  where_ : Int
  n : Int
structure L10_Act where
  Kind : Int
  Height : Int
  Seq : Int
  Op : Op
def L10_Act.enc (x : L10_Act) : List _root_.Go.Value := [.int .i64 x.Kind, .int .i64 x.Height, .int .u64 x.Seq, .int .i64 x.Op.Kind, .string x.Op.Key, .string x.Op.Value]
def L10_Act.eqb (x y : L10_Act) : Bool := (x.Kind == y.Kind) && ((x.Height == y.Height) && ((x.Seq == y.Seq) && (Op.eqb x.Op y.Op && (true))))
structure L10_Move where
  Kind : Int
  On : Int
  Key : IKey
  Put : L10_Act
def L10_Move.enc (x : L10_Move) : List _root_.Go.Value := [.int .i64 x.Kind, .int .i64 x.On, .string x.Key.Key, .int .u64 x.Key.Seq, .int .i64 x.Key.Kind, .int .i64 x.Put.Kind, .int .i64 x.Put.Height, .int .u64 x.Put.Seq, .int .i64 x.Put.Op.Kind, .string x.Put.Op.Key, .string x.Put.Op.Value]
def L10_Move.eqb (x y : L10_Move) : Bool := (x.Kind == y.Kind) && ((x.On == y.On) && (IKey.eqb x.Key y.Key && (L10_Act.eqb x.Put y.Put && (true))))
def tomb_Valid (a0 : Tomb) : Option Bool := some (((((!sEq a0.Begin (ByteArray.mk #[])) && (decide ((a0.Begin.size : Int) ≤ 1024))) && (decide ((a0.End.size : Int) ≤ 1025))) && (sLt a0.Begin a0.End)) && (decide (a0.Seq ≤ 72057594037927935)))
def tomb_valid.l0 (a0 : (List Tomb)) : Nat → (List Tomb) → Int → Option (List Tomb)
  | 0, _, _ => none
  | k_56 + 1, l_44, i_45 => if (decide (i_45 < (a0.length : Int))) = true then (Jn (fun (l_58 : (List Tomb)) => tomb_valid.l0 a0 k_56 l_58 (w64 (i_45 + 1))) (fun J_60 => (idx a0 i_45).bind fun x154 => (tomb_Valid x154).bind fun r158 => if r158 = true then ((push 5629499534059 l_44 x154).bind fun l163 => J_60 l163) else (J_60 l_44))) else (some l_44)
def tomb_valid (k : Nat) (a0 : (List Tomb)) : Option (List Tomb) := tomb_valid.l0 a0 k ([]) 0
def l10_names : Option Bool := some true
def l10_among (a0 : Int) (a1 : Int) : Option Int := if a1 = 0 then none else (if a1 = 0 then none else (some (Int.tmod (w64 ((Int.tmod a0 a1) + a1)) a1)))
def mem_may (a0 : Op) : Option Bool := if ((decide ((a0.Key.size : Int) < 1)) || (decide (1024 < (a0.Key.size : Int)))) = true then (some false) else (if (a0.Kind == 0) = true then (some (sEq a0.Value (ByteArray.mk #[]))) else (if (a0.Kind == 1) = true then (some (decide ((a0.Value.size : Int) ≤ 65536))) else (if (a0.Kind == 2) = true then (some ((decide ((a0.Value.size : Int) ≤ 1024)) && (sLt a0.Key a0.Value))) else (some false))))
def slices_Clone_Tomb (a0 : (List Tomb)) : Option (List Tomb) := (pushN 5629499534059 ([]) a0).bind fun l7 => some l7
def tomb_Set_Tombs (a0 : tomb_Set) : Option (List Tomb) := (slices_Clone_Tomb a0.tombs).bind fun r4 => some r4
def mem_Table_addTomb_1 (a0 : Tomb) (c0 : Tomb) : Option Bool := some ((sEq a0.Begin c0.Begin) && (a0.Seq == c0.Seq))
def slices_IndexFunc_Tomb.l0 (a0 : (List Tomb)) (a1 : (Tomb → Option Bool)) : Nat → Int → Option Int
  | 0, _ => none
  | k_16 + 1, i_12 => if (decide (i_12 < (a0.length : Int))) = true then ((idx a0 i_12).bind fun x57 => (a1 x57).bind fun r58 => if r58 = true then (some i_12) else (slices_IndexFunc_Tomb.l0 a0 a1 k_16 (w64 (i_12 + 1)))) else (some (-1))
def slices_IndexFunc_Tomb (k : Nat) (a0 : (List Tomb)) (a1 : (Tomb → Option Bool)) : Option Int := slices_IndexFunc_Tomb.l0 a0 a1 k 0
def slices_ContainsFunc_Tomb (k : Nat) (a0 : (List Tomb)) (a1 : (Tomb → Option Bool)) : Option Bool := (slices_IndexFunc_Tomb k a0 a1).bind fun r1 => some (decide (0 ≤ r1))
def tomb_Set_Add (a0 : tomb_Set) (a1 : Tomb) : Option (Int × tomb_Set) := if (!a0.made) = true then (some (1, a0)) else ((tomb_Valid a1).bind fun r12 => if (!r12) = true then (some (2, a0)) else ((push 5629499534059 a0.tombs a1).bind fun l19 => some (0, (⟨l19, a0.made⟩ : tomb_Set))))
def mem_Table_addTomb (k : Nat) (a0 : mem_Table) (a1 : Tomb) : Option (Int × mem_Table) := (tomb_Set_Tombs a0.tombs).bind fun r5 => (slices_ContainsFunc_Tomb k r5 (fun x0 => mem_Table_addTomb_1 x0 a1)).bind fun r9 => if r9 = true then (some (81, a0)) else ((tomb_Set_Add a0.tombs a1).bind fun r14 => some (r14.1, (⟨a0.made, a0.frozen, a0.log, a0.list, r14.2, a0.size, a0.n, a0.low, a0.high⟩ : mem_Table)))
def skip_List_string_none (a0 : skip_List_string) : Option Bool := some ((a0.nodes.length : Int) == 0)
def ikey_isKind (a0 : Int) : Option Bool := Jn (fun (b_4 : Bool) => if b_4 = true then (some true) else (some false)) (fun J_6 => if (a0 == 0) = true then (J_6 (a0 == 0)) else (if (a0 == 1) = true then (J_6 (a0 == 1)) else (if (a0 == 2) = true then (J_6 (a0 == 2)) else (J_6 (a0 == 255)))))
def ikey_Valid (a0 : IKey) : Option Bool := Jn (fun (b_1 : Bool) => some b_1) (fun J_2 => if (((!sEq a0.Key (ByteArray.mk #[])) && (decide ((a0.Key.size : Int) ≤ 1024))) && (decide (a0.Seq ≤ 72057594037927935))) = true then ((ikey_isKind a0.Kind).bind fun r8 => J_2 r8) else (J_2 false))
def internal_bytealg_CompareString (a0 : ByteArray) (a1 : ByteArray) : Option Int := some (ordS a0 a1)
def strings_Compare (a0 : ByteArray) (a1 : ByteArray) : Option Int := (internal_bytealg_CompareString a0 a1).bind fun r1 => some r1
def cmp_isNaN_uint64 (a0 : Int) : Option Bool := some (a0 != a0)
def cmp_Compare_uint64 (a0 : Int) (a1 : Int) : Option Int := (cmp_isNaN_uint64 a0).bind fun r1 => (cmp_isNaN_uint64 a1).bind fun r3 => if r1 = true then (if r3 = true then (some 0) else (some (-1))) else (if r3 = true then (some 1) else (if (decide (a0 < a1)) = true then (some (-1)) else (if (decide (a1 < a0)) = true then (some 1) else (some 0))))
def cmp_isNaN_int (a0 : Int) : Option Bool := some (a0 != a0)
def cmp_Compare_int (a0 : Int) (a1 : Int) : Option Int := (cmp_isNaN_int a0).bind fun r1 => (cmp_isNaN_int a1).bind fun r3 => if r1 = true then (if r3 = true then (some 0) else (some (-1))) else (if r3 = true then (some 1) else (if (decide (a0 < a1)) = true then (some (-1)) else (if (decide (a1 < a0)) = true then (some 1) else (some 0))))
def cmp_Or_int.l0 (a0 : (List Int)) : Nat → Int → Option Int
  | 0, _ => none
  | k_16 + 1, i_12 => if (decide (i_12 < (a0.length : Int))) = true then ((idx a0 i_12).bind fun x35 => if (x35 != 0) = true then (some x35) else (cmp_Or_int.l0 a0 k_16 (w64 (i_12 + 1)))) else (some 0)
def cmp_Or_int (k : Nat) (a0 : (List Int)) : Option Int := cmp_Or_int.l0 a0 k 0
def ikey_Compare (k : Nat) (a0 : IKey) (a1 : IKey) : Option Int := (strings_Compare a0.Key a1.Key).bind fun r5 => (cmp_Compare_uint64 a1.Seq a0.Seq).bind fun r7 => (cmp_Compare_int a1.Kind a0.Kind).bind fun r10 => (cmp_Or_int k ([r5, r7, r10])).bind fun r16 => some r16
def skip_List_string_trail.l0 (a0 : skip_List_string) (a1 : IKey) : Nat → Int → Int → Int → Int → Int → Int → Int → Int → Int → Int → Int → Int → Int → Int → Option St107
  | 0, _, _, _, _, _, _, _, _, _, _, _, _, _, _ => none
  | k_130 + 1, i_94, i_95, i_96, i_97, i_98, i_99, i_100, i_101, i_102, i_103, i_104, i_105, i_106, i_107 => if (decide (0 ≤ i_107)) = true then ((idx a0.nodes i_106).bind fun x132 => if 0 ≤ i_107 ∧ i_107 < (12 : Int) then (Jn (fun (b_134 : Bool) => if b_134 = true then (skip_List_string_trail.l0 a0 a1 k_130 i_94 i_95 i_96 i_97 i_98 i_99 i_100 i_101 i_102 i_103 i_104 i_105 (w64 (St104.get x132.next_ i_107)) i_107) else ((some (St107.put (⟨i_94, i_95, i_96, i_97, i_98, i_99, i_100, i_101, i_102, i_103, i_104, i_105⟩ : St107) i_107 i_106)).bind fun y149 => skip_List_string_trail.l0 a0 a1 k_130 y149.e0 y149.e1 y149.e2 y149.e3 y149.e4 y149.e5 y149.e6 y149.e7 y149.e8 y149.e9 y149.e10 y149.e11 i_106 (w64 (i_107 - 1)))) (fun J_135 => if ((w64 (St104.get x132.next_ i_107)) != 0) = true then ((idx a0.nodes (w64 (St104.get x132.next_ i_107))).bind fun x151 => (ikey_Compare k_130 x151.key a1).bind fun r152 => J_135 (decide (r152 < 0))) else (J_135 false))) else none) else (some (⟨i_94, i_95, i_96, i_97, i_98, i_99, i_100, i_101, i_102, i_103, i_104, i_105⟩ : St107))
def skip_List_string_trail (k : Nat) (a0 : skip_List_string) (a1 : IKey) : Option St107 := skip_List_string_trail.l0 a0 a1 k 0 0 0 0 0 0 0 0 0 0 0 0 0 (w64 (a0.height - 1))
def skip_List_string_Before (k : Nat) (a0 : skip_List_string) (a1 : IKey) : Option Int := (skip_List_string_none a0).bind fun r6 => if r6 = true then (some 0) else ((skip_List_string_trail k a0 a1).bind fun r9 => some (St107.get r9 0))
def skip_List_string_Seek (k : Nat) (a0 : skip_List_string) (a1 : IKey) : Option Int := (skip_List_string_none a0).bind fun r6 => if r6 = true then (some 0) else ((skip_List_string_Before k a0 a1).bind fun r12 => (idx a0.nodes r12).bind fun x14 => some (w64 (St104.get x14.next_ 0)))
def skip_List_string_Insert.l0 (a0 : skip_List_string) (a1 : IKey) (a2 : ByteArray) (a3 : Int) (r40 : St107) : Nat → (List skip_node_string) → Int → Int → Int → Int → Int → Int → Int → Int → Int → Int → Int → Int → Int → Option (Int × skip_List_string)
  | 0, _, _, _, _, _, _, _, _, _, _, _, _, _, _ => none
  | k_100 + 1, l_70, i_71, i_72, i_73, i_74, i_75, i_76, i_77, i_78, i_79, i_80, i_81, i_82, i_83 => if (decide (i_83 < a3)) = true then (if 0 ≤ i_83 ∧ i_83 < (12 : Int) then ((idx l_70 (St107.get r40 i_83)).bind fun x190 => (some (St104.put (⟨i_71, i_72, i_73, i_74, i_75, i_76, i_77, i_78, i_79, i_80, i_81, i_82⟩ : St104) i_83 (St104.get x190.next_ i_83))).bind fun y192 => (idx l_70 (St107.get r40 i_83)).bind fun x195 => (some (St104.put x195.next_ i_83 (w32 (a0.nodes.length : Int)))).bind fun y197 => (upd l_70 (St107.get r40 i_83) (⟨x195.key, x195.value, x195.height, y197, x195.prev⟩ : skip_node_string)).bind fun l199 => skip_List_string_Insert.l0 a0 a1 a2 a3 r40 k_100 l199 y192.e0 y192.e1 y192.e2 y192.e3 y192.e4 y192.e5 y192.e6 y192.e7 y192.e8 y192.e9 y192.e10 y192.e11 (w64 (i_83 + 1))) else none) else ((push 2010535547779 l_70 (⟨a1, a2, a3, (⟨i_71, i_72, i_73, i_74, i_75, i_76, i_77, i_78, i_79, i_80, i_81, i_82⟩ : St104), w32 (St107.get r40 0)⟩ : skip_node_string)).bind fun l205 => Jn (fun (l_101 : (List skip_node_string)) (i_102 : Int) => some (0, (⟨l_101, a0.most, maxI a0.height a3, i_102⟩ : skip_List_string))) (fun J_104 => if ((w64 (St104.get (⟨i_71, i_72, i_73, i_74, i_75, i_76, i_77, i_78, i_79, i_80, i_81, i_82⟩ : St104) 0)) != 0) = true then ((idx l205 (w64 (St104.get (⟨i_71, i_72, i_73, i_74, i_75, i_76, i_77, i_78, i_79, i_80, i_81, i_82⟩ : St104) 0))).bind fun x218 => (upd l205 (w64 (St104.get (⟨i_71, i_72, i_73, i_74, i_75, i_76, i_77, i_78, i_79, i_80, i_81, i_82⟩ : St104) 0)) (⟨x218.key, x218.value, x218.height, x218.next_, w32 (a0.nodes.length : Int)⟩ : skip_node_string)).bind fun l219 => J_104 l219 a0.last) else (J_104 l205 (a0.nodes.length : Int))))
def skip_List_string_Insert (k : Nat) (a0 : skip_List_string) (a1 : IKey) (a2 : ByteArray) (a3 : Int) : Option (Int × skip_List_string) := (skip_List_string_none a0).bind fun r11 => if r11 = true then (some (1, a0)) else ((ikey_Valid a1).bind fun r14 => if (!r14) = true then (some (30, a0)) else (if ((decide (a3 < 1)) || (decide (12 < a3))) = true then (some (2, a0)) else ((skip_List_string_Seek k a0 a1).bind fun r28 => Jn (fun (b_4 : Bool) => if b_4 = true then (some (81, a0)) else (if (decide (a0.most < (a0.nodes.length : Int))) = true then (some (82, a0)) else ((skip_List_string_trail k a0 a1).bind fun r40 => skip_List_string_Insert.l0 a0 a1 a2 a3 r40 k a0.nodes 0 0 0 0 0 0 0 0 0 0 0 0 0))) (fun J_5 => if (r28 != 0) = true then ((idx a0.nodes r28).bind fun x222 => J_5 (IKey.eqb x222.key a1)) else (J_5 false)))))
def mem_Table_Add (k : Nat) (a0 : mem_Table) (a1 : Int) (a2 : Op) (a3 : Int) : Option (Int × mem_Table) := if (!a0.made) = true then (some (1, a0)) else (if a0.frozen = true then (some (230, a0)) else (if ((decide (a1 < 1)) || (decide (72057594037927935 < a1))) = true then (some (2, a0)) else ((mem_may a2).bind fun r24 => if (!r24) = true then (some (40, a0)) else (if ((decide (a3 < 1)) || (decide (12 < a3))) = true then (some (2, a0)) else (Jn (fun (x_1 : mem_Table) (i_2 : Int) => if (i_2 != 0) = true then (some (i_2, x_1)) else (Jn (fun (i_7 : Int) => some (0, (⟨x_1.made, x_1.frozen, x_1.log, x_1.list, x_1.tombs, w64 (x_1.size + (w64 ((w64 (16 + (a2.Key.size : Int))) + (a2.Value.size : Int)))), w64 (x_1.n + 1), i_7, maxI x_1.high a1⟩ : mem_Table))) (fun J_9 => if ((x_1.n == 0) || (decide (a1 < x_1.low))) = true then (J_9 a1) else (J_9 x_1.low)))) (fun J_4 => if (a2.Kind == 2) = true then ((mem_Table_addTomb k a0 (⟨a2.Key, a2.Value, a1⟩ : Tomb)).bind fun r56 => J_4 r56.2 r56.1) else ((skip_List_string_Insert k a0.list (⟨a2.Key, a1, a2.Kind⟩ : IKey) a2.Value a3).bind fun r60 => J_4 (⟨a0.made, a0.frozen, a0.log, r60.2, a0.tombs, a0.size, a0.n, a0.low, a0.high⟩ : mem_Table) r60.1)))))))
def r04_May (a0 : Op) : Option Bool := if ((decide ((a0.Key.size : Int) < 1)) || (decide (1024 < (a0.Key.size : Int)))) = true then (some false) else (if (a0.Kind == 0) = true then (some (sEq a0.Value (ByteArray.mk #[]))) else (if (a0.Kind == 1) = true then (some (decide ((a0.Value.size : Int) ≤ 65536))) else (if (a0.Kind == 2) = true then (some (((decide (1 ≤ (a0.Value.size : Int))) && (decide ((a0.Value.size : Int) ≤ 1024))) && (sLt a0.Key a0.Value))) else (some false))))
def r10_key (a0 : Entry) : Option IKey := some (⟨a0.Key, a0.Seq, a0.Kind⟩ : IKey)
def r03_Compare (a0 : IKey) (a1 : IKey) : Option Int := if (!sEq a0.Key a1.Key) = true then (if (sLt a0.Key a1.Key) = true then (some (-1)) else (some 1)) else (if (a0.Seq != a1.Seq) = true then (if (decide (a1.Seq < a0.Seq)) = true then (some (-1)) else (some 1)) else (if (a0.Kind != a1.Kind) = true then (if (decide (a1.Kind < a0.Kind)) = true then (some (-1)) else (some 1)) else (some 0)))
def r10_place.l0 (a0 : (List Entry)) (a1 : IKey) : Nat → Int → Int → Option Int
  | 0, _, _ => none
  | k_22 + 1, i_16, i_17 => if (decide (i_16 < i_17)) = true then ((idx a0 (w64 (Int.tdiv (w64 (i_16 + i_17)) 2))).bind fun x51 => (r10_key x51).bind fun r52 => (r03_Compare r52 a1).bind fun r54 => if (decide (r54 < 0)) = true then (r10_place.l0 a0 a1 k_22 (w64 ((w64 (Int.tdiv (w64 (i_16 + i_17)) 2)) + 1)) i_17) else (r10_place.l0 a0 a1 k_22 i_16 (w64 (Int.tdiv (w64 (i_16 + i_17)) 2)))) else (some i_16)
def r10_place (k : Nat) (a0 : (List Entry)) (a1 : IKey) : Option Int := r10_place.l0 a0 a1 k 0 (a0.length : Int)
def r10_at (a0 : (List Entry)) (a1 : Int) : Option R10_Spot := if (decide (a1 < 0)) = true then (some (⟨0, (⟨(ByteArray.mk #[]), 0, 0⟩ : IKey)⟩ : R10_Spot)) else (if (decide ((a0.length : Int) ≤ a1)) = true then (some (⟨2, (⟨(ByteArray.mk #[]), 0, 0⟩ : IKey)⟩ : R10_Spot)) else ((idx a0 a1).bind fun x12 => (r10_key x12).bind fun r13 => some (⟨1, r13⟩ : R10_Spot)))
def r10_Move (k : Nat) (a0 : (List Entry)) (a1 : R10_Spot) (a2 : Int) (a3 : IKey) : Option R10_Spot := if ((a2 == 1) || ((a2 == 4) && (a1.State == 0))) = true then ((r10_at a0 0).bind fun r61 => some r61) else (if ((a2 == 2) || ((a2 == 5) && (a1.State == 2))) = true then ((r10_at a0 (w64 ((a0.length : Int) - 1))).bind fun r66 => some r66) else (if (a2 == 3) = true then ((r10_place k a0 a3).bind fun r70 => (r10_at a0 r70).bind fun r72 => some r72) else (if ((a2 == 4) && (a1.State == 1)) = true then ((r10_place k a0 a1.Key).bind fun r77 => Jn (fun (i_13 : Int) => (r10_at a0 i_13).bind fun r88 => some r88) (fun J_15 => Jn (fun (b_16 : Bool) => if b_16 = true then (J_15 (w64 (r77 + 1))) else (J_15 r77)) (fun J_17 => if (decide (r77 < (a0.length : Int))) = true then ((idx a0 r77).bind fun x97 => (r10_key x97).bind fun r98 => J_17 (IKey.eqb r98 a1.Key)) else (J_17 false)))) else (if ((a2 == 5) && (a1.State == 1)) = true then ((r10_place k a0 a1.Key).bind fun r102 => (r10_at a0 (w64 (r102 - 1))).bind fun r104 => some r104) else (some a1)))))
def skip_List_string_First (a0 : skip_List_string) : Option Int := (skip_List_string_none a0).bind fun r4 => if r4 = true then (some 0) else ((idx a0.nodes 0).bind fun x10 => some (w64 (St104.get x10.next_ 0)))
def mem_Cursor_stand (a0 : mem_Cursor) (a1 : Int) (a2 : Int) : Option (Bool × mem_Cursor) := Jn (fun (i_1 : Int) => some ((a1 != 0), (⟨a0.t, i_1, a1⟩ : mem_Cursor))) (fun J_3 => if (a1 == 0) = true then (J_3 a2) else (J_3 1))
def mem_Cursor_First (a0 : mem_Cursor) : Option (Bool × mem_Cursor) := (skip_List_string_First a0.t.list).bind fun r20 => (mem_Cursor_stand a0 r20 2).bind fun r22 => some (r22.1, (⟨a0.t, r22.2.where_, r22.2.n⟩ : mem_Cursor))
def skip_List_string_Last (a0 : skip_List_string) : Option Int := (skip_List_string_none a0).bind fun r4 => if r4 = true then (some 0) else (some a0.last)
def mem_Cursor_Last (a0 : mem_Cursor) : Option (Bool × mem_Cursor) := (skip_List_string_Last a0.t.list).bind fun r20 => (mem_Cursor_stand a0 r20 0).bind fun r22 => some (r22.1, (⟨a0.t, r22.2.where_, r22.2.n⟩ : mem_Cursor))
def mem_Cursor_Seek (k : Nat) (a0 : mem_Cursor) (a1 : IKey) : Option (Bool × mem_Cursor) := (skip_List_string_Seek k a0.t.list a1).bind fun r26 => (mem_Cursor_stand a0 r26 2).bind fun r29 => some (r29.1, (⟨a0.t, r29.2.where_, r29.2.n⟩ : mem_Cursor))
def skip_List_string_has (a0 : skip_List_string) (a1 : Int) : Option Bool := (skip_List_string_none a0).bind fun r1 => some (((!r1) && (decide (1 ≤ a1))) && (decide (a1 < (a0.nodes.length : Int))))
def skip_List_string_Next (a0 : skip_List_string) (a1 : Int) : Option Int := (skip_List_string_has a0 a1).bind fun r4 => if (!r4) = true then (some 0) else ((idx a0.nodes a1).bind fun x10 => some (w64 (St104.get x10.next_ 0)))
def mem_Cursor_Next (a0 : mem_Cursor) : Option (Bool × mem_Cursor) := Jn (fun (b_1 : Bool) (i_2 : Int) (i_3 : Int) => some (b_1, (⟨a0.t, i_2, i_3⟩ : mem_Cursor))) (fun J_5 => if (a0.where_ == 0) = true then ((mem_Cursor_First a0).bind fun r31 => J_5 r31.1 r31.2.where_ r31.2.n) else (if (a0.where_ == 2) = true then (J_5 false a0.where_ a0.n) else ((skip_List_string_Next a0.t.list a0.n).bind fun r36 => (mem_Cursor_stand a0 r36 2).bind fun r38 => J_5 r38.1 r38.2.where_ r38.2.n)))
def skip_List_string_Prev (a0 : skip_List_string) (a1 : Int) : Option Int := (skip_List_string_has a0 a1).bind fun r4 => if (!r4) = true then (some 0) else ((idx a0.nodes a1).bind fun x10 => some (w64 x10.prev))
def mem_Cursor_Prev (a0 : mem_Cursor) : Option (Bool × mem_Cursor) := Jn (fun (b_1 : Bool) (i_2 : Int) (i_3 : Int) => some (b_1, (⟨a0.t, i_2, i_3⟩ : mem_Cursor))) (fun J_5 => if (a0.where_ == 2) = true then ((mem_Cursor_Last a0).bind fun r31 => J_5 r31.1 r31.2.where_ r31.2.n) else (if (a0.where_ == 0) = true then (J_5 false a0.where_ a0.n) else ((skip_List_string_Prev a0.t.list a0.n).bind fun r36 => (mem_Cursor_stand a0 r36 0).bind fun r38 => J_5 r38.1 r38.2.where_ r38.2.n)))
def l10_moved (k : Nat) (a0 : mem_Cursor) (a1 : Int) (a2 : IKey) : Option (Bool × mem_Cursor) := if (a1 == 1) = true then ((mem_Cursor_First a0).bind fun r20 => some (r20.1, (⟨a0.t, r20.2.where_, r20.2.n⟩ : mem_Cursor))) else (if (a1 == 2) = true then ((mem_Cursor_Last a0).bind fun r24 => some (r24.1, (⟨a0.t, r24.2.where_, r24.2.n⟩ : mem_Cursor))) else (if (a1 == 3) = true then ((mem_Cursor_Seek k a0 a2).bind fun r28 => some (r28.1, (⟨a0.t, r28.2.where_, r28.2.n⟩ : mem_Cursor))) else (if (a1 == 4) = true then ((mem_Cursor_Next a0).bind fun r32 => some (r32.1, (⟨a0.t, r32.2.where_, r32.2.n⟩ : mem_Cursor))) else ((mem_Cursor_Prev a0).bind fun r35 => some (r35.1, (⟨a0.t, r35.2.where_, r35.2.n⟩ : mem_Cursor))))))
def skip_List_string_Node (a0 : skip_List_string) (a1 : Int) : Option (IKey × ByteArray × Bool) := (skip_List_string_has a0 a1).bind fun r7 => if (!r7) = true then (some ((⟨(ByteArray.mk #[]), 0, 0⟩ : IKey), (ByteArray.mk #[]), false)) else ((idx a0.nodes a1).bind fun x15 => (idx a0.nodes a1).bind fun x16 => some (x15.key, x16.value, true))
def mem_Table_entry (a0 : mem_Table) (a1 : Int) : Option Entry := (skip_List_string_Node a0.list a1).bind fun r10 => some (⟨r10.1.Key, r10.1.Seq, r10.1.Kind, r10.2.1⟩ : Entry)
def mem_Cursor_Here (a0 : mem_Cursor) : Option (Entry × Bool) := if (a0.where_ != 1) = true then (some ((⟨(ByteArray.mk #[]), 0, 0, (ByteArray.mk #[])⟩ : Entry), false)) else ((mem_Table_entry a0.t a0.n).bind fun r23 => some (r23, true))
def r10_Here (k : Nat) (a0 : (List Entry)) (a1 : R10_Spot) : Option (Entry × Bool) := if (a1.State != 1) = true then (some ((⟨(ByteArray.mk #[]), 0, 0, (ByteArray.mk #[])⟩ : Entry), false)) else ((r10_place k a0 a1.Key).bind fun r10 => Jn (fun (b_4 : Bool) => if b_4 = true then (some ((⟨(ByteArray.mk #[]), 0, 0, (ByteArray.mk #[])⟩ : Entry), false)) else ((idx a0 r10).bind fun x30 => some (x30, true))) (fun J_5 => if (decide ((a0.length : Int) ≤ r10)) = true then (J_5 true) else ((idx a0 r10).bind fun x32 => (r10_key x32).bind fun r33 => J_5 (!IKey.eqb r33 a1.Key))))
def l10_MemCursors.l1 (l_3351 : (List Entry)) (l_3354 : (List Tomb)) (i_3355 : Int) (i_3356 : Int) (i_3357 : Int) (i_3358 : Int) (x23977 : L10_Move) (J_5756 : (List Entry) → (List Tomb) → Int → Int → Int → Int → Int → Option Bool) (J_5863 : Option Bool) : Nat → Int → Option Bool
  | 0, _ => none
  | k_5894 + 1, i_5884 => if (decide (i_5884 < (l_3354.length : Int))) = true then ((idx l_3354 i_5884).bind fun x26456 => Jn (fun (b_5898 : Bool) => if b_5898 = true then (J_5756 l_3351 l_3354 i_3355 i_3356 i_3357 i_3358 81) else (l10_MemCursors.l1 l_3351 l_3354 i_3355 i_3356 i_3357 i_3358 x23977 J_5756 J_5863 k_5894 (w64 (i_5884 + 1)))) (fun J_5899 => if (sEq x26456.Begin x23977.Put.Op.Key) = true then ((idx l_3354 i_5884).bind fun x26463 => J_5899 (x26463.Seq == x23977.Put.Seq)) else (J_5899 false))) else (J_5863)
def l10_MemCursors.l0 (a0 : (List L10_Move)) : Nat → mem_Table → (List Entry) → (List Tomb) → Int → Int → Int → Int → Int → Int → Int → Int → (List R10_Spot) → Int → Option Bool
  | 0, _, _, _, _, _, _, _, _, _, _, _, _, _ => none
  | k_4642 + 1, x_3348, l_3351, l_3354, i_3355, i_3356, i_3357, i_3358, i_3359, i_3360, i_3361, i_3362, l_3363, i_3364 => if (decide (i_3364 < (a0.length : Int))) = true then (Jn (fun (x_5263 : mem_Table) (l_5266 : (List Entry)) (l_5269 : (List Tomb)) (i_5270 : Int) (i_5271 : Int) (i_5272 : Int) (i_5273 : Int) (i_5274 : Int) (i_5275 : Int) (i_5276 : Int) (i_5277 : Int) (l_5278 : (List R10_Spot)) => l10_MemCursors.l0 a0 k_4642 x_5263 l_5266 l_5269 i_5270 i_5271 i_5272 i_5273 i_5274 i_5275 i_5276 i_5277 l_5278 (w64 (i_3364 + 1))) (fun J_5280 => (idx a0 i_3364).bind fun x23977 => (l10_among x23977.On 2).bind fun r23981 => (l10_among x23977.Kind 6).bind fun r23983 => Jn (fun (x_5582 : mem_Table) (l_5585 : (List Entry)) (l_5588 : (List Tomb)) (i_5589 : Int) (i_5590 : Int) (i_5591 : Int) (i_5592 : Int) (i_5593 : Int) (i_5594 : Int) (i_5595 : Int) (i_5596 : Int) (l_5597 : (List R10_Spot)) => (mem_Cursor_Here (⟨x_5582, i_5593, i_5594⟩ : mem_Cursor)).bind fun r25221 => (idx l_5597 0).bind fun x25226 => (r10_Here k_4642 l_5585 x25226).bind fun r25227 => if ((!Entry.eqb r25221.1 r25227.1) || (!(r25221.2 == r25227.2))) = true then (some false) else ((mem_Cursor_Here (⟨x_5582, i_5595, i_5596⟩ : mem_Cursor)).bind fun r25253 => (idx l_5597 1).bind fun x25258 => (r10_Here k_4642 l_5585 x25258).bind fun r25259 => if ((!Entry.eqb r25253.1 r25259.1) || (!(r25253.2 == r25259.2))) = true then (some false) else (J_5280 x_5582 l_5585 l_5588 i_5589 i_5590 i_5591 i_5592 i_5593 i_5594 i_5595 i_5596 l_5597))) (fun J_5599 => if (r23983 == 0) = true then ((mem_Table_Add k_4642 x_3348 x23977.Put.Seq x23977.Put.Op x23977.Put.Height).bind fun r25270 => Jn (fun (l_5746 : (List Entry)) (l_5749 : (List Tomb)) (i_5750 : Int) (i_5751 : Int) (i_5752 : Int) (i_5753 : Int) (i_5754 : Int) => if (r25270.1 != i_5754) = true then (some false) else (J_5599 r25270.2 l_5746 l_5749 i_5750 i_5751 i_5752 i_5753 i_3359 i_3360 i_3361 i_3362 l_3363)) (fun J_5756 => if ((decide (x23977.Put.Seq < 1)) || (decide (72057594037927935 < x23977.Put.Seq))) = true then (J_5756 l_3351 l_3354 i_3355 i_3356 i_3357 i_3358 2) else ((r04_May x23977.Put.Op).bind fun r25889 => if (!r25889) = true then (J_5756 l_3351 l_3354 i_3355 i_3356 i_3357 i_3358 40) else (if ((decide (x23977.Put.Height < 1)) || (decide (12 < x23977.Put.Height))) = true then (J_5756 l_3351 l_3354 i_3355 i_3356 i_3357 i_3358 2) else (Jn ((r10_key (⟨x23977.Put.Op.Key, x23977.Put.Seq, x23977.Put.Op.Kind, x23977.Put.Op.Value⟩ : Entry)).bind fun r26136 => (r10_place k_4642 l_3351 r26136).bind fun r26138 => Jn (fun (b_5827 : Bool) => if b_5827 = true then (J_5756 l_3351 l_3354 i_3355 i_3356 i_3357 i_3358 81) else (if (decide (1048576 ≤ (l_3351.length : Int))) = true then (J_5756 l_3351 l_3354 i_3355 i_3356 i_3357 i_3358 82) else ((cut l_3351 0 r26138).bind fun l26173 => (pushN 4691249611691 ([]) l26173).bind fun l26174 => (push 4691249611691 l26174 (⟨x23977.Put.Op.Key, x23977.Put.Seq, x23977.Put.Op.Kind, x23977.Put.Op.Value⟩ : Entry)).bind fun l26179 => (cut l_3351 r26138 (l_3351.length : Int)).bind fun l26182 => (pushN 4691249611691 l26179 l26182).bind fun l26183 => Jn (fun (i_5833 : Int) => J_5756 l26183 l_3354 (w64 (i_3355 + 1)) (w64 (i_3356 + (w64 ((w64 (16 + (x23977.Put.Op.Key.size : Int))) + (x23977.Put.Op.Value.size : Int))))) i_5833 (maxI i_3358 x23977.Put.Seq) 0) (fun J_5835 => if ((i_3355 == 0) || (decide (x23977.Put.Seq < i_3357))) = true then (J_5835 x23977.Put.Seq) else (J_5835 i_3357))))) (fun J_5828 => if (decide (r26138 < (l_3351.length : Int))) = true then ((idx l_3351 r26138).bind fun x26222 => (r10_key x26222).bind fun r26223 => (r10_key (⟨x23977.Put.Op.Key, x23977.Put.Seq, x23977.Put.Op.Kind, x23977.Put.Op.Value⟩ : Entry)).bind fun r26225 => J_5828 (IKey.eqb r26223 r26225)) else (J_5828 false))) (fun J_5823 => if (x23977.Put.Op.Kind == 2) = true then (Jn (Jn (fun (l_5866 : (List Tomb)) => Jn (fun (i_5872 : Int) => J_5756 l_3351 l_5866 (w64 (i_3355 + 1)) (w64 (i_3356 + (w64 ((w64 (16 + (x23977.Put.Op.Key.size : Int))) + (x23977.Put.Op.Value.size : Int))))) i_5872 (maxI i_3358 x23977.Put.Seq) 0) (fun J_5874 => if ((i_3355 == 0) || (decide (x23977.Put.Seq < i_3357))) = true then (J_5874 x23977.Put.Seq) else (J_5874 i_3357))) (fun J_5868 => (pushN 5629499534059 ([]) l_3354).bind fun l26368 => (push 5629499534059 l26368 (⟨x23977.Put.Op.Key, x23977.Put.Op.Value, x23977.Put.Seq⟩ : Tomb)).bind fun l26375 => J_5868 l26375)) (fun J_5863 => l10_MemCursors.l1 l_3351 l_3354 i_3355 i_3356 i_3357 i_3358 x23977 J_5756 J_5863 k_4642 0)) else (J_5823))))))) else ((idx l_3363 r23981).bind fun x26464 => (r10_Move k_4642 l_3351 x26464 r23983 x23977.Key).bind fun r26465 => (idx l_3363 r23981).bind fun x26467 => (upd l_3363 r23981 r26465).bind fun l26469 => if r23981 = 0 then ((idx l26469 r23981).bind fun x26473 => (l10_moved k_4642 (⟨x_3348, i_3359, i_3360⟩ : mem_Cursor) r23983 x23977.Key).bind fun r26475 => if (!(r26475.1 == (x26473.State == 1))) = true then (some false) else (J_5599 x_3348 l_3351 l_3354 i_3355 i_3356 i_3357 i_3358 r26475.2.where_ r26475.2.n i_3361 i_3362 l26469)) else if r23981 = 1 then ((idx l26469 r23981).bind fun x26481 => (l10_moved k_4642 (⟨x_3348, i_3361, i_3362⟩ : mem_Cursor) r23983 x23977.Key).bind fun r26483 => if (!(r26483.1 == (x26481.State == 1))) = true then (some false) else (J_5599 x_3348 l_3351 l_3354 i_3355 i_3356 i_3357 i_3358 i_3359 i_3360 r26483.2.where_ r26483.2.n l26469)) else none)))) else (some true)
def l10_MemCursors (k : Nat) (a0 : (List L10_Move)) : Option Bool := (mkS 2513169434916 1 (⟨(⟨(ByteArray.mk #[]), 0, 0⟩ : IKey), (ByteArray.mk #[]), 0, (⟨0, 0, 0, 0, 0, 0, 0, 0, 0, 0, 0, 0⟩ : St104), 0⟩ : skip_node_string)).bind fun l38 => (tomb_valid k ([])).bind fun r52 => (l10_names).bind fun r67 => if (!r67) = true then (some false) else ((mkS 7036874417766 2 (⟨0, (⟨(ByteArray.mk #[]), 0, 0⟩ : IKey)⟩ : R10_Spot)).bind fun l82 => l10_MemCursors.l0 a0 k (⟨true, false, 1, (⟨l38, 1048576, 0, 0⟩ : skip_List_string), (⟨r52, true⟩ : tomb_Set), 0, 0, 0, 0⟩ : mem_Table) ([]) ([]) 0 0 0 0 0 0 0 0 l82 0)
end Go.Proofs.Ytbaemhkfmddakaa.Mo
