/-
  No cell of these rows narrows 'for every input' (looked for: loops, veiled, ifaces, maps, wideKeys, modest, calm, conditions, laid).
  DERIVED. THE GIVEN ROWS OF THIS SEAT. 6 by the template 'for every input the law returns true; each argument reads behind the call as it read before'; 0 by the template 'total and deterministic' (their statements: YtknedifgapgmbaaTotals.lean).
  GIVEN WITH THE SEED: the statements are not yours to turn. If you find one false, say at which input.
  Laid BY PROGRAM, IN A SANDBOX (cutbox-rows.mjs): the forced cells as the released guide's own fill.sh prints them over the translation 20ee8e01be969100… (all of the seat's roots in one cut). By AI agents, Wed Nov 11 2026. No macro, syntax, notation, axiom, sorry.
-/
import Derived.Test.YtknedifgapgmbaaChecked
import GoSem.Claim
import GoSem.ClaimJoined
import GoSem.ClaimMapViews
import Derived.JoinedTies
import Derived.KernelRfl
namespace Go.Proofs.Ytknedifgapgmbaa
/- THE CELL 'sum', in the pinned program and in every row, IS THE sha256 OF THE DUMP (.gsa) THAT YtknedifgapgmbaaProg.lean LOADS. Nothing in Lean hashes anything: it is a label: what it is worth is what the hold of that sum in a sandbox is worth. -/
noncomputable def Try.pinned : Pinned := { name := "ytknedifgapgmbaa", sum := "20ee8e01be96910074cb54a9b04a890040ac9dbdb655e83875c1c51bbea85039", checked := Try.checked }
namespace Rows
def none {H : Type} : Left H := { results := [], args := [] }

/-- 'morainelaw19.MergeAll': WHATEVER THE INPUT: true; the input reads as it did. -/
def mergeAllSpec : ChangeSpec := { name := "mergeAll", fn := fun _ => fun
  | [d] => { results := [.lit (.bool true)], args := [d] }
  | _ => none }
def mergeAllRow : OpenClaim := { program := "ytknedifgapgmbaa", sum := "20ee8e01be96910074cb54a9b04a890040ac9dbdb655e83875c1c51bbea85039", func := "moraine/morainelaw19.MergeAll", spec := "mergeAll", inPlace := ["internal/bytealg.abigen_runtime_cmpstring"], unfollowed := true, recurses := true, apart := false }
def MergeAllSaid : Prop := mergeAllRow.holds Try.pinned (OpenSpec.ofChange mergeAllSpec)

/-- ITS FALSE NEIGHBOUR: 'it returns false'. Refute it at one input. -/
def mergeAllWrong : ChangeSpec := { name := "mergeAll", fn := fun _ => fun
  | [d] => { results := [.lit (.bool false)], args := [d] }
  | _ => none }
def MergeAllWrongFalsely : Prop := mergeAllRow.holds Try.pinned (OpenSpec.ofChange mergeAllWrong)

/-- 'morainelaw19.MergeLists': WHATEVER THE INPUT: true; the input reads as it did. -/
def mergeListsSpec : ChangeSpec := { name := "mergeLists", fn := fun _ => fun
  | [d1, d2] => { results := [.lit (.bool true)], args := [d1, d2] }
  | _ => none }
def mergeListsRow : OpenClaim := { program := "ytknedifgapgmbaa", sum := "20ee8e01be96910074cb54a9b04a890040ac9dbdb655e83875c1c51bbea85039", func := "moraine/morainelaw19.MergeLists", spec := "mergeLists", inPlace := ["internal/bytealg.abigen_runtime_cmpstring"], unfollowed := true, recurses := true, apart := false }
def MergeListsSaid : Prop := mergeListsRow.holds Try.pinned (OpenSpec.ofChange mergeListsSpec)

/-- ITS FALSE NEIGHBOUR: 'it returns false'. Refute it at one input. -/
def mergeListsWrong : ChangeSpec := { name := "mergeLists", fn := fun _ => fun
  | [d1, d2] => { results := [.lit (.bool false)], args := [d1, d2] }
  | _ => none }
def MergeListsWrongFalsely : Prop := mergeListsRow.holds Try.pinned (OpenSpec.ofChange mergeListsWrong)

/-- 'morainelaw19.MergeEach': WHATEVER THE INPUT: true; the input reads as it did. -/
def mergeEachSpec : ChangeSpec := { name := "mergeEach", fn := fun _ => fun
  | [d] => { results := [.lit (.bool true)], args := [d] }
  | _ => none }
def mergeEachRow : OpenClaim := { program := "ytknedifgapgmbaa", sum := "20ee8e01be96910074cb54a9b04a890040ac9dbdb655e83875c1c51bbea85039", func := "moraine/morainelaw19.MergeEach", spec := "mergeEach", inPlace := ["internal/bytealg.abigen_runtime_cmpstring"], unfollowed := true, recurses := true, apart := false }
def MergeEachSaid : Prop := mergeEachRow.holds Try.pinned (OpenSpec.ofChange mergeEachSpec)

/-- ITS FALSE NEIGHBOUR: 'it returns false'. Refute it at one input. -/
def mergeEachWrong : ChangeSpec := { name := "mergeEach", fn := fun _ => fun
  | [d] => { results := [.lit (.bool false)], args := [d] }
  | _ => none }
def MergeEachWrongFalsely : Prop := mergeEachRow.holds Try.pinned (OpenSpec.ofChange mergeEachWrong)

/-- 'morainelaw19.MergeWalks': WHATEVER THE INPUT: true; the input reads as it did. -/
def mergeWalksSpec : ChangeSpec := { name := "mergeWalks", fn := fun _ => fun
  | [d1, d2] => { results := [.lit (.bool true)], args := [d1, d2] }
  | _ => none }
def mergeWalksRow : OpenClaim := { program := "ytknedifgapgmbaa", sum := "20ee8e01be96910074cb54a9b04a890040ac9dbdb655e83875c1c51bbea85039", func := "moraine/morainelaw19.MergeWalks", spec := "mergeWalks", inPlace := ["internal/bytealg.abigen_runtime_cmpstring"], unfollowed := true, recurses := true, apart := false }
def MergeWalksSaid : Prop := mergeWalksRow.holds Try.pinned (OpenSpec.ofChange mergeWalksSpec)

/-- ITS FALSE NEIGHBOUR: 'it returns false'. Refute it at one input. -/
def mergeWalksWrong : ChangeSpec := { name := "mergeWalks", fn := fun _ => fun
  | [d1, d2] => { results := [.lit (.bool false)], args := [d1, d2] }
  | _ => none }
def MergeWalksWrongFalsely : Prop := mergeWalksRow.holds Try.pinned (OpenSpec.ofChange mergeWalksWrong)

/-- 'morainelaw19.MergeNobody': WHATEVER THE INPUT: true; the input reads as it did. -/
def mergeNobodySpec : ChangeSpec := { name := "mergeNobody", fn := fun _ => fun
  | [d1, d2] => { results := [.lit (.bool true)], args := [d1, d2] }
  | _ => none }
def mergeNobodyRow : OpenClaim := { program := "ytknedifgapgmbaa", sum := "20ee8e01be96910074cb54a9b04a890040ac9dbdb655e83875c1c51bbea85039", func := "moraine/morainelaw19.MergeNobody", spec := "mergeNobody", inPlace := ["internal/bytealg.abigen_runtime_cmpstring"], unfollowed := true, recurses := true, apart := false }
def MergeNobodySaid : Prop := mergeNobodyRow.holds Try.pinned (OpenSpec.ofChange mergeNobodySpec)

/-- ITS FALSE NEIGHBOUR: 'it returns false'. Refute it at one input. -/
def mergeNobodyWrong : ChangeSpec := { name := "mergeNobody", fn := fun _ => fun
  | [d1, d2] => { results := [.lit (.bool false)], args := [d1, d2] }
  | _ => none }
def MergeNobodyWrongFalsely : Prop := mergeNobodyRow.holds Try.pinned (OpenSpec.ofChange mergeNobodyWrong)

/-- 'morainelaw19.MergeTurns': WHATEVER THE INPUT: true; the input reads as it did. -/
def mergeTurnsSpec : ChangeSpec := { name := "mergeTurns", fn := fun _ => fun
  | [d1, d2] => { results := [.lit (.bool true)], args := [d1, d2] }
  | _ => none }
def mergeTurnsRow : OpenClaim := { program := "ytknedifgapgmbaa", sum := "20ee8e01be96910074cb54a9b04a890040ac9dbdb655e83875c1c51bbea85039", func := "moraine/morainelaw19.MergeTurns", spec := "mergeTurns", inPlace := ["internal/bytealg.abigen_runtime_cmpstring"], unfollowed := true, recurses := true, apart := false }
def MergeTurnsSaid : Prop := mergeTurnsRow.holds Try.pinned (OpenSpec.ofChange mergeTurnsSpec)

/-- ITS FALSE NEIGHBOUR: 'it returns false'. Refute it at one input. -/
def mergeTurnsWrong : ChangeSpec := { name := "mergeTurns", fn := fun _ => fun
  | [d1, d2] => { results := [.lit (.bool false)], args := [d1, d2] }
  | _ => none }
def MergeTurnsWrongFalsely : Prop := mergeTurnsRow.holds Try.pinned (OpenSpec.ofChange mergeTurnsWrong)

/- THE SECOND FORM. 'bulk': how many values and letters a reading holds, each counted each time it is reached (what is shared counts as often as it is met; a slice's spare places count too). A statement '..UptoSaid' is the law's where the arguments, and the package variables that the reading takes, are together of bulk at most 1048576: NARROWER than '..Said'. Prove '..Said' where nothing that the law and all that it calls make is longer than what came in: it says more and counts as full. Else prove '..UptoSaid'. A law counts once. -/
mutual
def uptoBulk {H : Type} : DataW H → Nat
  | .lit (.string bytes) => bytes.length + 1
  | .lit _ => 1
  | .nil => 1
  | .ptr d => uptoBulk d + 1
  | .slice elems spare => uptoBulkAll elems + uptoBulkAll spare + 1
  | .agg parts => uptoBulkAll parts + 1
  | .iface _ d => uptoBulk d + 1
  | .map entries => uptoBulkEntries entries + 1
  | .held _ => 1
def uptoBulkAll {H : Type} : List (DataW H) → Nat
  | [] => 0
  | d :: r => uptoBulk d + uptoBulkAll r
def uptoBulkEntries {H : Type} : List (Lit × DataW H) → Nat
  | [] => 0
  | x :: r => uptoBulkEntry x + uptoBulkEntries r
def uptoBulkEntry {H : Type} : Lit × DataW H → Nat
  | (.string bytes, d) => bytes.length + uptoBulk d + 1
  | (_, d) => uptoBulk d + 1
 end
def uptoSmall : (H : Type) → List (DataW H) → Bool := fun _ ds => decide (uptoBulkAll ds ≤ 1048576)
def OpenSpec.upto (s : _root_.Go.ChangeSpec) : _root_.Go.OpenSpec := { _root_.Go.OpenSpec.ofChange s with cond := some uptoSmall }

/-- 'morainelaw19.MergeAll', WHERE WHAT IT READS IS OF BULK AT MOST 1048576: true; the input reads as it did. -/
def mergeAllUptoRow : OpenClaim := { program := "ytknedifgapgmbaa", sum := "20ee8e01be96910074cb54a9b04a890040ac9dbdb655e83875c1c51bbea85039", func := "moraine/morainelaw19.MergeAll", spec := "mergeAll", inPlace := ["internal/bytealg.abigen_runtime_cmpstring"], unfollowed := true, recurses := true, apart := false, narrowed := true }
def MergeAllUptoSaid : Prop := mergeAllUptoRow.holds Try.pinned (OpenSpec.upto mergeAllSpec)

/-- 'morainelaw19.MergeLists', WHERE WHAT IT READS IS OF BULK AT MOST 1048576: true; the input reads as it did. -/
def mergeListsUptoRow : OpenClaim := { program := "ytknedifgapgmbaa", sum := "20ee8e01be96910074cb54a9b04a890040ac9dbdb655e83875c1c51bbea85039", func := "moraine/morainelaw19.MergeLists", spec := "mergeLists", inPlace := ["internal/bytealg.abigen_runtime_cmpstring"], unfollowed := true, recurses := true, apart := false, narrowed := true }
def MergeListsUptoSaid : Prop := mergeListsUptoRow.holds Try.pinned (OpenSpec.upto mergeListsSpec)

/-- 'morainelaw19.MergeEach', WHERE WHAT IT READS IS OF BULK AT MOST 1048576: true; the input reads as it did. -/
def mergeEachUptoRow : OpenClaim := { program := "ytknedifgapgmbaa", sum := "20ee8e01be96910074cb54a9b04a890040ac9dbdb655e83875c1c51bbea85039", func := "moraine/morainelaw19.MergeEach", spec := "mergeEach", inPlace := ["internal/bytealg.abigen_runtime_cmpstring"], unfollowed := true, recurses := true, apart := false, narrowed := true }
def MergeEachUptoSaid : Prop := mergeEachUptoRow.holds Try.pinned (OpenSpec.upto mergeEachSpec)

/-- 'morainelaw19.MergeWalks', WHERE WHAT IT READS IS OF BULK AT MOST 1048576: true; the input reads as it did. -/
def mergeWalksUptoRow : OpenClaim := { program := "ytknedifgapgmbaa", sum := "20ee8e01be96910074cb54a9b04a890040ac9dbdb655e83875c1c51bbea85039", func := "moraine/morainelaw19.MergeWalks", spec := "mergeWalks", inPlace := ["internal/bytealg.abigen_runtime_cmpstring"], unfollowed := true, recurses := true, apart := false, narrowed := true }
def MergeWalksUptoSaid : Prop := mergeWalksUptoRow.holds Try.pinned (OpenSpec.upto mergeWalksSpec)

/-- 'morainelaw19.MergeNobody', WHERE WHAT IT READS IS OF BULK AT MOST 1048576: true; the input reads as it did. -/
def mergeNobodyUptoRow : OpenClaim := { program := "ytknedifgapgmbaa", sum := "20ee8e01be96910074cb54a9b04a890040ac9dbdb655e83875c1c51bbea85039", func := "moraine/morainelaw19.MergeNobody", spec := "mergeNobody", inPlace := ["internal/bytealg.abigen_runtime_cmpstring"], unfollowed := true, recurses := true, apart := false, narrowed := true }
def MergeNobodyUptoSaid : Prop := mergeNobodyUptoRow.holds Try.pinned (OpenSpec.upto mergeNobodySpec)

/-- 'morainelaw19.MergeTurns', WHERE WHAT IT READS IS OF BULK AT MOST 1048576: true; the input reads as it did. -/
def mergeTurnsUptoRow : OpenClaim := { program := "ytknedifgapgmbaa", sum := "20ee8e01be96910074cb54a9b04a890040ac9dbdb655e83875c1c51bbea85039", func := "moraine/morainelaw19.MergeTurns", spec := "mergeTurns", inPlace := ["internal/bytealg.abigen_runtime_cmpstring"], unfollowed := true, recurses := true, apart := false, narrowed := true }
def MergeTurnsUptoSaid : Prop := mergeTurnsUptoRow.holds Try.pinned (OpenSpec.upto mergeTurnsSpec)

end Rows
end Go.Proofs.Ytknedifgapgmbaa
