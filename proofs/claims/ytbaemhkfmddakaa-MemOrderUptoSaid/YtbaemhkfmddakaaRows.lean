/-
  No cell of these rows narrows 'for every input' (looked for: loops, veiled, ifaces, maps, wideKeys, modest, calm, conditions, laid).
  DERIVED. THE GIVEN ROWS OF THIS SEAT. 3 by the template 'for every input the law returns true; each argument reads behind the call as it read before'; 0 by the template 'total and deterministic' (their statements: YtbaemhkfmddakaaTotals.lean).
  GIVEN WITH THE SEED: the statements are not yours to turn. If you find one false, say at which input.
  Laid BY PROGRAM, IN A SANDBOX (cutbox-rows.mjs): the forced cells as the released guide's own fill.sh prints them over the translation 469513494f6ef494… (all of the seat's roots in one cut). By AI agents, Wed Nov 11 2026. No macro, syntax, notation, axiom, sorry.
-/
import Derived.Test.YtbaemhkfmddakaaChecked
import GoSem.Claim
import GoSem.ClaimJoined
import GoSem.ClaimMapViews
import Derived.JoinedTies
import Derived.KernelRfl
namespace Go.Proofs.Ytbaemhkfmddakaa
/- THE CELL 'sum', in the pinned program and in every row, IS THE sha256 OF THE DUMP (.gsa) THAT YtbaemhkfmddakaaProg.lean LOADS. Nothing in Lean hashes anything: it is a label: what it is worth is what the hold of that sum in a sandbox is worth. -/
noncomputable def Try.pinned : Pinned := { name := "ytbaemhkfmddakaa", sum := "469513494f6ef4946d3269092d94426edb41d5ee3a9d03ba2f952c2772a91d36", checked := Try.checked }
namespace Rows
def none {H : Type} : Left H := { results := [], args := [] }

/-- 'morainelaw10.MemCursors': WHATEVER THE INPUT: true; the input reads as it did. -/
def memCursorsSpec : ChangeSpec := { name := "memCursors", fn := fun _ => fun
  | [d] => { results := [.lit (.bool true)], args := [d] }
  | _ => none }
def memCursorsRow : OpenClaim := { program := "ytbaemhkfmddakaa", sum := "469513494f6ef4946d3269092d94426edb41d5ee3a9d03ba2f952c2772a91d36", func := "moraine/morainelaw10.MemCursors", spec := "memCursors", inPlace := ["internal/bytealg.abigen_runtime_cmpstring"], unfollowed := true, recurses := true, apart := false }
def MemCursorsSaid : Prop := memCursorsRow.holds Try.pinned (OpenSpec.ofChange memCursorsSpec)

/-- ITS FALSE NEIGHBOUR: 'it returns false'. Refute it at one input. -/
def memCursorsWrong : ChangeSpec := { name := "memCursors", fn := fun _ => fun
  | [d] => { results := [.lit (.bool false)], args := [d] }
  | _ => none }
def MemCursorsWrongFalsely : Prop := memCursorsRow.holds Try.pinned (OpenSpec.ofChange memCursorsWrong)

/-- 'morainelaw10.MemSeen': WHATEVER THE INPUT: true; the input reads as it did. -/
def memSeenSpec : ChangeSpec := { name := "memSeen", fn := fun _ => fun
  | [d1, d2, d3] => { results := [.lit (.bool true)], args := [d1, d2, d3] }
  | _ => none }
def memSeenRow : OpenClaim := { program := "ytbaemhkfmddakaa", sum := "469513494f6ef4946d3269092d94426edb41d5ee3a9d03ba2f952c2772a91d36", func := "moraine/morainelaw10.MemSeen", spec := "memSeen", inPlace := ["internal/bytealg.abigen_runtime_cmpstring"], unfollowed := true, recurses := true, apart := false }
def MemSeenSaid : Prop := memSeenRow.holds Try.pinned (OpenSpec.ofChange memSeenSpec)

/-- ITS FALSE NEIGHBOUR: 'it returns false'. Refute it at one input. -/
def memSeenWrong : ChangeSpec := { name := "memSeen", fn := fun _ => fun
  | [d1, d2, d3] => { results := [.lit (.bool false)], args := [d1, d2, d3] }
  | _ => none }
def MemSeenWrongFalsely : Prop := memSeenRow.holds Try.pinned (OpenSpec.ofChange memSeenWrong)

/-- 'morainelaw10.MemOrder': WHATEVER THE INPUT: true; the input reads as it did. -/
def memOrderSpec : ChangeSpec := { name := "memOrder", fn := fun _ => fun
  | [d1, d2, d3] => { results := [.lit (.bool true)], args := [d1, d2, d3] }
  | _ => none }
def memOrderRow : OpenClaim := { program := "ytbaemhkfmddakaa", sum := "469513494f6ef4946d3269092d94426edb41d5ee3a9d03ba2f952c2772a91d36", func := "moraine/morainelaw10.MemOrder", spec := "memOrder", inPlace := ["internal/bytealg.abigen_runtime_cmpstring"], unfollowed := true, recurses := true, apart := false }
def MemOrderSaid : Prop := memOrderRow.holds Try.pinned (OpenSpec.ofChange memOrderSpec)

/-- ITS FALSE NEIGHBOUR: 'it returns false'. Refute it at one input. -/
def memOrderWrong : ChangeSpec := { name := "memOrder", fn := fun _ => fun
  | [d1, d2, d3] => { results := [.lit (.bool false)], args := [d1, d2, d3] }
  | _ => none }
def MemOrderWrongFalsely : Prop := memOrderRow.holds Try.pinned (OpenSpec.ofChange memOrderWrong)

/- THE SECOND FORM. 'bulk': how many values and letters a reading holds, each counted each time it is reached (what is shared counts as often as it is met; a slice's spare places count too). A statement '..UptoSaid' is the law's where the arguments, and the package variables that the reading takes, are together of bulk at most 1048576: NARROWER than '..Said'. Prove '..Said' where nothing that the law and all that it calls make is longer than what came in: it says more and counts as full. Else prove '..UptoSaid'. A law counts once. -/
mutual
def uptoBulk {H : Type} : DataW H → Nat
  | .lit (.string bytes) => bytes.length + 1
  | .lit _ => 1
  | .nil => 1
  | .ptr d => uptoBulk d + 1
  | .slice elems spare => uptoBulkAll elems + uptoBulkAll spare + 1
  | .agg parts => uptoBulkAll parts + 1
  | .iface _ d => uptoBulk d + 1
  | .map entries => uptoBulkEntries entries + 1
  | .held _ => 1
def uptoBulkAll {H : Type} : List (DataW H) → Nat
  | [] => 0
  | d :: r => uptoBulk d + uptoBulkAll r
def uptoBulkEntries {H : Type} : List (Lit × DataW H) → Nat
  | [] => 0
  | x :: r => uptoBulkEntry x + uptoBulkEntries r
def uptoBulkEntry {H : Type} : Lit × DataW H → Nat
  | (.string bytes, d) => bytes.length + uptoBulk d + 1
  | (_, d) => uptoBulk d + 1
 end
def uptoSmall : (H : Type) → List (DataW H) → Bool := fun _ ds => decide (uptoBulkAll ds ≤ 1048576)
def OpenSpec.upto (s : _root_.Go.ChangeSpec) : _root_.Go.OpenSpec := { _root_.Go.OpenSpec.ofChange s with cond := some uptoSmall }

/-- 'morainelaw10.MemCursors', WHERE WHAT IT READS IS OF BULK AT MOST 1048576: true; the input reads as it did. -/
def memCursorsUptoRow : OpenClaim := { program := "ytbaemhkfmddakaa", sum := "469513494f6ef4946d3269092d94426edb41d5ee3a9d03ba2f952c2772a91d36", func := "moraine/morainelaw10.MemCursors", spec := "memCursors", inPlace := ["internal/bytealg.abigen_runtime_cmpstring"], unfollowed := true, recurses := true, apart := false, narrowed := true }
def MemCursorsUptoSaid : Prop := memCursorsUptoRow.holds Try.pinned (OpenSpec.upto memCursorsSpec)

/-- 'morainelaw10.MemSeen', WHERE WHAT IT READS IS OF BULK AT MOST 1048576: true; the input reads as it did. -/
def memSeenUptoRow : OpenClaim := { program := "ytbaemhkfmddakaa", sum := "469513494f6ef4946d3269092d94426edb41d5ee3a9d03ba2f952c2772a91d36", func := "moraine/morainelaw10.MemSeen", spec := "memSeen", inPlace := ["internal/bytealg.abigen_runtime_cmpstring"], unfollowed := true, recurses := true, apart := false, narrowed := true }
def MemSeenUptoSaid : Prop := memSeenUptoRow.holds Try.pinned (OpenSpec.upto memSeenSpec)

/-- 'morainelaw10.MemOrder', WHERE WHAT IT READS IS OF BULK AT MOST 1048576: true; the input reads as it did. -/
def memOrderUptoRow : OpenClaim := { program := "ytbaemhkfmddakaa", sum := "469513494f6ef4946d3269092d94426edb41d5ee3a9d03ba2f952c2772a91d36", func := "moraine/morainelaw10.MemOrder", spec := "memOrder", inPlace := ["internal/bytealg.abigen_runtime_cmpstring"], unfollowed := true, recurses := true, apart := false, narrowed := true }
def MemOrderUptoSaid : Prop := memOrderUptoRow.holds Try.pinned (OpenSpec.upto memOrderSpec)

end Rows
end Go.Proofs.Ytbaemhkfmddakaa
