/-
  No cell of these rows narrows 'for every input' (looked for: loops, veiled, ifaces, maps, wideKeys, modest, calm, conditions, laid).
  DERIVED. THE GIVEN ROWS OF THIS SEAT. 4 by the template 'for every input the law returns true; each argument reads behind the call as it read before'; 0 by the template 'total and deterministic' (their statements: YtckjpkecipgeiaaTotals.lean).
  GIVEN WITH THE SEED: the statements are not yours to turn. If you find one false, say at which input.
  Laid BY PROGRAM, IN A SANDBOX (cutbox-rows.mjs): the forced cells as the released guide's own fill.sh prints them over the translation 87c7836f99e6e46f… (all of the seat's roots in one cut). By AI agents, Wed Nov 11 2026. No macro, syntax, notation, axiom, sorry.
-/
import Derived.Test.YtckjpkecipgeiaaChecked
import GoSem.Claim
import GoSem.ClaimJoined
import GoSem.ClaimMapViews
import Derived.JoinedTies
import Derived.KernelRfl
namespace Go.Proofs.Ytckjpkecipgeiaa
/- THE CELL 'sum', in the pinned program and in every row, IS THE sha256 OF THE DUMP (.gsa) THAT YtckjpkecipgeiaaProg.lean LOADS. Nothing in Lean hashes anything: it is a label: what it is worth is what the hold of that sum in a sandbox is worth. -/
noncomputable def Try.pinned : Pinned := { name := "ytckjpkecipgeiaa", sum := "87c7836f99e6e46faaac6263f5d3a7d5e3e158cd254beb771a2abf26af33ccdb", checked := Try.checked }
namespace Rows
def none {H : Type} : Left H := { results := [], args := [] }

/-- 'morainelaw22.PickPlans': WHATEVER THE INPUT: true; the input reads as it did. -/
def pickPlansSpec : ChangeSpec := { name := "pickPlans", fn := fun _ => fun
  | [d1, d2, d3] => { results := [.lit (.bool true)], args := [d1, d2, d3] }
  | _ => none }
def pickPlansRow : OpenClaim := { program := "ytckjpkecipgeiaa", sum := "87c7836f99e6e46faaac6263f5d3a7d5e3e158cd254beb771a2abf26af33ccdb", func := "moraine/morainelaw22.PickPlans", spec := "pickPlans", unfollowed := true, recurses := true, apart := false }
def PickPlansSaid : Prop := pickPlansRow.holds Try.pinned (OpenSpec.ofChange pickPlansSpec)

/-- ITS FALSE NEIGHBOUR: 'it returns false'. Refute it at one input. -/
def pickPlansWrong : ChangeSpec := { name := "pickPlans", fn := fun _ => fun
  | [d1, d2, d3] => { results := [.lit (.bool false)], args := [d1, d2, d3] }
  | _ => none }
def PickPlansWrongFalsely : Prop := pickPlansRow.holds Try.pinned (OpenSpec.ofChange pickPlansWrong)

/-- 'morainelaw22.PickWhole': WHATEVER THE INPUT: true; the input reads as it did. -/
def pickWholeSpec : ChangeSpec := { name := "pickWhole", fn := fun _ => fun
  | [d1, d2, d3] => { results := [.lit (.bool true)], args := [d1, d2, d3] }
  | _ => none }
def pickWholeRow : OpenClaim := { program := "ytckjpkecipgeiaa", sum := "87c7836f99e6e46faaac6263f5d3a7d5e3e158cd254beb771a2abf26af33ccdb", func := "moraine/morainelaw22.PickWhole", spec := "pickWhole", unfollowed := true, recurses := true, apart := false }
def PickWholeSaid : Prop := pickWholeRow.holds Try.pinned (OpenSpec.ofChange pickWholeSpec)

/-- ITS FALSE NEIGHBOUR: 'it returns false'. Refute it at one input. -/
def pickWholeWrong : ChangeSpec := { name := "pickWhole", fn := fun _ => fun
  | [d1, d2, d3] => { results := [.lit (.bool false)], args := [d1, d2, d3] }
  | _ => none }
def PickWholeWrongFalsely : Prop := pickWholeRow.holds Try.pinned (OpenSpec.ofChange pickWholeWrong)

/-- 'morainelaw22.PickFullest': WHATEVER THE INPUT: true; the input reads as it did. -/
def pickFullestSpec : ChangeSpec := { name := "pickFullest", fn := fun _ => fun
  | [d1, d2, d3] => { results := [.lit (.bool true)], args := [d1, d2, d3] }
  | _ => none }
def pickFullestRow : OpenClaim := { program := "ytckjpkecipgeiaa", sum := "87c7836f99e6e46faaac6263f5d3a7d5e3e158cd254beb771a2abf26af33ccdb", func := "moraine/morainelaw22.PickFullest", spec := "pickFullest", unfollowed := true, recurses := true, apart := false }
def PickFullestSaid : Prop := pickFullestRow.holds Try.pinned (OpenSpec.ofChange pickFullestSpec)

/-- ITS FALSE NEIGHBOUR: 'it returns false'. Refute it at one input. -/
def pickFullestWrong : ChangeSpec := { name := "pickFullest", fn := fun _ => fun
  | [d1, d2, d3] => { results := [.lit (.bool false)], args := [d1, d2, d3] }
  | _ => none }
def PickFullestWrongFalsely : Prop := pickFullestRow.holds Try.pinned (OpenSpec.ofChange pickFullestWrong)

/-- 'morainelaw22.PickMoved': WHATEVER THE INPUT: true; the input reads as it did. -/
def pickMovedSpec : ChangeSpec := { name := "pickMoved", fn := fun _ => fun
  | [d1, d2, d3] => { results := [.lit (.bool true)], args := [d1, d2, d3] }
  | _ => none }
def pickMovedRow : OpenClaim := { program := "ytckjpkecipgeiaa", sum := "87c7836f99e6e46faaac6263f5d3a7d5e3e158cd254beb771a2abf26af33ccdb", func := "moraine/morainelaw22.PickMoved", spec := "pickMoved", unfollowed := true, recurses := true, apart := false }
def PickMovedSaid : Prop := pickMovedRow.holds Try.pinned (OpenSpec.ofChange pickMovedSpec)

/-- ITS FALSE NEIGHBOUR: 'it returns false'. Refute it at one input. -/
def pickMovedWrong : ChangeSpec := { name := "pickMoved", fn := fun _ => fun
  | [d1, d2, d3] => { results := [.lit (.bool false)], args := [d1, d2, d3] }
  | _ => none }
def PickMovedWrongFalsely : Prop := pickMovedRow.holds Try.pinned (OpenSpec.ofChange pickMovedWrong)

/- THE SECOND FORM. 'bulk': how many values and letters a reading holds, each counted each time it is reached (what is shared counts as often as it is met; a slice's spare places count too). A statement '..UptoSaid' is the law's where the arguments, and the package variables that the reading takes, are together of bulk at most 1048576: NARROWER than '..Said'. Prove '..Said' where nothing that the law and all that it calls make is longer than what came in: it says more and counts as full. Else prove '..UptoSaid'. A law counts once. -/
mutual
def uptoBulk {H : Type} : DataW H → Nat
  | .lit (.string bytes) => bytes.length + 1
  | .lit _ => 1
  | .nil => 1
  | .ptr d => uptoBulk d + 1
  | .slice elems spare => uptoBulkAll elems + uptoBulkAll spare + 1
  | .agg parts => uptoBulkAll parts + 1
  | .iface _ d => uptoBulk d + 1
  | .map entries => uptoBulkEntries entries + 1
  | .held _ => 1
def uptoBulkAll {H : Type} : List (DataW H) → Nat
  | [] => 0
  | d :: r => uptoBulk d + uptoBulkAll r
def uptoBulkEntries {H : Type} : List (Lit × DataW H) → Nat
  | [] => 0
  | x :: r => uptoBulkEntry x + uptoBulkEntries r
def uptoBulkEntry {H : Type} : Lit × DataW H → Nat
  | (.string bytes, d) => bytes.length + uptoBulk d + 1
  | (_, d) => uptoBulk d + 1
 end
def uptoSmall : (H : Type) → List (DataW H) → Bool := fun _ ds => decide (uptoBulkAll ds ≤ 1048576)
def OpenSpec.upto (s : _root_.Go.ChangeSpec) : _root_.Go.OpenSpec := { _root_.Go.OpenSpec.ofChange s with cond := some uptoSmall }

/-- 'morainelaw22.PickPlans', WHERE WHAT IT READS IS OF BULK AT MOST 1048576: true; the input reads as it did. -/
def pickPlansUptoRow : OpenClaim := { program := "ytckjpkecipgeiaa", sum := "87c7836f99e6e46faaac6263f5d3a7d5e3e158cd254beb771a2abf26af33ccdb", func := "moraine/morainelaw22.PickPlans", spec := "pickPlans", unfollowed := true, recurses := true, apart := false, narrowed := true }
def PickPlansUptoSaid : Prop := pickPlansUptoRow.holds Try.pinned (OpenSpec.upto pickPlansSpec)

/-- 'morainelaw22.PickWhole', WHERE WHAT IT READS IS OF BULK AT MOST 1048576: true; the input reads as it did. -/
def pickWholeUptoRow : OpenClaim := { program := "ytckjpkecipgeiaa", sum := "87c7836f99e6e46faaac6263f5d3a7d5e3e158cd254beb771a2abf26af33ccdb", func := "moraine/morainelaw22.PickWhole", spec := "pickWhole", unfollowed := true, recurses := true, apart := false, narrowed := true }
def PickWholeUptoSaid : Prop := pickWholeUptoRow.holds Try.pinned (OpenSpec.upto pickWholeSpec)

/-- 'morainelaw22.PickFullest', WHERE WHAT IT READS IS OF BULK AT MOST 1048576: true; the input reads as it did. -/
def pickFullestUptoRow : OpenClaim := { program := "ytckjpkecipgeiaa", sum := "87c7836f99e6e46faaac6263f5d3a7d5e3e158cd254beb771a2abf26af33ccdb", func := "moraine/morainelaw22.PickFullest", spec := "pickFullest", unfollowed := true, recurses := true, apart := false, narrowed := true }
def PickFullestUptoSaid : Prop := pickFullestUptoRow.holds Try.pinned (OpenSpec.upto pickFullestSpec)

/-- 'morainelaw22.PickMoved', WHERE WHAT IT READS IS OF BULK AT MOST 1048576: true; the input reads as it did. -/
def pickMovedUptoRow : OpenClaim := { program := "ytckjpkecipgeiaa", sum := "87c7836f99e6e46faaac6263f5d3a7d5e3e158cd254beb771a2abf26af33ccdb", func := "moraine/morainelaw22.PickMoved", spec := "pickMoved", unfollowed := true, recurses := true, apart := false, narrowed := true }
def PickMovedUptoSaid : Prop := pickMovedUptoRow.holds Try.pinned (OpenSpec.upto pickMovedSpec)

end Rows
end Go.Proofs.Ytckjpkecipgeiaa
