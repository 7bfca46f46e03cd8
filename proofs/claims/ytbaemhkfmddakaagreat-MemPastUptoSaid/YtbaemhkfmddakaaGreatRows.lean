/-
  No cell of these rows narrows 'for every input' (looked for: loops, veiled, ifaces, maps, wideKeys, modest, calm, conditions, laid).
  DERIVED. THE GIVEN ROWS OF THIS SEAT. 5 by the template 'for every input the law returns true; each argument reads behind the call as it read before'; 0 by the template 'total and deterministic' (their statements: YtbaemhkfmddakaaGreatTotals.lean).
  GIVEN WITH THE SEED: the statements are not yours to turn. If you find one false, say at which input.
  Laid BY PROGRAM, IN A SANDBOX (cutbox-rows.mjs): the forced cells as the released guide's own fill.sh prints them over the translation 9e7857da467d3d89… (all of the seat's roots in one cut). By AI agents, Wed Nov 11 2026. No macro, syntax, notation, axiom, sorry.
-/
import Derived.Test.YtbaemhkfmddakaaGreatChecked
import GoSem.Claim
import GoSem.ClaimJoined
import GoSem.ClaimMapViews
import Derived.JoinedTies
import Derived.KernelRfl
namespace Go.Proofs.YtbaemhkfmddakaaGreat
/- THE CELL 'sum', in the pinned program and in every row, IS THE sha256 OF THE DUMP (.gsa) THAT YtbaemhkfmddakaaGreatProg.lean LOADS. Nothing in Lean hashes anything: it is a label: what it is worth is what the hold of that sum in a sandbox is worth. -/
noncomputable def Tryz.pinned : Pinned := { name := "ytbaemhkfmddakaagreat", sum := "9e7857da467d3d89d14d2ec899bea26d0f20221ab8fc3177838df40e8aa38a12", checked := Tryz.checked }
namespace Rows
def none {H : Type} : Left H := { results := [], args := [] }

/-- 'morainelaw10.MemPlays': WHATEVER THE INPUT: true; the input reads as it did. -/
def memPlaysSpec : ChangeSpec := { name := "memPlays", fn := fun _ => fun
  | [d1, d2] => { results := [.lit (.bool true)], args := [d1, d2] }
  | _ => none }
def memPlaysRow : OpenClaim := { program := "ytbaemhkfmddakaagreat", sum := "9e7857da467d3d89d14d2ec899bea26d0f20221ab8fc3177838df40e8aa38a12", func := "moraine/morainelaw10.MemPlays", spec := "memPlays", inPlace := ["internal/bytealg.abigen_runtime_cmpstring"], unfollowed := true, recurses := true, apart := false }
def MemPlaysSaid : Prop := memPlaysRow.holds Tryz.pinned (OpenSpec.ofChange memPlaysSpec)

/-- ITS FALSE NEIGHBOUR: 'it returns false'. Refute it at one input. -/
def memPlaysWrong : ChangeSpec := { name := "memPlays", fn := fun _ => fun
  | [d1, d2] => { results := [.lit (.bool false)], args := [d1, d2] }
  | _ => none }
def MemPlaysWrongFalsely : Prop := memPlaysRow.holds Tryz.pinned (OpenSpec.ofChange memPlaysWrong)

/-- 'morainelaw10.MemPast': WHATEVER THE INPUT: true; the input reads as it did. -/
def memPastSpec : ChangeSpec := { name := "memPast", fn := fun _ => fun
  | [d1, d2, d3] => { results := [.lit (.bool true)], args := [d1, d2, d3] }
  | _ => none }
def memPastRow : OpenClaim := { program := "ytbaemhkfmddakaagreat", sum := "9e7857da467d3d89d14d2ec899bea26d0f20221ab8fc3177838df40e8aa38a12", func := "moraine/morainelaw10.MemPast", spec := "memPast", inPlace := ["internal/bytealg.abigen_runtime_cmpstring"], unfollowed := true, recurses := true, apart := false }
def MemPastSaid : Prop := memPastRow.holds Tryz.pinned (OpenSpec.ofChange memPastSpec)

/-- ITS FALSE NEIGHBOUR: 'it returns false'. Refute it at one input. -/
def memPastWrong : ChangeSpec := { name := "memPast", fn := fun _ => fun
  | [d1, d2, d3] => { results := [.lit (.bool false)], args := [d1, d2, d3] }
  | _ => none }
def MemPastWrongFalsely : Prop := memPastRow.holds Tryz.pinned (OpenSpec.ofChange memPastWrong)

/-- 'morainelaw10.MemWalks': WHATEVER THE INPUT: true; the input reads as it did. -/
def memWalksSpec : ChangeSpec := { name := "memWalks", fn := fun _ => fun
  | [d1, d2] => { results := [.lit (.bool true)], args := [d1, d2] }
  | _ => none }
def memWalksRow : OpenClaim := { program := "ytbaemhkfmddakaagreat", sum := "9e7857da467d3d89d14d2ec899bea26d0f20221ab8fc3177838df40e8aa38a12", func := "moraine/morainelaw10.MemWalks", spec := "memWalks", inPlace := ["internal/bytealg.abigen_runtime_cmpstring"], unfollowed := true, recurses := true, apart := false }
def MemWalksSaid : Prop := memWalksRow.holds Tryz.pinned (OpenSpec.ofChange memWalksSpec)

/-- ITS FALSE NEIGHBOUR: 'it returns false'. Refute it at one input. -/
def memWalksWrong : ChangeSpec := { name := "memWalks", fn := fun _ => fun
  | [d1, d2] => { results := [.lit (.bool false)], args := [d1, d2] }
  | _ => none }
def MemWalksWrongFalsely : Prop := memWalksRow.holds Tryz.pinned (OpenSpec.ofChange memWalksWrong)

/-- 'morainelaw10.MemQueues': WHATEVER THE INPUT: true; the input reads as it did. -/
def memQueuesSpec : ChangeSpec := { name := "memQueues", fn := fun _ => fun
  | [d1, d2] => { results := [.lit (.bool true)], args := [d1, d2] }
  | _ => none }
def memQueuesRow : OpenClaim := { program := "ytbaemhkfmddakaagreat", sum := "9e7857da467d3d89d14d2ec899bea26d0f20221ab8fc3177838df40e8aa38a12", func := "moraine/morainelaw10.MemQueues", spec := "memQueues", inPlace := ["internal/bytealg.abigen_runtime_cmpstring"], unfollowed := true, recurses := true, apart := false }
def MemQueuesSaid : Prop := memQueuesRow.holds Tryz.pinned (OpenSpec.ofChange memQueuesSpec)

/-- ITS FALSE NEIGHBOUR: 'it returns false'. Refute it at one input. -/
def memQueuesWrong : ChangeSpec := { name := "memQueues", fn := fun _ => fun
  | [d1, d2] => { results := [.lit (.bool false)], args := [d1, d2] }
  | _ => none }
def MemQueuesWrongFalsely : Prop := memQueuesRow.holds Tryz.pinned (OpenSpec.ofChange memQueuesWrong)

/-- 'morainelaw10.MemNil': WHATEVER THE INPUT: true; the input reads as it did. -/
def memNilSpec : ChangeSpec := { name := "memNil", fn := fun _ => fun
  | [d1, d2] => { results := [.lit (.bool true)], args := [d1, d2] }
  | _ => none }
def memNilRow : OpenClaim := { program := "ytbaemhkfmddakaagreat", sum := "9e7857da467d3d89d14d2ec899bea26d0f20221ab8fc3177838df40e8aa38a12", func := "moraine/morainelaw10.MemNil", spec := "memNil", inPlace := ["internal/bytealg.abigen_runtime_cmpstring"], unfollowed := true, recurses := true, apart := false }
def MemNilSaid : Prop := memNilRow.holds Tryz.pinned (OpenSpec.ofChange memNilSpec)

/-- ITS FALSE NEIGHBOUR: 'it returns false'. Refute it at one input. -/
def memNilWrong : ChangeSpec := { name := "memNil", fn := fun _ => fun
  | [d1, d2] => { results := [.lit (.bool false)], args := [d1, d2] }
  | _ => none }
def MemNilWrongFalsely : Prop := memNilRow.holds Tryz.pinned (OpenSpec.ofChange memNilWrong)

/- THE SECOND FORM. 'bulk': how many values and letters a reading holds, each counted each time it is reached (what is shared counts as often as it is met; a slice's spare places count too). A statement '..UptoSaid' is the law's where the arguments, and the package variables that the reading takes, are together of bulk at most 1048576: NARROWER than '..Said'. Prove '..Said' where nothing that the law and all that it calls make is longer than what came in: it says more and counts as full. Else prove '..UptoSaid'. A law counts once. -/
mutual
def uptoBulk {H : Type} : DataW H → Nat
  | .lit (.string bytes) => bytes.length + 1
  | .lit _ => 1
  | .nil => 1
  | .ptr d => uptoBulk d + 1
  | .slice elems spare => uptoBulkAll elems + uptoBulkAll spare + 1
  | .agg parts => uptoBulkAll parts + 1
  | .iface _ d => uptoBulk d + 1
  | .map entries => uptoBulkEntries entries + 1
  | .held _ => 1
def uptoBulkAll {H : Type} : List (DataW H) → Nat
  | [] => 0
  | d :: r => uptoBulk d + uptoBulkAll r
def uptoBulkEntries {H : Type} : List (Lit × DataW H) → Nat
  | [] => 0
  | x :: r => uptoBulkEntry x + uptoBulkEntries r
def uptoBulkEntry {H : Type} : Lit × DataW H → Nat
  | (.string bytes, d) => bytes.length + uptoBulk d + 1
  | (_, d) => uptoBulk d + 1
 end
def uptoSmall : (H : Type) → List (DataW H) → Bool := fun _ ds => decide (uptoBulkAll ds ≤ 1048576)
def OpenSpec.upto (s : _root_.Go.ChangeSpec) : _root_.Go.OpenSpec := { _root_.Go.OpenSpec.ofChange s with cond := some uptoSmall }

/-- 'morainelaw10.MemPlays', WHERE WHAT IT READS IS OF BULK AT MOST 1048576: true; the input reads as it did. -/
def memPlaysUptoRow : OpenClaim := { program := "ytbaemhkfmddakaagreat", sum := "9e7857da467d3d89d14d2ec899bea26d0f20221ab8fc3177838df40e8aa38a12", func := "moraine/morainelaw10.MemPlays", spec := "memPlays", inPlace := ["internal/bytealg.abigen_runtime_cmpstring"], unfollowed := true, recurses := true, apart := false, narrowed := true }
def MemPlaysUptoSaid : Prop := memPlaysUptoRow.holds Tryz.pinned (OpenSpec.upto memPlaysSpec)

/-- 'morainelaw10.MemPast', WHERE WHAT IT READS IS OF BULK AT MOST 1048576: true; the input reads as it did. -/
def memPastUptoRow : OpenClaim := { program := "ytbaemhkfmddakaagreat", sum := "9e7857da467d3d89d14d2ec899bea26d0f20221ab8fc3177838df40e8aa38a12", func := "moraine/morainelaw10.MemPast", spec := "memPast", inPlace := ["internal/bytealg.abigen_runtime_cmpstring"], unfollowed := true, recurses := true, apart := false, narrowed := true }
def MemPastUptoSaid : Prop := memPastUptoRow.holds Tryz.pinned (OpenSpec.upto memPastSpec)

/-- 'morainelaw10.MemWalks', WHERE WHAT IT READS IS OF BULK AT MOST 1048576: true; the input reads as it did. -/
def memWalksUptoRow : OpenClaim := { program := "ytbaemhkfmddakaagreat", sum := "9e7857da467d3d89d14d2ec899bea26d0f20221ab8fc3177838df40e8aa38a12", func := "moraine/morainelaw10.MemWalks", spec := "memWalks", inPlace := ["internal/bytealg.abigen_runtime_cmpstring"], unfollowed := true, recurses := true, apart := false, narrowed := true }
def MemWalksUptoSaid : Prop := memWalksUptoRow.holds Tryz.pinned (OpenSpec.upto memWalksSpec)

/-- 'morainelaw10.MemQueues', WHERE WHAT IT READS IS OF BULK AT MOST 1048576: true; the input reads as it did. -/
def memQueuesUptoRow : OpenClaim := { program := "ytbaemhkfmddakaagreat", sum := "9e7857da467d3d89d14d2ec899bea26d0f20221ab8fc3177838df40e8aa38a12", func := "moraine/morainelaw10.MemQueues", spec := "memQueues", inPlace := ["internal/bytealg.abigen_runtime_cmpstring"], unfollowed := true, recurses := true, apart := false, narrowed := true }
def MemQueuesUptoSaid : Prop := memQueuesUptoRow.holds Tryz.pinned (OpenSpec.upto memQueuesSpec)

/-- 'morainelaw10.MemNil', WHERE WHAT IT READS IS OF BULK AT MOST 1048576: true; the input reads as it did. -/
def memNilUptoRow : OpenClaim := { program := "ytbaemhkfmddakaagreat", sum := "9e7857da467d3d89d14d2ec899bea26d0f20221ab8fc3177838df40e8aa38a12", func := "moraine/morainelaw10.MemNil", spec := "memNil", inPlace := ["internal/bytealg.abigen_runtime_cmpstring"], unfollowed := true, recurses := true, apart := false, narrowed := true }
def MemNilUptoSaid : Prop := memNilUptoRow.holds Tryz.pinned (OpenSpec.upto memNilSpec)

end Rows
end Go.Proofs.YtbaemhkfmddakaaGreat
