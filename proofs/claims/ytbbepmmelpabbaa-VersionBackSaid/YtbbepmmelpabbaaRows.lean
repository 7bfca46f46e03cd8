/-
  No cell of these rows narrows 'for every input' (looked for: loops, veiled, ifaces, maps, wideKeys, modest, calm, conditions, laid).
  DERIVED. THE GIVEN ROWS OF THIS SEAT. 7 by the template 'for every input the law returns true; each argument reads behind the call as it read before'; 0 by the template 'total and deterministic' (their statements: YtbbepmmelpabbaaTotals.lean).
  GIVEN WITH THE SEED: the statements are not yours to turn. If you find one false, say at which input.
  Laid BY PROGRAM, IN A SANDBOX (cutbox-rows.mjs): the forced cells as the released guide's own fill.sh prints them over the translation d2e973b361b37374… (all of the seat's roots in one cut). By AI agents, Wed Nov 11 2026. No macro, syntax, notation, axiom, sorry.
-/
import Derived.Test.YtbbepmmelpabbaaChecked
import GoSem.Claim
import GoSem.ClaimJoined
import GoSem.ClaimMapViews
import Derived.JoinedTies
import Derived.KernelRfl
namespace Go.Proofs.Ytbbepmmelpabbaa
/- THE CELL 'sum', in the pinned program and in every row, IS THE sha256 OF THE DUMP (.gsa) THAT YtbbepmmelpabbaaProg.lean LOADS. Nothing in Lean hashes anything: it is a label: what it is worth is what the hold of that sum in a sandbox is worth. -/
noncomputable def Try.pinned : Pinned := { name := "ytbbepmmelpabbaa", sum := "d2e973b361b37374ed349a66afca59de6ba8dc4444c93e35ff1f66783dbb75e8", checked := Try.checked }
namespace Rows
def none {H : Type} : Left H := { results := [], args := [] }

/-- 'morainelaw16.VersionApplies': WHATEVER THE INPUT: true; the input reads as it did. -/
def versionAppliesSpec : ChangeSpec := { name := "versionApplies", fn := fun _ => fun
  | [d1, d2] => { results := [.lit (.bool true)], args := [d1, d2] }
  | _ => none }
def versionAppliesRow : OpenClaim := { program := "ytbbepmmelpabbaa", sum := "d2e973b361b37374ed349a66afca59de6ba8dc4444c93e35ff1f66783dbb75e8", func := "moraine/morainelaw16.VersionApplies", spec := "versionApplies", unfollowed := true, recurses := true, apart := false }
def VersionAppliesSaid : Prop := versionAppliesRow.holds Try.pinned (OpenSpec.ofChange versionAppliesSpec)

/-- ITS FALSE NEIGHBOUR: 'it returns false'. Refute it at one input. -/
def versionAppliesWrong : ChangeSpec := { name := "versionApplies", fn := fun _ => fun
  | [d1, d2] => { results := [.lit (.bool false)], args := [d1, d2] }
  | _ => none }
def VersionAppliesWrongFalsely : Prop := versionAppliesRow.holds Try.pinned (OpenSpec.ofChange versionAppliesWrong)

/-- 'morainelaw16.VersionAsks': WHATEVER THE INPUT: true; the input reads as it did. -/
def versionAsksSpec : ChangeSpec := { name := "versionAsks", fn := fun _ => fun
  | [d1, d2] => { results := [.lit (.bool true)], args := [d1, d2] }
  | _ => none }
def versionAsksRow : OpenClaim := { program := "ytbbepmmelpabbaa", sum := "d2e973b361b37374ed349a66afca59de6ba8dc4444c93e35ff1f66783dbb75e8", func := "moraine/morainelaw16.VersionAsks", spec := "versionAsks", unfollowed := true, recurses := true, apart := false }
def VersionAsksSaid : Prop := versionAsksRow.holds Try.pinned (OpenSpec.ofChange versionAsksSpec)

/-- ITS FALSE NEIGHBOUR: 'it returns false'. Refute it at one input. -/
def versionAsksWrong : ChangeSpec := { name := "versionAsks", fn := fun _ => fun
  | [d1, d2] => { results := [.lit (.bool false)], args := [d1, d2] }
  | _ => none }
def VersionAsksWrongFalsely : Prop := versionAsksRow.holds Try.pinned (OpenSpec.ofChange versionAsksWrong)

/-- 'morainelaw16.VersionCuts': WHATEVER THE INPUT: true; the input reads as it did. -/
def versionCutsSpec : ChangeSpec := { name := "versionCuts", fn := fun _ => fun
  | [d1, d2] => { results := [.lit (.bool true)], args := [d1, d2] }
  | _ => none }
def versionCutsRow : OpenClaim := { program := "ytbbepmmelpabbaa", sum := "d2e973b361b37374ed349a66afca59de6ba8dc4444c93e35ff1f66783dbb75e8", func := "moraine/morainelaw16.VersionCuts", spec := "versionCuts", unfollowed := true, recurses := true, apart := false }
def VersionCutsSaid : Prop := versionCutsRow.holds Try.pinned (OpenSpec.ofChange versionCutsSpec)

/-- ITS FALSE NEIGHBOUR: 'it returns false'. Refute it at one input. -/
def versionCutsWrong : ChangeSpec := { name := "versionCuts", fn := fun _ => fun
  | [d1, d2] => { results := [.lit (.bool false)], args := [d1, d2] }
  | _ => none }
def VersionCutsWrongFalsely : Prop := versionCutsRow.holds Try.pinned (OpenSpec.ofChange versionCutsWrong)

/-- 'morainelaw16.VersionBears': WHATEVER THE INPUT: true; the input reads as it did. -/
def versionBearsSpec : ChangeSpec := { name := "versionBears", fn := fun _ => fun
  | [d1, d2] => { results := [.lit (.bool true)], args := [d1, d2] }
  | _ => none }
def versionBearsRow : OpenClaim := { program := "ytbbepmmelpabbaa", sum := "d2e973b361b37374ed349a66afca59de6ba8dc4444c93e35ff1f66783dbb75e8", func := "moraine/morainelaw16.VersionBears", spec := "versionBears", unfollowed := true, recurses := true, apart := false }
def VersionBearsSaid : Prop := versionBearsRow.holds Try.pinned (OpenSpec.ofChange versionBearsSpec)

/-- ITS FALSE NEIGHBOUR: 'it returns false'. Refute it at one input. -/
def versionBearsWrong : ChangeSpec := { name := "versionBears", fn := fun _ => fun
  | [d1, d2] => { results := [.lit (.bool false)], args := [d1, d2] }
  | _ => none }
def VersionBearsWrongFalsely : Prop := versionBearsRow.holds Try.pinned (OpenSpec.ofChange versionBearsWrong)

/-- 'morainelaw16.VersionTells': WHATEVER THE INPUT: true; the input reads as it did. -/
def versionTellsSpec : ChangeSpec := { name := "versionTells", fn := fun _ => fun
  | [d1, d2, d3] => { results := [.lit (.bool true)], args := [d1, d2, d3] }
  | _ => none }
def versionTellsRow : OpenClaim := { program := "ytbbepmmelpabbaa", sum := "d2e973b361b37374ed349a66afca59de6ba8dc4444c93e35ff1f66783dbb75e8", func := "moraine/morainelaw16.VersionTells", spec := "versionTells", unfollowed := true, recurses := true, apart := false }
def VersionTellsSaid : Prop := versionTellsRow.holds Try.pinned (OpenSpec.ofChange versionTellsSpec)

/-- ITS FALSE NEIGHBOUR: 'it returns false'. Refute it at one input. -/
def versionTellsWrong : ChangeSpec := { name := "versionTells", fn := fun _ => fun
  | [d1, d2, d3] => { results := [.lit (.bool false)], args := [d1, d2, d3] }
  | _ => none }
def VersionTellsWrongFalsely : Prop := versionTellsRow.holds Try.pinned (OpenSpec.ofChange versionTellsWrong)

/-- 'morainelaw16.VersionSpans': WHATEVER THE INPUT: true; the input reads as it did. -/
def versionSpansSpec : ChangeSpec := { name := "versionSpans", fn := fun _ => fun
  | [d1, d2, d3] => { results := [.lit (.bool true)], args := [d1, d2, d3] }
  | _ => none }
def versionSpansRow : OpenClaim := { program := "ytbbepmmelpabbaa", sum := "d2e973b361b37374ed349a66afca59de6ba8dc4444c93e35ff1f66783dbb75e8", func := "moraine/morainelaw16.VersionSpans", spec := "versionSpans", unfollowed := true, recurses := true, apart := false }
def VersionSpansSaid : Prop := versionSpansRow.holds Try.pinned (OpenSpec.ofChange versionSpansSpec)

/-- ITS FALSE NEIGHBOUR: 'it returns false'. Refute it at one input. -/
def versionSpansWrong : ChangeSpec := { name := "versionSpans", fn := fun _ => fun
  | [d1, d2, d3] => { results := [.lit (.bool false)], args := [d1, d2, d3] }
  | _ => none }
def VersionSpansWrongFalsely : Prop := versionSpansRow.holds Try.pinned (OpenSpec.ofChange versionSpansWrong)

/-- 'morainelaw16.VersionBack': WHATEVER THE INPUT: true; the input reads as it did. -/
def versionBackSpec : ChangeSpec := { name := "versionBack", fn := fun _ => fun
  | [d1, d2] => { results := [.lit (.bool true)], args := [d1, d2] }
  | _ => none }
def versionBackRow : OpenClaim := { program := "ytbbepmmelpabbaa", sum := "d2e973b361b37374ed349a66afca59de6ba8dc4444c93e35ff1f66783dbb75e8", func := "moraine/morainelaw16.VersionBack", spec := "versionBack", unfollowed := true, recurses := true, apart := false }
def VersionBackSaid : Prop := versionBackRow.holds Try.pinned (OpenSpec.ofChange versionBackSpec)

/-- ITS FALSE NEIGHBOUR: 'it returns false'. Refute it at one input. -/
def versionBackWrong : ChangeSpec := { name := "versionBack", fn := fun _ => fun
  | [d1, d2] => { results := [.lit (.bool false)], args := [d1, d2] }
  | _ => none }
def VersionBackWrongFalsely : Prop := versionBackRow.holds Try.pinned (OpenSpec.ofChange versionBackWrong)

/- THE SECOND FORM. 'bulk': how many values and letters a reading holds, each counted each time it is reached (what is shared counts as often as it is met; a slice's spare places count too). A statement '..UptoSaid' is the law's where the arguments, and the package variables that the reading takes, are together of bulk at most 1048576: NARROWER than '..Said'. Prove '..Said' where nothing that the law and all that it calls make is longer than what came in: it says more and counts as full. Else prove '..UptoSaid'. A law counts once. -/
mutual
def uptoBulk {H : Type} : DataW H → Nat
  | .lit (.string bytes) => bytes.length + 1
  | .lit _ => 1
  | .nil => 1
  | .ptr d => uptoBulk d + 1
  | .slice elems spare => uptoBulkAll elems + uptoBulkAll spare + 1
  | .agg parts => uptoBulkAll parts + 1
  | .iface _ d => uptoBulk d + 1
  | .map entries => uptoBulkEntries entries + 1
  | .held _ => 1
def uptoBulkAll {H : Type} : List (DataW H) → Nat
  | [] => 0
  | d :: r => uptoBulk d + uptoBulkAll r
def uptoBulkEntries {H : Type} : List (Lit × DataW H) → Nat
  | [] => 0
  | x :: r => uptoBulkEntry x + uptoBulkEntries r
def uptoBulkEntry {H : Type} : Lit × DataW H → Nat
  | (.string bytes, d) => bytes.length + uptoBulk d + 1
  | (_, d) => uptoBulk d + 1
 end
def uptoSmall : (H : Type) → List (DataW H) → Bool := fun _ ds => decide (uptoBulkAll ds ≤ 1048576)
def OpenSpec.upto (s : _root_.Go.ChangeSpec) : _root_.Go.OpenSpec := { _root_.Go.OpenSpec.ofChange s with cond := some uptoSmall }

/-- 'morainelaw16.VersionApplies', WHERE WHAT IT READS IS OF BULK AT MOST 1048576: true; the input reads as it did. -/
def versionAppliesUptoRow : OpenClaim := { program := "ytbbepmmelpabbaa", sum := "d2e973b361b37374ed349a66afca59de6ba8dc4444c93e35ff1f66783dbb75e8", func := "moraine/morainelaw16.VersionApplies", spec := "versionApplies", unfollowed := true, recurses := true, apart := false, narrowed := true }
def VersionAppliesUptoSaid : Prop := versionAppliesUptoRow.holds Try.pinned (OpenSpec.upto versionAppliesSpec)

/-- 'morainelaw16.VersionAsks', WHERE WHAT IT READS IS OF BULK AT MOST 1048576: true; the input reads as it did. -/
def versionAsksUptoRow : OpenClaim := { program := "ytbbepmmelpabbaa", sum := "d2e973b361b37374ed349a66afca59de6ba8dc4444c93e35ff1f66783dbb75e8", func := "moraine/morainelaw16.VersionAsks", spec := "versionAsks", unfollowed := true, recurses := true, apart := false, narrowed := true }
def VersionAsksUptoSaid : Prop := versionAsksUptoRow.holds Try.pinned (OpenSpec.upto versionAsksSpec)

/-- 'morainelaw16.VersionCuts', WHERE WHAT IT READS IS OF BULK AT MOST 1048576: true; the input reads as it did. -/
def versionCutsUptoRow : OpenClaim := { program := "ytbbepmmelpabbaa", sum := "d2e973b361b37374ed349a66afca59de6ba8dc4444c93e35ff1f66783dbb75e8", func := "moraine/morainelaw16.VersionCuts", spec := "versionCuts", unfollowed := true, recurses := true, apart := false, narrowed := true }
def VersionCutsUptoSaid : Prop := versionCutsUptoRow.holds Try.pinned (OpenSpec.upto versionCutsSpec)

/-- 'morainelaw16.VersionBears', WHERE WHAT IT READS IS OF BULK AT MOST 1048576: true; the input reads as it did. -/
def versionBearsUptoRow : OpenClaim := { program := "ytbbepmmelpabbaa", sum := "d2e973b361b37374ed349a66afca59de6ba8dc4444c93e35ff1f66783dbb75e8", func := "moraine/morainelaw16.VersionBears", spec := "versionBears", unfollowed := true, recurses := true, apart := false, narrowed := true }
def VersionBearsUptoSaid : Prop := versionBearsUptoRow.holds Try.pinned (OpenSpec.upto versionBearsSpec)

/-- 'morainelaw16.VersionTells', WHERE WHAT IT READS IS OF BULK AT MOST 1048576: true; the input reads as it did. -/
def versionTellsUptoRow : OpenClaim := { program := "ytbbepmmelpabbaa", sum := "d2e973b361b37374ed349a66afca59de6ba8dc4444c93e35ff1f66783dbb75e8", func := "moraine/morainelaw16.VersionTells", spec := "versionTells", unfollowed := true, recurses := true, apart := false, narrowed := true }
def VersionTellsUptoSaid : Prop := versionTellsUptoRow.holds Try.pinned (OpenSpec.upto versionTellsSpec)

/-- 'morainelaw16.VersionSpans', WHERE WHAT IT READS IS OF BULK AT MOST 1048576: true; the input reads as it did. -/
def versionSpansUptoRow : OpenClaim := { program := "ytbbepmmelpabbaa", sum := "d2e973b361b37374ed349a66afca59de6ba8dc4444c93e35ff1f66783dbb75e8", func := "moraine/morainelaw16.VersionSpans", spec := "versionSpans", unfollowed := true, recurses := true, apart := false, narrowed := true }
def VersionSpansUptoSaid : Prop := versionSpansUptoRow.holds Try.pinned (OpenSpec.upto versionSpansSpec)

/-- 'morainelaw16.VersionBack', WHERE WHAT IT READS IS OF BULK AT MOST 1048576: true; the input reads as it did. -/
def versionBackUptoRow : OpenClaim := { program := "ytbbepmmelpabbaa", sum := "d2e973b361b37374ed349a66afca59de6ba8dc4444c93e35ff1f66783dbb75e8", func := "moraine/morainelaw16.VersionBack", spec := "versionBack", unfollowed := true, recurses := true, apart := false, narrowed := true }
def VersionBackUptoSaid : Prop := versionBackUptoRow.holds Try.pinned (OpenSpec.upto versionBackSpec)

end Rows
end Go.Proofs.Ytbbepmmelpabbaa
