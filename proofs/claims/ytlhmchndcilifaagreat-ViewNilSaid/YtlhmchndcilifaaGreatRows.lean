/-
  No cell of these rows narrows 'for every input' (looked for: loops, veiled, ifaces, maps, wideKeys, modest, calm, conditions, laid).
  DERIVED. THE GIVEN ROWS OF THIS SEAT. 6 by the template 'for every input the law returns true; each argument reads behind the call as it read before'; 0 by the template 'total and deterministic' (their statements: YtlhmchndcilifaaGreatTotals.lean).
  GIVEN WITH THE SEED: the statements are not yours to turn. If you find one false, say at which input.
  Laid BY PROGRAM, IN A SANDBOX (cutbox-rows.mjs): the forced cells as the released guide's own fill.sh prints them over the translation 2e89755ef8cf8e78… (all of the seat's roots in one cut). By AI agents, Wed Nov 11 2026. No macro, syntax, notation, axiom, sorry.
-/
import Derived.Test.YtlhmchndcilifaaGreatChecked
import GoSem.Claim
import GoSem.ClaimJoined
import GoSem.ClaimMapViews
import Derived.JoinedTies
import Derived.KernelRfl
namespace Go.Proofs.YtlhmchndcilifaaGreat
/- THE CELL 'sum', in the pinned program and in every row, IS THE sha256 OF THE DUMP (.gsa) THAT YtlhmchndcilifaaGreatProg.lean LOADS. Nothing in Lean hashes anything: it is a label: what it is worth is what the hold of that sum in a sandbox is worth. -/
noncomputable def Tryz.pinned : Pinned := { name := "ytlhmchndcilifaagreat", sum := "2e89755ef8cf8e78f6b95f5c4523514b75b3efd3a4132608c59dc72f353c4c65", checked := Tryz.checked }
namespace Rows
def none {H : Type} : Left H := { results := [], args := [] }

/-- 'morainelaw20.ViewSeens': WHATEVER THE INPUT: true; the input reads as it did. -/
def viewSeensSpec : ChangeSpec := { name := "viewSeens", fn := fun _ => fun
  | [d1, d2, d3] => { results := [.lit (.bool true)], args := [d1, d2, d3] }
  | _ => none }
def viewSeensRow : OpenClaim := { program := "ytlhmchndcilifaagreat", sum := "2e89755ef8cf8e78f6b95f5c4523514b75b3efd3a4132608c59dc72f353c4c65", func := "moraine/morainelaw20.ViewSeens", spec := "viewSeens", inPlace := ["internal/bytealg.abigen_runtime_cmpstring"], unfollowed := true, recurses := true, apart := false }
def ViewSeensSaid : Prop := viewSeensRow.holds Tryz.pinned (OpenSpec.ofChange viewSeensSpec)

/-- ITS FALSE NEIGHBOUR: 'it returns false'. Refute it at one input. -/
def viewSeensWrong : ChangeSpec := { name := "viewSeens", fn := fun _ => fun
  | [d1, d2, d3] => { results := [.lit (.bool false)], args := [d1, d2, d3] }
  | _ => none }
def ViewSeensWrongFalsely : Prop := viewSeensRow.holds Tryz.pinned (OpenSpec.ofChange viewSeensWrong)

/-- 'morainelaw20.ViewWalks': WHATEVER THE INPUT: true; the input reads as it did. -/
def viewWalksSpec : ChangeSpec := { name := "viewWalks", fn := fun _ => fun
  | [d1, d2, d3] => { results := [.lit (.bool true)], args := [d1, d2, d3] }
  | _ => none }
def viewWalksRow : OpenClaim := { program := "ytlhmchndcilifaagreat", sum := "2e89755ef8cf8e78f6b95f5c4523514b75b3efd3a4132608c59dc72f353c4c65", func := "moraine/morainelaw20.ViewWalks", spec := "viewWalks", inPlace := ["internal/bytealg.abigen_runtime_cmpstring"], unfollowed := true, recurses := true, apart := false }
def ViewWalksSaid : Prop := viewWalksRow.holds Tryz.pinned (OpenSpec.ofChange viewWalksSpec)

/-- ITS FALSE NEIGHBOUR: 'it returns false'. Refute it at one input. -/
def viewWalksWrong : ChangeSpec := { name := "viewWalks", fn := fun _ => fun
  | [d1, d2, d3] => { results := [.lit (.bool false)], args := [d1, d2, d3] }
  | _ => none }
def ViewWalksWrongFalsely : Prop := viewWalksRow.holds Tryz.pinned (OpenSpec.ofChange viewWalksWrong)

/-- 'morainelaw20.ViewNil': WHATEVER THE INPUT: true; the input reads as it did. -/
def viewNilSpec : ChangeSpec := { name := "viewNil", fn := fun _ => fun
  | [d1, d2, d3] => { results := [.lit (.bool true)], args := [d1, d2, d3] }
  | _ => none }
def viewNilRow : OpenClaim := { program := "ytlhmchndcilifaagreat", sum := "2e89755ef8cf8e78f6b95f5c4523514b75b3efd3a4132608c59dc72f353c4c65", func := "moraine/morainelaw20.ViewNil", spec := "viewNil", inPlace := ["internal/bytealg.abigen_runtime_cmpstring"], unfollowed := true, recurses := true, apart := false }
def ViewNilSaid : Prop := viewNilRow.holds Tryz.pinned (OpenSpec.ofChange viewNilSpec)

/-- ITS FALSE NEIGHBOUR: 'it returns false'. Refute it at one input. -/
def viewNilWrong : ChangeSpec := { name := "viewNil", fn := fun _ => fun
  | [d1, d2, d3] => { results := [.lit (.bool false)], args := [d1, d2, d3] }
  | _ => none }
def ViewNilWrongFalsely : Prop := viewNilRow.holds Tryz.pinned (OpenSpec.ofChange viewNilWrong)

/-- 'morainelaw20.ViewTells': WHATEVER THE INPUT: true; the input reads as it did. -/
def viewTellsSpec : ChangeSpec := { name := "viewTells", fn := fun _ => fun
  | [d1, d2, d3] => { results := [.lit (.bool true)], args := [d1, d2, d3] }
  | _ => none }
def viewTellsRow : OpenClaim := { program := "ytlhmchndcilifaagreat", sum := "2e89755ef8cf8e78f6b95f5c4523514b75b3efd3a4132608c59dc72f353c4c65", func := "moraine/morainelaw20.ViewTells", spec := "viewTells", inPlace := ["internal/bytealg.abigen_runtime_cmpstring"], unfollowed := true, recurses := true, apart := false }
def ViewTellsSaid : Prop := viewTellsRow.holds Tryz.pinned (OpenSpec.ofChange viewTellsSpec)

/-- ITS FALSE NEIGHBOUR: 'it returns false'. Refute it at one input. -/
def viewTellsWrong : ChangeSpec := { name := "viewTells", fn := fun _ => fun
  | [d1, d2, d3] => { results := [.lit (.bool false)], args := [d1, d2, d3] }
  | _ => none }
def ViewTellsWrongFalsely : Prop := viewTellsRow.holds Tryz.pinned (OpenSpec.ofChange viewTellsWrong)

/-- 'morainelaw20.ViewPast': WHATEVER THE INPUT: true; the input reads as it did. -/
def viewPastSpec : ChangeSpec := { name := "viewPast", fn := fun _ => fun
  | [d1, d2, d3] => { results := [.lit (.bool true)], args := [d1, d2, d3] }
  | _ => none }
def viewPastRow : OpenClaim := { program := "ytlhmchndcilifaagreat", sum := "2e89755ef8cf8e78f6b95f5c4523514b75b3efd3a4132608c59dc72f353c4c65", func := "moraine/morainelaw20.ViewPast", spec := "viewPast", inPlace := ["internal/bytealg.abigen_runtime_cmpstring"], unfollowed := true, recurses := true, apart := false }
def ViewPastSaid : Prop := viewPastRow.holds Tryz.pinned (OpenSpec.ofChange viewPastSpec)

/-- ITS FALSE NEIGHBOUR: 'it returns false'. Refute it at one input. -/
def viewPastWrong : ChangeSpec := { name := "viewPast", fn := fun _ => fun
  | [d1, d2, d3] => { results := [.lit (.bool false)], args := [d1, d2, d3] }
  | _ => none }
def ViewPastWrongFalsely : Prop := viewPastRow.holds Tryz.pinned (OpenSpec.ofChange viewPastWrong)

/-- 'morainelaw20.ViewGrows': WHATEVER THE INPUT: true; the input reads as it did. -/
def viewGrowsSpec : ChangeSpec := { name := "viewGrows", fn := fun _ => fun
  | [d1, d2, d3] => { results := [.lit (.bool true)], args := [d1, d2, d3] }
  | _ => none }
def viewGrowsRow : OpenClaim := { program := "ytlhmchndcilifaagreat", sum := "2e89755ef8cf8e78f6b95f5c4523514b75b3efd3a4132608c59dc72f353c4c65", func := "moraine/morainelaw20.ViewGrows", spec := "viewGrows", inPlace := ["internal/bytealg.abigen_runtime_cmpstring"], unfollowed := true, recurses := true, apart := false }
def ViewGrowsSaid : Prop := viewGrowsRow.holds Tryz.pinned (OpenSpec.ofChange viewGrowsSpec)

/-- ITS FALSE NEIGHBOUR: 'it returns false'. Refute it at one input. -/
def viewGrowsWrong : ChangeSpec := { name := "viewGrows", fn := fun _ => fun
  | [d1, d2, d3] => { results := [.lit (.bool false)], args := [d1, d2, d3] }
  | _ => none }
def ViewGrowsWrongFalsely : Prop := viewGrowsRow.holds Tryz.pinned (OpenSpec.ofChange viewGrowsWrong)

/- THE SECOND FORM. 'bulk': how many values and letters a reading holds, each counted each time it is reached (what is shared counts as often as it is met; a slice's spare places count too). A statement '..UptoSaid' is the law's where the arguments, and the package variables that the reading takes, are together of bulk at most 1048576: NARROWER than '..Said'. Prove '..Said' where nothing that the law and all that it calls make is longer than what came in: it says more and counts as full. Else prove '..UptoSaid'. A law counts once. -/
mutual
def uptoBulk {H : Type} : DataW H → Nat
  | .lit (.string bytes) => bytes.length + 1
  | .lit _ => 1
  | .nil => 1
  | .ptr d => uptoBulk d + 1
  | .slice elems spare => uptoBulkAll elems + uptoBulkAll spare + 1
  | .agg parts => uptoBulkAll parts + 1
  | .iface _ d => uptoBulk d + 1
  | .map entries => uptoBulkEntries entries + 1
  | .held _ => 1
def uptoBulkAll {H : Type} : List (DataW H) → Nat
  | [] => 0
  | d :: r => uptoBulk d + uptoBulkAll r
def uptoBulkEntries {H : Type} : List (Lit × DataW H) → Nat
  | [] => 0
  | x :: r => uptoBulkEntry x + uptoBulkEntries r
def uptoBulkEntry {H : Type} : Lit × DataW H → Nat
  | (.string bytes, d) => bytes.length + uptoBulk d + 1
  | (_, d) => uptoBulk d + 1
 end
def uptoSmall : (H : Type) → List (DataW H) → Bool := fun _ ds => decide (uptoBulkAll ds ≤ 1048576)
def OpenSpec.upto (s : _root_.Go.ChangeSpec) : _root_.Go.OpenSpec := { _root_.Go.OpenSpec.ofChange s with cond := some uptoSmall }

/-- 'morainelaw20.ViewSeens', WHERE WHAT IT READS IS OF BULK AT MOST 1048576: true; the input reads as it did. -/
def viewSeensUptoRow : OpenClaim := { program := "ytlhmchndcilifaagreat", sum := "2e89755ef8cf8e78f6b95f5c4523514b75b3efd3a4132608c59dc72f353c4c65", func := "moraine/morainelaw20.ViewSeens", spec := "viewSeens", inPlace := ["internal/bytealg.abigen_runtime_cmpstring"], unfollowed := true, recurses := true, apart := false, narrowed := true }
def ViewSeensUptoSaid : Prop := viewSeensUptoRow.holds Tryz.pinned (OpenSpec.upto viewSeensSpec)

/-- 'morainelaw20.ViewWalks', WHERE WHAT IT READS IS OF BULK AT MOST 1048576: true; the input reads as it did. -/
def viewWalksUptoRow : OpenClaim := { program := "ytlhmchndcilifaagreat", sum := "2e89755ef8cf8e78f6b95f5c4523514b75b3efd3a4132608c59dc72f353c4c65", func := "moraine/morainelaw20.ViewWalks", spec := "viewWalks", inPlace := ["internal/bytealg.abigen_runtime_cmpstring"], unfollowed := true, recurses := true, apart := false, narrowed := true }
def ViewWalksUptoSaid : Prop := viewWalksUptoRow.holds Tryz.pinned (OpenSpec.upto viewWalksSpec)

/-- 'morainelaw20.ViewNil', WHERE WHAT IT READS IS OF BULK AT MOST 1048576: true; the input reads as it did. -/
def viewNilUptoRow : OpenClaim := { program := "ytlhmchndcilifaagreat", sum := "2e89755ef8cf8e78f6b95f5c4523514b75b3efd3a4132608c59dc72f353c4c65", func := "moraine/morainelaw20.ViewNil", spec := "viewNil", inPlace := ["internal/bytealg.abigen_runtime_cmpstring"], unfollowed := true, recurses := true, apart := false, narrowed := true }
def ViewNilUptoSaid : Prop := viewNilUptoRow.holds Tryz.pinned (OpenSpec.upto viewNilSpec)

/-- 'morainelaw20.ViewTells', WHERE WHAT IT READS IS OF BULK AT MOST 1048576: true; the input reads as it did. -/
def viewTellsUptoRow : OpenClaim := { program := "ytlhmchndcilifaagreat", sum := "2e89755ef8cf8e78f6b95f5c4523514b75b3efd3a4132608c59dc72f353c4c65", func := "moraine/morainelaw20.ViewTells", spec := "viewTells", inPlace := ["internal/bytealg.abigen_runtime_cmpstring"], unfollowed := true, recurses := true, apart := false, narrowed := true }
def ViewTellsUptoSaid : Prop := viewTellsUptoRow.holds Tryz.pinned (OpenSpec.upto viewTellsSpec)

/-- 'morainelaw20.ViewPast', WHERE WHAT IT READS IS OF BULK AT MOST 1048576: true; the input reads as it did. -/
def viewPastUptoRow : OpenClaim := { program := "ytlhmchndcilifaagreat", sum := "2e89755ef8cf8e78f6b95f5c4523514b75b3efd3a4132608c59dc72f353c4c65", func := "moraine/morainelaw20.ViewPast", spec := "viewPast", inPlace := ["internal/bytealg.abigen_runtime_cmpstring"], unfollowed := true, recurses := true, apart := false, narrowed := true }
def ViewPastUptoSaid : Prop := viewPastUptoRow.holds Tryz.pinned (OpenSpec.upto viewPastSpec)

/-- 'morainelaw20.ViewGrows', WHERE WHAT IT READS IS OF BULK AT MOST 1048576: true; the input reads as it did. -/
def viewGrowsUptoRow : OpenClaim := { program := "ytlhmchndcilifaagreat", sum := "2e89755ef8cf8e78f6b95f5c4523514b75b3efd3a4132608c59dc72f353c4c65", func := "moraine/morainelaw20.ViewGrows", spec := "viewGrows", inPlace := ["internal/bytealg.abigen_runtime_cmpstring"], unfollowed := true, recurses := true, apart := false, narrowed := true }
def ViewGrowsUptoSaid : Prop := viewGrowsUptoRow.holds Tryz.pinned (OpenSpec.upto viewGrowsSpec)

end Rows
end Go.Proofs.YtlhmchndcilifaaGreat
