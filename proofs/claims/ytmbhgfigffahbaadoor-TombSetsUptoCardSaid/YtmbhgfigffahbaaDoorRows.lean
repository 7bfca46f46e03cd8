/-
  NARROWER THAN 'FOR EVERY INPUT', by the rows' own cells (each row's printed sentence says how): TombCuts: laid · TombCovers: laid · TombFragments: laid · TombSets: laid.
  DERIVED. THE GIVEN ROWS OF THIS SEAT. 4 by the template 'for every input the law returns true; each argument reads behind the call as it read before'; 0 by the template 'total and deterministic' (their statements: YtmbhgfigffahbaaDoorTotals.lean).
  GIVEN WITH THE SEED: the statements are not yours to turn. If you find one false, say at which input.
  Laid BY PROGRAM, IN A SANDBOX (cutbox-rows.mjs): the forced cells as the released guide's own fill.sh prints them over the translation a9e1c3c65f6c1fe4… (all of the seat's roots in one cut). By AI agents, Wed Nov 11 2026. No macro, syntax, notation, axiom, sorry.
-/
import Derived.Test.YtmbhgfigffahbaaDoorChecked
import GoSem.Claim
import GoSem.ClaimJoined
import GoSem.ClaimMapViews
import Derived.JoinedTies
import Derived.KernelRfl
namespace Go.Proofs.YtmbhgfigffahbaaDoor
/- THE CELL 'sum', in the pinned program and in every row, IS THE sha256 OF THE DUMP (.gsa) THAT YtmbhgfigffahbaaDoorProg.lean LOADS. Nothing in Lean hashes anything: it is a label: what it is worth is what the hold of that sum in a sandbox is worth. -/
noncomputable def Tryd.pinned : Pinned := { name := "ytmbhgfigffahbaadoor", sum := "a9e1c3c65f6c1fe46728e65b198ab5a9f2235b6a05ca407a1b843635543c6e35", checked := Tryd.checked }
namespace Rows
def none {H : Type} : Left H := { results := [], args := [] }

/- WHAT THE LISTED PACKAGE-LEVEL VARIABLES READ AS WHEN THE CALL BEGINS. Each datum BY PROGRAM (the guide's laid-datum.mjs) off the statement by which the dump's own 'gosem.cut.vars' lays the variable. In a bare row this is a premise. The card (YtmbhgfigffahbaaDoorCards.lean) ties it to the program's text. -/
def laid_moraine_morainelaw09_mark {H : Type} : DataW H := .agg [.lit (.string [109, 97, 114, 107]), .lit (.string [110, 97, 114, 107]), .lit (.int .u64 77)]

/-- 'morainelaw09.TombCuts': WHATEVER THE INPUT: true; the input reads as it did. -/
def tombCutsSpec : ChangeSpec := { name := "tombCuts", fn := fun _ => fun
  | [d1, d2, d3] => { results := [.lit (.bool true)], args := [d1, d2, d3] }
  | _ => none }
def tombCutsRow : OpenClaim := { program := "ytmbhgfigffahbaadoor", sum := "a9e1c3c65f6c1fe46728e65b198ab5a9f2235b6a05ca407a1b843635543c6e35", func := "moraine/morainelaw09.TombCuts", spec := "tombCuts", named := ["moraine/morainelaw09.mark"], apart := false, laid := [("moraine/morainelaw09.mark", laid_moraine_morainelaw09_mark)] }
def TombCutsSaid : Prop := tombCutsRow.holds Tryd.pinned (OpenSpec.ofChange tombCutsSpec)

/-- ITS FALSE NEIGHBOUR: 'it returns false'. Refute it at one input. -/
def tombCutsWrong : ChangeSpec := { name := "tombCuts", fn := fun _ => fun
  | [d1, d2, d3] => { results := [.lit (.bool false)], args := [d1, d2, d3] }
  | _ => none }
def TombCutsWrongFalsely : Prop := tombCutsRow.holds Tryd.pinned (OpenSpec.ofChange tombCutsWrong)

/-- 'morainelaw09.TombCovers': WHATEVER THE INPUT: true; the input reads as it did. -/
def tombCoversSpec : ChangeSpec := { name := "tombCovers", fn := fun _ => fun
  | [d1, d2, d3] => { results := [.lit (.bool true)], args := [d1, d2, d3] }
  | _ => none }
def tombCoversRow : OpenClaim := { program := "ytmbhgfigffahbaadoor", sum := "a9e1c3c65f6c1fe46728e65b198ab5a9f2235b6a05ca407a1b843635543c6e35", func := "moraine/morainelaw09.TombCovers", spec := "tombCovers", named := ["moraine/morainelaw09.mark"], apart := false, laid := [("moraine/morainelaw09.mark", laid_moraine_morainelaw09_mark)] }
def TombCoversSaid : Prop := tombCoversRow.holds Tryd.pinned (OpenSpec.ofChange tombCoversSpec)

/-- ITS FALSE NEIGHBOUR: 'it returns false'. Refute it at one input. -/
def tombCoversWrong : ChangeSpec := { name := "tombCovers", fn := fun _ => fun
  | [d1, d2, d3] => { results := [.lit (.bool false)], args := [d1, d2, d3] }
  | _ => none }
def TombCoversWrongFalsely : Prop := tombCoversRow.holds Tryd.pinned (OpenSpec.ofChange tombCoversWrong)

/-- 'morainelaw09.TombFragments': WHATEVER THE INPUT: true; the input reads as it did. -/
def tombFragmentsSpec : ChangeSpec := { name := "tombFragments", fn := fun _ => fun
  | [d] => { results := [.lit (.bool true)], args := [d] }
  | _ => none }
def tombFragmentsRow : OpenClaim := { program := "ytmbhgfigffahbaadoor", sum := "a9e1c3c65f6c1fe46728e65b198ab5a9f2235b6a05ca407a1b843635543c6e35", func := "moraine/morainelaw09.TombFragments", spec := "tombFragments", recurses := true, named := ["moraine/morainelaw09.mark"], apart := false, laid := [("moraine/morainelaw09.mark", laid_moraine_morainelaw09_mark)] }
def TombFragmentsSaid : Prop := tombFragmentsRow.holds Tryd.pinned (OpenSpec.ofChange tombFragmentsSpec)

/-- ITS FALSE NEIGHBOUR: 'it returns false'. Refute it at one input. -/
def tombFragmentsWrong : ChangeSpec := { name := "tombFragments", fn := fun _ => fun
  | [d] => { results := [.lit (.bool false)], args := [d] }
  | _ => none }
def TombFragmentsWrongFalsely : Prop := tombFragmentsRow.holds Tryd.pinned (OpenSpec.ofChange tombFragmentsWrong)

/-- 'morainelaw09.TombSets': WHATEVER THE INPUT: true; the input reads as it did. -/
def tombSetsSpec : ChangeSpec := { name := "tombSets", fn := fun _ => fun
  | [d1, d2, d3] => { results := [.lit (.bool true)], args := [d1, d2, d3] }
  | _ => none }
def tombSetsRow : OpenClaim := { program := "ytmbhgfigffahbaadoor", sum := "a9e1c3c65f6c1fe46728e65b198ab5a9f2235b6a05ca407a1b843635543c6e35", func := "moraine/morainelaw09.TombSets", spec := "tombSets", unfollowed := true, recurses := true, named := ["moraine/morainelaw09.mark"], apart := false, laid := [("moraine/morainelaw09.mark", laid_moraine_morainelaw09_mark)] }
def TombSetsSaid : Prop := tombSetsRow.holds Tryd.pinned (OpenSpec.ofChange tombSetsSpec)

/-- ITS FALSE NEIGHBOUR: 'it returns false'. Refute it at one input. -/
def tombSetsWrong : ChangeSpec := { name := "tombSets", fn := fun _ => fun
  | [d1, d2, d3] => { results := [.lit (.bool false)], args := [d1, d2, d3] }
  | _ => none }
def TombSetsWrongFalsely : Prop := tombSetsRow.holds Tryd.pinned (OpenSpec.ofChange tombSetsWrong)

/- THE SECOND FORM. 'bulk': how many values and letters a reading holds, each counted each time it is reached (what is shared counts as often as it is met; a slice's spare places count too). A statement '..UptoSaid' is the law's where the arguments, and the package variables that the reading takes, are together of bulk at most 1048576: NARROWER than '..Said'. Prove '..Said' where nothing that the law and all that it calls make is longer than what came in: it says more and counts as full. Else prove '..UptoSaid'. A law counts once. -/
mutual
def uptoBulk {H : Type} : DataW H → Nat
  | .lit (.string bytes) => bytes.length + 1
  | .lit _ => 1
  | .nil => 1
  | .ptr d => uptoBulk d + 1
  | .slice elems spare => uptoBulkAll elems + uptoBulkAll spare + 1
  | .agg parts => uptoBulkAll parts + 1
  | .iface _ d => uptoBulk d + 1
  | .map entries => uptoBulkEntries entries + 1
  | .held _ => 1
def uptoBulkAll {H : Type} : List (DataW H) → Nat
  | [] => 0
  | d :: r => uptoBulk d + uptoBulkAll r
def uptoBulkEntries {H : Type} : List (Lit × DataW H) → Nat
  | [] => 0
  | x :: r => uptoBulkEntry x + uptoBulkEntries r
def uptoBulkEntry {H : Type} : Lit × DataW H → Nat
  | (.string bytes, d) => bytes.length + uptoBulk d + 1
  | (_, d) => uptoBulk d + 1
 end
def uptoSmall : (H : Type) → List (DataW H) → Bool := fun _ ds => decide (uptoBulkAll ds ≤ 1048576)
def OpenSpec.upto (s : _root_.Go.ChangeSpec) : _root_.Go.OpenSpec := { _root_.Go.OpenSpec.ofChange s with cond := some uptoSmall }

/-- 'morainelaw09.TombCuts', WHERE WHAT IT READS IS OF BULK AT MOST 1048576: true; the input reads as it did. -/
def tombCutsUptoRow : OpenClaim := { program := "ytmbhgfigffahbaadoor", sum := "a9e1c3c65f6c1fe46728e65b198ab5a9f2235b6a05ca407a1b843635543c6e35", func := "moraine/morainelaw09.TombCuts", spec := "tombCuts", named := ["moraine/morainelaw09.mark"], apart := false, laid := [("moraine/morainelaw09.mark", laid_moraine_morainelaw09_mark)], narrowed := true }
def TombCutsUptoSaid : Prop := tombCutsUptoRow.holds Tryd.pinned (OpenSpec.upto tombCutsSpec)

/-- 'morainelaw09.TombCovers', WHERE WHAT IT READS IS OF BULK AT MOST 1048576: true; the input reads as it did. -/
def tombCoversUptoRow : OpenClaim := { program := "ytmbhgfigffahbaadoor", sum := "a9e1c3c65f6c1fe46728e65b198ab5a9f2235b6a05ca407a1b843635543c6e35", func := "moraine/morainelaw09.TombCovers", spec := "tombCovers", named := ["moraine/morainelaw09.mark"], apart := false, laid := [("moraine/morainelaw09.mark", laid_moraine_morainelaw09_mark)], narrowed := true }
def TombCoversUptoSaid : Prop := tombCoversUptoRow.holds Tryd.pinned (OpenSpec.upto tombCoversSpec)

/-- 'morainelaw09.TombFragments', WHERE WHAT IT READS IS OF BULK AT MOST 1048576: true; the input reads as it did. -/
def tombFragmentsUptoRow : OpenClaim := { program := "ytmbhgfigffahbaadoor", sum := "a9e1c3c65f6c1fe46728e65b198ab5a9f2235b6a05ca407a1b843635543c6e35", func := "moraine/morainelaw09.TombFragments", spec := "tombFragments", recurses := true, named := ["moraine/morainelaw09.mark"], apart := false, laid := [("moraine/morainelaw09.mark", laid_moraine_morainelaw09_mark)], narrowed := true }
def TombFragmentsUptoSaid : Prop := tombFragmentsUptoRow.holds Tryd.pinned (OpenSpec.upto tombFragmentsSpec)

/-- 'morainelaw09.TombSets', WHERE WHAT IT READS IS OF BULK AT MOST 1048576: true; the input reads as it did. -/
def tombSetsUptoRow : OpenClaim := { program := "ytmbhgfigffahbaadoor", sum := "a9e1c3c65f6c1fe46728e65b198ab5a9f2235b6a05ca407a1b843635543c6e35", func := "moraine/morainelaw09.TombSets", spec := "tombSets", unfollowed := true, recurses := true, named := ["moraine/morainelaw09.mark"], apart := false, laid := [("moraine/morainelaw09.mark", laid_moraine_morainelaw09_mark)], narrowed := true }
def TombSetsUptoSaid : Prop := tombSetsUptoRow.holds Tryd.pinned (OpenSpec.upto tombSetsSpec)

end Rows
end Go.Proofs.YtmbhgfigffahbaaDoor
