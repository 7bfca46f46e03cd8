/-
  No cell of these rows narrows 'for every input' (looked for: loops, veiled, ifaces, maps, wideKeys, modest, calm, conditions, laid).
  DERIVED. THE GIVEN ROWS OF THIS SEAT. 4 by the template 'for every input the law returns true; each argument reads behind the call as it read before'; 0 by the template 'total and deterministic' (their statements: YtmbhgfigffahbaaTotals.lean).
  GIVEN WITH THE SEED: the statements are not yours to turn. If you find one false, say at which input.
  Laid BY PROGRAM, IN A SANDBOX (cutbox-rows.mjs): the forced cells as the released guide's own fill.sh prints them over the translation dee38bbed3e8f48c… (all of the seat's roots in one cut). By AI agents, Wed Nov 11 2026. No macro, syntax, notation, axiom, sorry.
-/
import Derived.Test.YtmbhgfigffahbaaChecked
import GoSem.Claim
import GoSem.ClaimJoined
import GoSem.ClaimMapViews
import Derived.JoinedTies
import Derived.KernelRfl
namespace Go.Proofs.Ytmbhgfigffahbaa
/- THE CELL 'sum', in the pinned program and in every row, IS THE sha256 OF THE DUMP (.gsa) THAT YtmbhgfigffahbaaProg.lean LOADS. Nothing in Lean hashes anything: it is a label: what it is worth is what the hold of that sum in a sandbox is worth. -/
noncomputable def Try.pinned : Pinned := { name := "ytmbhgfigffahbaa", sum := "dee38bbed3e8f48c7f11fd7222cfb75d2b696879fb7280a3bb403f8759f7fc46", checked := Try.checked }
namespace Rows
def none {H : Type} : Left H := { results := [], args := [] }

/-- 'morainelaw09.TombCut': WHATEVER THE INPUT: true; the input reads as it did. -/
def tombCutSpec : ChangeSpec := { name := "tombCut", fn := fun _ => fun
  | [d1, d2] => { results := [.lit (.bool true)], args := [d1, d2] }
  | _ => none }
def tombCutRow : OpenClaim := { program := "ytmbhgfigffahbaa", sum := "dee38bbed3e8f48c7f11fd7222cfb75d2b696879fb7280a3bb403f8759f7fc46", func := "moraine/morainelaw09.TombCut", spec := "tombCut", apart := false }
def TombCutSaid : Prop := tombCutRow.holds Try.pinned (OpenSpec.ofChange tombCutSpec)

/-- ITS FALSE NEIGHBOUR: 'it returns false'. Refute it at one input. -/
def tombCutWrong : ChangeSpec := { name := "tombCut", fn := fun _ => fun
  | [d1, d2] => { results := [.lit (.bool false)], args := [d1, d2] }
  | _ => none }
def TombCutWrongFalsely : Prop := tombCutRow.holds Try.pinned (OpenSpec.ofChange tombCutWrong)

/-- 'morainelaw09.TombPieces': WHATEVER THE INPUT: true; the input reads as it did. -/
def tombPiecesSpec : ChangeSpec := { name := "tombPieces", fn := fun _ => fun
  | [d1, d2] => { results := [.lit (.bool true)], args := [d1, d2] }
  | _ => none }
def tombPiecesRow : OpenClaim := { program := "ytmbhgfigffahbaa", sum := "dee38bbed3e8f48c7f11fd7222cfb75d2b696879fb7280a3bb403f8759f7fc46", func := "moraine/morainelaw09.TombPieces", spec := "tombPieces", recurses := true, apart := false }
def TombPiecesSaid : Prop := tombPiecesRow.holds Try.pinned (OpenSpec.ofChange tombPiecesSpec)

/-- ITS FALSE NEIGHBOUR: 'it returns false'. Refute it at one input. -/
def tombPiecesWrong : ChangeSpec := { name := "tombPieces", fn := fun _ => fun
  | [d1, d2] => { results := [.lit (.bool false)], args := [d1, d2] }
  | _ => none }
def TombPiecesWrongFalsely : Prop := tombPiecesRow.holds Try.pinned (OpenSpec.ofChange tombPiecesWrong)

/-- 'morainelaw09.TombOrder': WHATEVER THE INPUT: true; the input reads as it did. -/
def tombOrderSpec : ChangeSpec := { name := "tombOrder", fn := fun _ => fun
  | [d1, d2, d3] => { results := [.lit (.bool true)], args := [d1, d2, d3] }
  | _ => none }
def tombOrderRow : OpenClaim := { program := "ytmbhgfigffahbaa", sum := "dee38bbed3e8f48c7f11fd7222cfb75d2b696879fb7280a3bb403f8759f7fc46", func := "moraine/morainelaw09.TombOrder", spec := "tombOrder", unfollowed := true, recurses := true, apart := false }
def TombOrderSaid : Prop := tombOrderRow.holds Try.pinned (OpenSpec.ofChange tombOrderSpec)

/-- ITS FALSE NEIGHBOUR: 'it returns false'. Refute it at one input. -/
def tombOrderWrong : ChangeSpec := { name := "tombOrder", fn := fun _ => fun
  | [d1, d2, d3] => { results := [.lit (.bool false)], args := [d1, d2, d3] }
  | _ => none }
def TombOrderWrongFalsely : Prop := tombOrderRow.holds Try.pinned (OpenSpec.ofChange tombOrderWrong)

/-- 'morainelaw09.TombNobody': WHATEVER THE INPUT: true; the input reads as it did. -/
def tombNobodySpec : ChangeSpec := { name := "tombNobody", fn := fun _ => fun
  | [d1, d2, d3] => { results := [.lit (.bool true)], args := [d1, d2, d3] }
  | _ => none }
def tombNobodyRow : OpenClaim := { program := "ytmbhgfigffahbaa", sum := "dee38bbed3e8f48c7f11fd7222cfb75d2b696879fb7280a3bb403f8759f7fc46", func := "moraine/morainelaw09.TombNobody", spec := "tombNobody", unfollowed := true, recurses := true, apart := false }
def TombNobodySaid : Prop := tombNobodyRow.holds Try.pinned (OpenSpec.ofChange tombNobodySpec)

/-- ITS FALSE NEIGHBOUR: 'it returns false'. Refute it at one input. -/
def tombNobodyWrong : ChangeSpec := { name := "tombNobody", fn := fun _ => fun
  | [d1, d2, d3] => { results := [.lit (.bool false)], args := [d1, d2, d3] }
  | _ => none }
def TombNobodyWrongFalsely : Prop := tombNobodyRow.holds Try.pinned (OpenSpec.ofChange tombNobodyWrong)

/- THE SECOND FORM. 'bulk': how many values and letters a reading holds, each counted each time it is reached (what is shared counts as often as it is met; a slice's spare places count too). A statement '..UptoSaid' is the law's where the arguments, and the package variables that the reading takes, are together of bulk at most 1048576: NARROWER than '..Said'. Prove '..Said' where nothing that the law and all that it calls make is longer than what came in: it says more and counts as full. Else prove '..UptoSaid'. A law counts once. -/
mutual
def uptoBulk {H : Type} : DataW H → Nat
  | .lit (.string bytes) => bytes.length + 1
  | .lit _ => 1
  | .nil => 1
  | .ptr d => uptoBulk d + 1
  | .slice elems spare => uptoBulkAll elems + uptoBulkAll spare + 1
  | .agg parts => uptoBulkAll parts + 1
  | .iface _ d => uptoBulk d + 1
  | .map entries => uptoBulkEntries entries + 1
  | .held _ => 1
def uptoBulkAll {H : Type} : List (DataW H) → Nat
  | [] => 0
  | d :: r => uptoBulk d + uptoBulkAll r
def uptoBulkEntries {H : Type} : List (Lit × DataW H) → Nat
  | [] => 0
  | x :: r => uptoBulkEntry x + uptoBulkEntries r
def uptoBulkEntry {H : Type} : Lit × DataW H → Nat
  | (.string bytes, d) => bytes.length + uptoBulk d + 1
  | (_, d) => uptoBulk d + 1
 end
def uptoSmall : (H : Type) → List (DataW H) → Bool := fun _ ds => decide (uptoBulkAll ds ≤ 1048576)
def OpenSpec.upto (s : _root_.Go.ChangeSpec) : _root_.Go.OpenSpec := { _root_.Go.OpenSpec.ofChange s with cond := some uptoSmall }

/-- 'morainelaw09.TombCut', WHERE WHAT IT READS IS OF BULK AT MOST 1048576: true; the input reads as it did. -/
def tombCutUptoRow : OpenClaim := { program := "ytmbhgfigffahbaa", sum := "dee38bbed3e8f48c7f11fd7222cfb75d2b696879fb7280a3bb403f8759f7fc46", func := "moraine/morainelaw09.TombCut", spec := "tombCut", apart := false, narrowed := true }
def TombCutUptoSaid : Prop := tombCutUptoRow.holds Try.pinned (OpenSpec.upto tombCutSpec)

/-- 'morainelaw09.TombPieces', WHERE WHAT IT READS IS OF BULK AT MOST 1048576: true; the input reads as it did. -/
def tombPiecesUptoRow : OpenClaim := { program := "ytmbhgfigffahbaa", sum := "dee38bbed3e8f48c7f11fd7222cfb75d2b696879fb7280a3bb403f8759f7fc46", func := "moraine/morainelaw09.TombPieces", spec := "tombPieces", recurses := true, apart := false, narrowed := true }
def TombPiecesUptoSaid : Prop := tombPiecesUptoRow.holds Try.pinned (OpenSpec.upto tombPiecesSpec)

/-- 'morainelaw09.TombOrder', WHERE WHAT IT READS IS OF BULK AT MOST 1048576: true; the input reads as it did. -/
def tombOrderUptoRow : OpenClaim := { program := "ytmbhgfigffahbaa", sum := "dee38bbed3e8f48c7f11fd7222cfb75d2b696879fb7280a3bb403f8759f7fc46", func := "moraine/morainelaw09.TombOrder", spec := "tombOrder", unfollowed := true, recurses := true, apart := false, narrowed := true }
def TombOrderUptoSaid : Prop := tombOrderUptoRow.holds Try.pinned (OpenSpec.upto tombOrderSpec)

/-- 'morainelaw09.TombNobody', WHERE WHAT IT READS IS OF BULK AT MOST 1048576: true; the input reads as it did. -/
def tombNobodyUptoRow : OpenClaim := { program := "ytmbhgfigffahbaa", sum := "dee38bbed3e8f48c7f11fd7222cfb75d2b696879fb7280a3bb403f8759f7fc46", func := "moraine/morainelaw09.TombNobody", spec := "tombNobody", unfollowed := true, recurses := true, apart := false, narrowed := true }
def TombNobodyUptoSaid : Prop := tombNobodyUptoRow.holds Try.pinned (OpenSpec.upto tombNobodySpec)

end Rows
end Go.Proofs.Ytmbhgfigffahbaa
