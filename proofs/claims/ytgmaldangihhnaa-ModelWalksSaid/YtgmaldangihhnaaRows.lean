/-
  No cell of these rows narrows 'for every input' (looked for: loops, veiled, ifaces, maps, wideKeys, modest, calm, conditions, laid).
  DERIVED. THE GIVEN ROWS OF THIS SEAT. 8 by the template 'for every input the law returns true; each argument reads behind the call as it read before'; 0 by the template 'total and deterministic' (their statements: YtgmaldangihhnaaTotals.lean).
  GIVEN WITH THE SEED: the statements are not yours to turn. If you find one false, say at which input.
  Laid BY PROGRAM, IN A SANDBOX (cutbox-rows.mjs): the forced cells as the released guide's own fill.sh prints them over the translation c673bee07dcf1bfc… (all of the seat's roots in one cut). By AI agents, Wed Nov 11 2026. No macro, syntax, notation, axiom, sorry.
-/
import Derived.Test.YtgmaldangihhnaaChecked
import GoSem.Claim
import GoSem.ClaimJoined
import GoSem.ClaimMapViews
import Derived.JoinedTies
import Derived.KernelRfl
namespace Go.Proofs.Ytgmaldangihhnaa
/- THE CELL 'sum', in the pinned program and in every row, IS THE sha256 OF THE DUMP (.gsa) THAT YtgmaldangihhnaaProg.lean LOADS. Nothing in Lean hashes anything: it is a label: what it is worth is what the hold of that sum in a sandbox is worth. -/
noncomputable def Try.pinned : Pinned := { name := "ytgmaldangihhnaa", sum := "c673bee07dcf1bfce8b034887ec5c989f2d2b74c150782b50392b355faf8b28e", checked := Try.checked }
namespace Rows
def none {H : Type} : Left H := { results := [], args := [] }

/-- 'morainelaw26.ModelApplies': WHATEVER THE INPUT: true; the input reads as it did. -/
def modelAppliesSpec : ChangeSpec := { name := "modelApplies", fn := fun _ => fun
  | [d1, d2] => { results := [.lit (.bool true)], args := [d1, d2] }
  | _ => none }
def modelAppliesRow : OpenClaim := { program := "ytgmaldangihhnaa", sum := "c673bee07dcf1bfce8b034887ec5c989f2d2b74c150782b50392b355faf8b28e", func := "moraine/morainelaw26.ModelApplies", spec := "modelApplies", unfollowed := true, recurses := true, apart := false }
def ModelAppliesSaid : Prop := modelAppliesRow.holds Try.pinned (OpenSpec.ofChange modelAppliesSpec)

/-- ITS FALSE NEIGHBOUR: 'it returns false'. Refute it at one input. -/
def modelAppliesWrong : ChangeSpec := { name := "modelApplies", fn := fun _ => fun
  | [d1, d2] => { results := [.lit (.bool false)], args := [d1, d2] }
  | _ => none }
def ModelAppliesWrongFalsely : Prop := modelAppliesRow.holds Try.pinned (OpenSpec.ofChange modelAppliesWrong)

/-- 'morainelaw26.ModelJoins': WHATEVER THE INPUT: true; the input reads as it did. -/
def modelJoinsSpec : ChangeSpec := { name := "modelJoins", fn := fun _ => fun
  | [d1, d2, d3] => { results := [.lit (.bool true)], args := [d1, d2, d3] }
  | _ => none }
def modelJoinsRow : OpenClaim := { program := "ytgmaldangihhnaa", sum := "c673bee07dcf1bfce8b034887ec5c989f2d2b74c150782b50392b355faf8b28e", func := "moraine/morainelaw26.ModelJoins", spec := "modelJoins", unfollowed := true, recurses := true, apart := false }
def ModelJoinsSaid : Prop := modelJoinsRow.holds Try.pinned (OpenSpec.ofChange modelJoinsSpec)

/-- ITS FALSE NEIGHBOUR: 'it returns false'. Refute it at one input. -/
def modelJoinsWrong : ChangeSpec := { name := "modelJoins", fn := fun _ => fun
  | [d1, d2, d3] => { results := [.lit (.bool false)], args := [d1, d2, d3] }
  | _ => none }
def ModelJoinsWrongFalsely : Prop := modelJoinsRow.holds Try.pinned (OpenSpec.ofChange modelJoinsWrong)

/-- 'morainelaw26.ModelWalks': WHATEVER THE INPUT: true; the input reads as it did. -/
def modelWalksSpec : ChangeSpec := { name := "modelWalks", fn := fun _ => fun
  | [d1, d2] => { results := [.lit (.bool true)], args := [d1, d2] }
  | _ => none }
def modelWalksRow : OpenClaim := { program := "ytgmaldangihhnaa", sum := "c673bee07dcf1bfce8b034887ec5c989f2d2b74c150782b50392b355faf8b28e", func := "moraine/morainelaw26.ModelWalks", spec := "modelWalks", unfollowed := true, recurses := true, apart := false }
def ModelWalksSaid : Prop := modelWalksRow.holds Try.pinned (OpenSpec.ofChange modelWalksSpec)

/-- ITS FALSE NEIGHBOUR: 'it returns false'. Refute it at one input. -/
def modelWalksWrong : ChangeSpec := { name := "modelWalks", fn := fun _ => fun
  | [d1, d2] => { results := [.lit (.bool false)], args := [d1, d2] }
  | _ => none }
def ModelWalksWrongFalsely : Prop := modelWalksRow.holds Try.pinned (OpenSpec.ofChange modelWalksWrong)

/-- 'morainelaw26.ModelPlays': WHATEVER THE INPUT: true; the input reads as it did. -/
def modelPlaysSpec : ChangeSpec := { name := "modelPlays", fn := fun _ => fun
  | [d1, d2, d3] => { results := [.lit (.bool true)], args := [d1, d2, d3] }
  | _ => none }
def modelPlaysRow : OpenClaim := { program := "ytgmaldangihhnaa", sum := "c673bee07dcf1bfce8b034887ec5c989f2d2b74c150782b50392b355faf8b28e", func := "moraine/morainelaw26.ModelPlays", spec := "modelPlays", unfollowed := true, recurses := true, apart := false }
def ModelPlaysSaid : Prop := modelPlaysRow.holds Try.pinned (OpenSpec.ofChange modelPlaysSpec)

/-- ITS FALSE NEIGHBOUR: 'it returns false'. Refute it at one input. -/
def modelPlaysWrong : ChangeSpec := { name := "modelPlays", fn := fun _ => fun
  | [d1, d2, d3] => { results := [.lit (.bool false)], args := [d1, d2, d3] }
  | _ => none }
def ModelPlaysWrongFalsely : Prop := modelPlaysRow.holds Try.pinned (OpenSpec.ofChange modelPlaysWrong)

/-- 'morainelaw26.ModelNil': WHATEVER THE INPUT: true; the input reads as it did. -/
def modelNilSpec : ChangeSpec := { name := "modelNil", fn := fun _ => fun
  | [d1, d2, d3] => { results := [.lit (.bool true)], args := [d1, d2, d3] }
  | _ => none }
def modelNilRow : OpenClaim := { program := "ytgmaldangihhnaa", sum := "c673bee07dcf1bfce8b034887ec5c989f2d2b74c150782b50392b355faf8b28e", func := "moraine/morainelaw26.ModelNil", spec := "modelNil", unfollowed := true, recurses := true, apart := false }
def ModelNilSaid : Prop := modelNilRow.holds Try.pinned (OpenSpec.ofChange modelNilSpec)

/-- ITS FALSE NEIGHBOUR: 'it returns false'. Refute it at one input. -/
def modelNilWrong : ChangeSpec := { name := "modelNil", fn := fun _ => fun
  | [d1, d2, d3] => { results := [.lit (.bool false)], args := [d1, d2, d3] }
  | _ => none }
def ModelNilWrongFalsely : Prop := modelNilRow.holds Try.pinned (OpenSpec.ofChange modelNilWrong)

/-- 'morainelaw26.ModelTells': WHATEVER THE INPUT: true; the input reads as it did. -/
def modelTellsSpec : ChangeSpec := { name := "modelTells", fn := fun _ => fun
  | [d1, d2, d3] => { results := [.lit (.bool true)], args := [d1, d2, d3] }
  | _ => none }
def modelTellsRow : OpenClaim := { program := "ytgmaldangihhnaa", sum := "c673bee07dcf1bfce8b034887ec5c989f2d2b74c150782b50392b355faf8b28e", func := "moraine/morainelaw26.ModelTells", spec := "modelTells", unfollowed := true, recurses := true, apart := false }
def ModelTellsSaid : Prop := modelTellsRow.holds Try.pinned (OpenSpec.ofChange modelTellsSpec)

/-- ITS FALSE NEIGHBOUR: 'it returns false'. Refute it at one input. -/
def modelTellsWrong : ChangeSpec := { name := "modelTells", fn := fun _ => fun
  | [d1, d2, d3] => { results := [.lit (.bool false)], args := [d1, d2, d3] }
  | _ => none }
def ModelTellsWrongFalsely : Prop := modelTellsRow.holds Try.pinned (OpenSpec.ofChange modelTellsWrong)

/-- 'morainelaw26.ModelAccepts': WHATEVER THE INPUT: true; the input reads as it did. -/
def modelAcceptsSpec : ChangeSpec := { name := "modelAccepts", fn := fun _ => fun
  | [d1, d2] => { results := [.lit (.bool true)], args := [d1, d2] }
  | _ => none }
def modelAcceptsRow : OpenClaim := { program := "ytgmaldangihhnaa", sum := "c673bee07dcf1bfce8b034887ec5c989f2d2b74c150782b50392b355faf8b28e", func := "moraine/morainelaw26.ModelAccepts", spec := "modelAccepts", unfollowed := true, recurses := true, apart := false }
def ModelAcceptsSaid : Prop := modelAcceptsRow.holds Try.pinned (OpenSpec.ofChange modelAcceptsSpec)

/-- ITS FALSE NEIGHBOUR: 'it returns false'. Refute it at one input. -/
def modelAcceptsWrong : ChangeSpec := { name := "modelAccepts", fn := fun _ => fun
  | [d1, d2] => { results := [.lit (.bool false)], args := [d1, d2] }
  | _ => none }
def ModelAcceptsWrongFalsely : Prop := modelAcceptsRow.holds Try.pinned (OpenSpec.ofChange modelAcceptsWrong)

/-- 'morainelaw26.ModelRefuses': WHATEVER THE INPUT: true; the input reads as it did. -/
def modelRefusesSpec : ChangeSpec := { name := "modelRefuses", fn := fun _ => fun
  | [d1, d2, d3] => { results := [.lit (.bool true)], args := [d1, d2, d3] }
  | _ => none }
def modelRefusesRow : OpenClaim := { program := "ytgmaldangihhnaa", sum := "c673bee07dcf1bfce8b034887ec5c989f2d2b74c150782b50392b355faf8b28e", func := "moraine/morainelaw26.ModelRefuses", spec := "modelRefuses", unfollowed := true, recurses := true, apart := false }
def ModelRefusesSaid : Prop := modelRefusesRow.holds Try.pinned (OpenSpec.ofChange modelRefusesSpec)

/-- ITS FALSE NEIGHBOUR: 'it returns false'. Refute it at one input. -/
def modelRefusesWrong : ChangeSpec := { name := "modelRefuses", fn := fun _ => fun
  | [d1, d2, d3] => { results := [.lit (.bool false)], args := [d1, d2, d3] }
  | _ => none }
def ModelRefusesWrongFalsely : Prop := modelRefusesRow.holds Try.pinned (OpenSpec.ofChange modelRefusesWrong)

/- THE SECOND FORM. 'bulk': how many values and letters a reading holds, each counted each time it is reached (what is shared counts as often as it is met; a slice's spare places count too). A statement '..UptoSaid' is the law's where the arguments, and the package variables that the reading takes, are together of bulk at most 1048576: NARROWER than '..Said'. Prove '..Said' where nothing that the law and all that it calls make is longer than what came in: it says more and counts as full. Else prove '..UptoSaid'. A law counts once. -/
mutual
def uptoBulk {H : Type} : DataW H → Nat
  | .lit (.string bytes) => bytes.length + 1
  | .lit _ => 1
  | .nil => 1
  | .ptr d => uptoBulk d + 1
  | .slice elems spare => uptoBulkAll elems + uptoBulkAll spare + 1
  | .agg parts => uptoBulkAll parts + 1
  | .iface _ d => uptoBulk d + 1
  | .map entries => uptoBulkEntries entries + 1
  | .held _ => 1
def uptoBulkAll {H : Type} : List (DataW H) → Nat
  | [] => 0
  | d :: r => uptoBulk d + uptoBulkAll r
def uptoBulkEntries {H : Type} : List (Lit × DataW H) → Nat
  | [] => 0
  | x :: r => uptoBulkEntry x + uptoBulkEntries r
def uptoBulkEntry {H : Type} : Lit × DataW H → Nat
  | (.string bytes, d) => bytes.length + uptoBulk d + 1
  | (_, d) => uptoBulk d + 1
 end
def uptoSmall : (H : Type) → List (DataW H) → Bool := fun _ ds => decide (uptoBulkAll ds ≤ 1048576)
def OpenSpec.upto (s : _root_.Go.ChangeSpec) : _root_.Go.OpenSpec := { _root_.Go.OpenSpec.ofChange s with cond := some uptoSmall }

/-- 'morainelaw26.ModelApplies', WHERE WHAT IT READS IS OF BULK AT MOST 1048576: true; the input reads as it did. -/
def modelAppliesUptoRow : OpenClaim := { program := "ytgmaldangihhnaa", sum := "c673bee07dcf1bfce8b034887ec5c989f2d2b74c150782b50392b355faf8b28e", func := "moraine/morainelaw26.ModelApplies", spec := "modelApplies", unfollowed := true, recurses := true, apart := false, narrowed := true }
def ModelAppliesUptoSaid : Prop := modelAppliesUptoRow.holds Try.pinned (OpenSpec.upto modelAppliesSpec)

/-- 'morainelaw26.ModelJoins', WHERE WHAT IT READS IS OF BULK AT MOST 1048576: true; the input reads as it did. -/
def modelJoinsUptoRow : OpenClaim := { program := "ytgmaldangihhnaa", sum := "c673bee07dcf1bfce8b034887ec5c989f2d2b74c150782b50392b355faf8b28e", func := "moraine/morainelaw26.ModelJoins", spec := "modelJoins", unfollowed := true, recurses := true, apart := false, narrowed := true }
def ModelJoinsUptoSaid : Prop := modelJoinsUptoRow.holds Try.pinned (OpenSpec.upto modelJoinsSpec)

/-- 'morainelaw26.ModelWalks', WHERE WHAT IT READS IS OF BULK AT MOST 1048576: true; the input reads as it did. -/
def modelWalksUptoRow : OpenClaim := { program := "ytgmaldangihhnaa", sum := "c673bee07dcf1bfce8b034887ec5c989f2d2b74c150782b50392b355faf8b28e", func := "moraine/morainelaw26.ModelWalks", spec := "modelWalks", unfollowed := true, recurses := true, apart := false, narrowed := true }
def ModelWalksUptoSaid : Prop := modelWalksUptoRow.holds Try.pinned (OpenSpec.upto modelWalksSpec)

/-- 'morainelaw26.ModelPlays', WHERE WHAT IT READS IS OF BULK AT MOST 1048576: true; the input reads as it did. -/
def modelPlaysUptoRow : OpenClaim := { program := "ytgmaldangihhnaa", sum := "c673bee07dcf1bfce8b034887ec5c989f2d2b74c150782b50392b355faf8b28e", func := "moraine/morainelaw26.ModelPlays", spec := "modelPlays", unfollowed := true, recurses := true, apart := false, narrowed := true }
def ModelPlaysUptoSaid : Prop := modelPlaysUptoRow.holds Try.pinned (OpenSpec.upto modelPlaysSpec)

/-- 'morainelaw26.ModelNil', WHERE WHAT IT READS IS OF BULK AT MOST 1048576: true; the input reads as it did. -/
def modelNilUptoRow : OpenClaim := { program := "ytgmaldangihhnaa", sum := "c673bee07dcf1bfce8b034887ec5c989f2d2b74c150782b50392b355faf8b28e", func := "moraine/morainelaw26.ModelNil", spec := "modelNil", unfollowed := true, recurses := true, apart := false, narrowed := true }
def ModelNilUptoSaid : Prop := modelNilUptoRow.holds Try.pinned (OpenSpec.upto modelNilSpec)

/-- 'morainelaw26.ModelTells', WHERE WHAT IT READS IS OF BULK AT MOST 1048576: true; the input reads as it did. -/
def modelTellsUptoRow : OpenClaim := { program := "ytgmaldangihhnaa", sum := "c673bee07dcf1bfce8b034887ec5c989f2d2b74c150782b50392b355faf8b28e", func := "moraine/morainelaw26.ModelTells", spec := "modelTells", unfollowed := true, recurses := true, apart := false, narrowed := true }
def ModelTellsUptoSaid : Prop := modelTellsUptoRow.holds Try.pinned (OpenSpec.upto modelTellsSpec)

/-- 'morainelaw26.ModelAccepts', WHERE WHAT IT READS IS OF BULK AT MOST 1048576: true; the input reads as it did. -/
def modelAcceptsUptoRow : OpenClaim := { program := "ytgmaldangihhnaa", sum := "c673bee07dcf1bfce8b034887ec5c989f2d2b74c150782b50392b355faf8b28e", func := "moraine/morainelaw26.ModelAccepts", spec := "modelAccepts", unfollowed := true, recurses := true, apart := false, narrowed := true }
def ModelAcceptsUptoSaid : Prop := modelAcceptsUptoRow.holds Try.pinned (OpenSpec.upto modelAcceptsSpec)

/-- 'morainelaw26.ModelRefuses', WHERE WHAT IT READS IS OF BULK AT MOST 1048576: true; the input reads as it did. -/
def modelRefusesUptoRow : OpenClaim := { program := "ytgmaldangihhnaa", sum := "c673bee07dcf1bfce8b034887ec5c989f2d2b74c150782b50392b355faf8b28e", func := "moraine/morainelaw26.ModelRefuses", spec := "modelRefuses", unfollowed := true, recurses := true, apart := false, narrowed := true }
def ModelRefusesUptoSaid : Prop := modelRefusesUptoRow.holds Try.pinned (OpenSpec.upto modelRefusesSpec)

end Rows
end Go.Proofs.Ytgmaldangihhnaa
