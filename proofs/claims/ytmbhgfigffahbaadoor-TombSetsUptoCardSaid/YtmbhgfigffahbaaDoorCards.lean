/-
  DERIVED. GIVEN WITH THE SEED: THE CARDS: each row of YtmbhgfigffahbaaDoorRows.lean that lists a variable, with what it lists TIED to the program's text (the seventh form; the later family's looks); each row that meets fmt, with fmt's text TOLD by the authors' own Lean function (tested against real Go, not proved from fmt's source: count such statements apart). THE CARD IS WHAT COUNTS. Prove the row's statement (the work); the ties are given (YtmbhgfigffahbaaDoorTie.lean); close each card by the builder's one call (the guide's Derived/Test/ToyasCard.lean, 'card_holds'). Laid BY PROGRAM, IN A SANDBOX (cutbox-door.mjs). By AI agents, Wed Nov 11 2026. No macro, syntax, notation, axiom, sorry.
-/
import Derived.Test.YtmbhgfigffahbaaDoorRows
import GoSem.ClaimSeven
namespace Go.Proofs.YtmbhgfigffahbaaDoor
namespace Rows

/-- THE TIED CARD OF 'morainelaw09.TombCuts'. -/
def tombCutsCard : Claim7 := { stood := { row := tombCutsRow, standIns := [], harness := (true, "e89d87ef212ac1e92bf98892dd99c956dc9ebe29b9391eb27f00481418368fe6"), looks := false }, kinds := [], alts := [], laidByText := true, laidKinds := [.data], laidTests := true, laidLooks := .later }
def TombCutsCardSaid : Prop := Claim7.holds Tryd.pinned (.plain (OpenSpec.ofChange tombCutsSpec)) tombCutsCard

/-- THE TIED CARD OF 'morainelaw09.TombCovers'. -/
def tombCoversCard : Claim7 := { stood := { row := tombCoversRow, standIns := [], harness := (true, "e89d87ef212ac1e92bf98892dd99c956dc9ebe29b9391eb27f00481418368fe6"), looks := false }, kinds := [], alts := [], laidByText := true, laidKinds := [.data], laidTests := true, laidLooks := .later }
def TombCoversCardSaid : Prop := Claim7.holds Tryd.pinned (.plain (OpenSpec.ofChange tombCoversSpec)) tombCoversCard

/-- THE TIED CARD OF 'morainelaw09.TombFragments'. -/
def tombFragmentsCard : Claim7 := { stood := { row := tombFragmentsRow, standIns := [], harness := (true, "e89d87ef212ac1e92bf98892dd99c956dc9ebe29b9391eb27f00481418368fe6"), looks := false }, kinds := [], alts := [], laidByText := true, laidKinds := [.data], laidTests := true, laidLooks := .later }
def TombFragmentsCardSaid : Prop := Claim7.holds Tryd.pinned (.plain (OpenSpec.ofChange tombFragmentsSpec)) tombFragmentsCard

/-- THE TIED CARD OF 'morainelaw09.TombSets'. -/
def tombSetsCard : Claim7 := { stood := { row := tombSetsRow, standIns := [], harness := (true, "e89d87ef212ac1e92bf98892dd99c956dc9ebe29b9391eb27f00481418368fe6"), looks := false }, kinds := [], alts := [], laidByText := true, laidKinds := [.data], laidTests := true, laidLooks := .later }
def TombSetsCardSaid : Prop := Claim7.holds Tryd.pinned (.plain (OpenSpec.ofChange tombSetsSpec)) tombSetsCard

/-- THE SECOND FORM's CARD OF 'morainelaw09.TombCuts'. -/
def tombCutsUptoCard : Claim7 := { stood := { row := tombCutsUptoRow, standIns := [], harness := (true, "e89d87ef212ac1e92bf98892dd99c956dc9ebe29b9391eb27f00481418368fe6"), looks := false }, kinds := [], alts := [], laidByText := true, laidKinds := [.data], laidTests := true, laidLooks := .later }
def TombCutsUptoCardSaid : Prop := Claim7.holds Tryd.pinned (.plain (OpenSpec.upto tombCutsSpec)) tombCutsUptoCard

/-- THE SECOND FORM's CARD OF 'morainelaw09.TombCovers'. -/
def tombCoversUptoCard : Claim7 := { stood := { row := tombCoversUptoRow, standIns := [], harness := (true, "e89d87ef212ac1e92bf98892dd99c956dc9ebe29b9391eb27f00481418368fe6"), looks := false }, kinds := [], alts := [], laidByText := true, laidKinds := [.data], laidTests := true, laidLooks := .later }
def TombCoversUptoCardSaid : Prop := Claim7.holds Tryd.pinned (.plain (OpenSpec.upto tombCoversSpec)) tombCoversUptoCard

/-- THE SECOND FORM's CARD OF 'morainelaw09.TombFragments'. -/
def tombFragmentsUptoCard : Claim7 := { stood := { row := tombFragmentsUptoRow, standIns := [], harness := (true, "e89d87ef212ac1e92bf98892dd99c956dc9ebe29b9391eb27f00481418368fe6"), looks := false }, kinds := [], alts := [], laidByText := true, laidKinds := [.data], laidTests := true, laidLooks := .later }
def TombFragmentsUptoCardSaid : Prop := Claim7.holds Tryd.pinned (.plain (OpenSpec.upto tombFragmentsSpec)) tombFragmentsUptoCard

/-- THE SECOND FORM's CARD OF 'morainelaw09.TombSets'. -/
def tombSetsUptoCard : Claim7 := { stood := { row := tombSetsUptoRow, standIns := [], harness := (true, "e89d87ef212ac1e92bf98892dd99c956dc9ebe29b9391eb27f00481418368fe6"), looks := false }, kinds := [], alts := [], laidByText := true, laidKinds := [.data], laidTests := true, laidLooks := .later }
def TombSetsUptoCardSaid : Prop := Claim7.holds Tryd.pinned (.plain (OpenSpec.upto tombSetsSpec)) tombSetsUptoCard
end Rows
end Go.Proofs.YtmbhgfigffahbaaDoor
