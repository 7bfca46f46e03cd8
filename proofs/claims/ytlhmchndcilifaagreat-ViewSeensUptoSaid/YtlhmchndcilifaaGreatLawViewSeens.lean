/- What is seen of any entries and tombs, at any number, is the document's, and they stay as they are; for inputs of at most 1048576 parts. -/
import Derived.Test.YtlhmchndcilifaaGreatVzRoViewSeens
namespace Go.Proofs.YtlhmchndcilifaaGreat
/-- The statement, for every input. -/
theorem viewSeens_holds : Rows.ViewSeensUptoSaid := Mo.viewSeens.over
#print axioms viewSeens_holds
end Go.Proofs.YtlhmchndcilifaaGreat
