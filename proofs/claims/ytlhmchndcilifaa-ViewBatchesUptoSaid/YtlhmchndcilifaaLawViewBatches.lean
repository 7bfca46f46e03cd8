/- What is seen behind each operation is what was seen ahead of it, with the operation done, and what was seen then is seen still; for every list of operations up to a size. -/
import Derived.Test.YtlhmchndcilifaaVwRoViewBatches
namespace Go.Proofs.Ytlhmchndcilifaa
/-- The statement, for every input. -/
theorem viewBatches_holds : Rows.ViewBatchesUptoSaid := Mo.viewBatches.over
#print axioms viewBatches_holds
end Go.Proofs.Ytlhmchndcilifaa
