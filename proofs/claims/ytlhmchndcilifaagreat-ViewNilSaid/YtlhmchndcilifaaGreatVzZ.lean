import Derived.Test.YtlhmchndcilifaaGreatVzTw
import Derived.Test.YtlhmchndcilifaaGreatSyPlain
import Derived.Test.YtlhmchndcilifaaGreatSyEv
set_option linter.unusedVariables false
set_option linter.unusedSectionVars false
set_option linter.unusedSimpArgs false
set_option maxRecDepth 100000
namespace Go.Proofs.YtlhmchndcilifaaGreat.Mo
open Go Go.Proofs.YtlhmchndcilifaaGreat.Sy
theorem works_ev : Ev (fun k => l20_works k) true := ⟨200, fun k hk => by
  obtain ⟨j, rfl⟩ := Nat.exists_eq_add_of_le' hk
  show l20_works (j + 200) = some true
  kernel_rfl⟩
theorem viewNil_law (a0 : List Tomb) (a1 : Int) (a2 : ByteArray) : Ev (fun k => l20_ViewNil k a0 a1 a2) true := by
  unfold l20_ViewNil
  refine Ev.bind works_ev ?_
  have h1 : sEq (ByteArray.mk #[]) (ByteArray.mk #[]) = true := by simp [sEq_refl]
  simp only [h1, Bool.not_true, Bool.or_false, Bool.false_eq_true, if_false]
  exact Ev.ret
end Go.Proofs.YtlhmchndcilifaaGreat.Mo
