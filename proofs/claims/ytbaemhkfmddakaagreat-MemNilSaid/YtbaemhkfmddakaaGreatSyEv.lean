import Derived.Test.YtbaemhkfmddakaaGreatSyPlain
import Derived.Test.YtbaemhkfmddakaaGreatSyMap
set_option linter.unusedVariables false
set_option linter.unusedSectionVars false
set_option linter.unusedSimpArgs false
namespace Go.Proofs.YtbaemhkfmddakaaGreat.Sy
open Go
def Ev {α : Type} (f : Nat → Option α) (a : α) : Prop := ∃ n, ∀ k, n ≤ k → f k = some a
section
variable {α β : Type} {f : Nat → Option α} {a : α} {b : β}
theorem Ev.ret : Ev (fun _ => some a) a := ⟨0, fun _ _ => rfl⟩
theorem Ev.bind {g : Nat → α → Option β} (hf : Ev f a) (hg : Ev (fun k => g k a) b) : Ev (fun k => (f k).bind (g k)) b := by
  obtain ⟨n, hn⟩ := hf
  obtain ⟨m, hm⟩ := hg
  exact ⟨max n m, fun k hk => by show (f k).bind (g k) = some b; rw [hn k (by omega)]; exact hm k (by omega)⟩
theorem Ev.ex (h : Ev f a) : ∃ k, f k = some a := by
  obtain ⟨n, hn⟩ := h
  exact ⟨n, hn n (Nat.le_refl _)⟩
end
end Go.Proofs.YtbaemhkfmddakaaGreat.Sy
