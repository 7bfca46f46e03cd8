import Derived.Test.YtckjpkecipgeiaaVPo
import Derived.KernelRfl
set_option linter.unusedVariables false
set_option linter.unusedSimpArgs false
set_option maxRecDepth 100000
namespace Go.Proofs.Ytckjpkecipgeiaa.Mo
open Go Go.Proofs.Ytckjpkecipgeiaa.Sy
def exL : List (List File) := [[⟨4, 10, ⟨#[97]⟩, ⟨#[99]⟩, 1, 1⟩, ⟨6, 10, ⟨#[100]⟩, ⟨#[101]⟩, 1, 1⟩, ⟨7, 10, ⟨#[98]⟩, ⟨#[100]⟩, 1, 1⟩], [⟨2, 30, ⟨#[97]⟩, ⟨#[98]⟩, 1, 1⟩, ⟨3, 30, ⟨#[120]⟩, ⟨#[122]⟩, 1, 1⟩], []]
def exC : Config := ⟨0, 0, 0, (⟨0, 0, 0⟩ : Shape), 50, 2, 0, 100, 10, 3, 0, 0, 0, []⟩
theorem exL_good : goodL exL := by
  refine ⟨?_, by decide⟩
  intro y hy
  simp only [exL, List.mem_cons, List.not_mem_nil, or_false] at hy
  rcases hy with rfl | rfl | rfl
  · refine ⟨by decide, fun f hf => ?_⟩
    simp only [List.mem_cons, List.not_mem_nil, or_false] at hf
    rcases hf with rfl | rfl | rfl <;> exact (show wfi .i64 _ = true by decide)
  · refine ⟨by decide, fun f hf => ?_⟩
    simp only [List.mem_cons, List.not_mem_nil, or_false] at hf
    rcases hf with rfl | rfl <;> exact (show wfi .i64 _ = true by decide)
  · exact ⟨by decide, fun f hf => by simp at hf⟩
theorem exN : nextS exL exC [] = (⟨0, [⟨4, 10, ⟨#[97]⟩, ⟨#[99]⟩, 1, 1⟩, ⟨7, 10, ⟨#[98]⟩, ⟨#[100]⟩, 1, 1⟩], [⟨2, 30, ⟨#[97]⟩, ⟨#[98]⟩, 1, 1⟩], false⟩, true) := by kernel_rfl
theorem exS0 : scoreS exL exC 0 = 1500 := by kernel_rfl
theorem exS1 : scoreS exL exC 1 = 600 := by kernel_rfl
theorem works_ev : Ev (fun k => l22_works k) true := by
  unfold l22_works
  refine Ev.bind0 rfl (Ev.bind0 rfl (Ev.bind0 rfl (Ev.bind0 rfl (Ev.bind0 rfl ?_))))
  have hn : Ev (fun k => pick_Next k exL exC []) _ := next_ev exL exL_good exC []
  rw [exN] at hn
  refine Ev.bind hn ?_
  have h0 := score_ev exL exL_good exC 0
  have h1 := score_ev exL exL_good exC 1
  rw [exS0] at h0
  rw [exS1] at h1
  simp only [Jn, if_true]
  refine Ev.bind h0 ?_
  have e : ((1500 : Int) == 1500) = true := rfl
  simp only [e, if_true]
  refine Ev.bind h1 ?_
  refine Ev.of fun k => ?_
  kernel_rfl
end Go.Proofs.Ytckjpkecipgeiaa.Mo
